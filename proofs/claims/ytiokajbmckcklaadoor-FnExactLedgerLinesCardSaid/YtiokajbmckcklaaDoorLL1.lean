/- The walk of what this claim reaches: printed by a program, each equation checked by the kernel. -/
import Derived.Test.YtiokajbmckcklaaDoorVEzc
import Derived.Test.YtiokajbmckcklaaDoorLAY4a
import Derived.Test.YtiokajbmckcklaaDoorLAY4b
import Derived.Test.YtiokajbmckcklaaDoorGL4
import Derived.Test.YtiokajbmckcklaaDoorProg
import Derived.KernelRfl
namespace Go.Proofs.YtiokajbmckcklaaDoor
open Go Go.Proofs.VE
set_option linter.unusedVariables false
set_option linter.unusedSimpArgs false
set_option maxRecDepth 100000
set_option maxHeartbeats 4000000
theorem mixed : Tryd.prog.follows .mixedOrders = true := by kernel_rfl
/-! ### 25 loop.example/g01984/laws.szChargeS -/
noncomputable def c25 : Cfg := cfg Tryd.prog [(25, 999, [4])] [] [] [] []
def q25 (a0 : List AV) (a1 : Int) : Bool := true
def v25_0 (a0 : List AV) (a1 : Int) : Int := (bif decide (IntKind.i64.wrap (a1 - (a0.length : Int)) < 0) then (-1) else IntKind.i64.wrap (a1 - (a0.length : Int)))
theorem e25 (a0 : List AV) (a1 : Int) : funA c25 0 25 [AV.sl [.int .i64, .int .i64, .int .i64, .int .i64, .int .i64] a0, AV.int .i64 a1] = (bif decide (IntKind.i64.wrap (a1 - (a0.length : Int)) < 0) then some (AV.int .i64 (-1))
  else some (AV.int .i64 (IntKind.i64.wrap (a1 - (a0.length : Int))))) := by kernel_rfl
theorem r25 (a0 : List AV) (a1 : Int) : funA c25 0 25 [AV.sl [.int .i64, .int .i64, .int .i64, .int .i64, .int .i64] a0, AV.int .i64 a1] = some (AV.int .i64 (v25_0 a0 a1)) := (e25 a0 a1).trans (of_tt (brT (fun b => some (AV.int .i64 (bif b then (-1) else IntKind.i64.wrap (a1 - (a0.length : Int))))) (fun _ => rfl) (fun _ => rfl)))
def m25 : TModel
  | [.sl g0 a0, .int .i64 a1] => bif ctsEq g0 ([.int .i64, .int .i64, .int .i64, .int .i64, .int .i64]) then some (true, AV.int .i64 (v25_0 a0 a1)) else none
  | _ => none
theorem k25 : Known Tryd.prog 25 := ⟨Tryd.f25, Tryd.func25, by kernel_rfl, by kernel_rfl⟩
theorem meets25 : Meets Tryd.prog 25 m25 := by
  refine meet (f := Tryd.f25) (l := []) (hs := [(25, 999, [4])]) (ts := []) (ws := []) (is := []) (ls := []) (lvl := 0) mixed k25 Tryd.func25 (by kernel_rfl) noLoop allT_nil allM_nil noI fun w xs us r hl hv h => ?_
  unfold m25 at h
  split at h
  · rename_i g0 a0 a1
    obtain ⟨hg, h⟩ := bif_pair h
    have q0 := hg
    obtain rfl := ctsEq_eq _ _ q0
    obtain ⟨h1, rfl⟩ := pair_inj h
    exact r25 a0 a1
  · cases h

/-! ### 58 loop.example/g01984/laws.toCharge -/
noncomputable def c58 : Cfg := cfg Tryd.prog [(58, 999, [2])] [] [] [] []
def q58 (a0_0 : Int) (a0_1 : Int) (a0_2 : Int) (a0_3 : Int) (a0_4 : Int) : Bool := true
def v58_0 (a0_0 : Int) (a0_1 : Int) (a0_2 : Int) (a0_3 : Int) (a0_4 : Int) : Int := a0_0
def v58_1 (a0_0 : Int) (a0_1 : Int) (a0_2 : Int) (a0_3 : Int) (a0_4 : Int) : Int := a0_1
def v58_2 (a0_0 : Int) (a0_1 : Int) (a0_2 : Int) (a0_3 : Int) (a0_4 : Int) : Int := a0_2
def v58_3 (a0_0 : Int) (a0_1 : Int) (a0_2 : Int) (a0_3 : Int) (a0_4 : Int) : Int := a0_3
def v58_4 (a0_0 : Int) (a0_1 : Int) (a0_2 : Int) (a0_3 : Int) (a0_4 : Int) : Int := a0_4
theorem e58 (a0_0 : Int) (a0_1 : Int) (a0_2 : Int) (a0_3 : Int) (a0_4 : Int) : funA c58 0 58 [AV.agg [AV.int .i64 a0_0, AV.int .i64 a0_1, AV.int .i64 a0_2, AV.int .i64 a0_3, AV.int .i64 a0_4]] = some (AV.agg [AV.int .i64 a0_0, AV.int .i64 a0_1, AV.int .i64 a0_2, AV.int .i64 a0_3, AV.int .i64 a0_4]) := by kernel_rfl
theorem r58 (a0_0 : Int) (a0_1 : Int) (a0_2 : Int) (a0_3 : Int) (a0_4 : Int) : funA c58 0 58 [AV.agg [AV.int .i64 a0_0, AV.int .i64 a0_1, AV.int .i64 a0_2, AV.int .i64 a0_3, AV.int .i64 a0_4]] = some (AV.agg [AV.int .i64 (v58_0 a0_0 a0_1 a0_2 a0_3 a0_4), AV.int .i64 (v58_1 a0_0 a0_1 a0_2 a0_3 a0_4), AV.int .i64 (v58_2 a0_0 a0_1 a0_2 a0_3 a0_4), AV.int .i64 (v58_3 a0_0 a0_1 a0_2 a0_3 a0_4), AV.int .i64 (v58_4 a0_0 a0_1 a0_2 a0_3 a0_4)]) := (e58 a0_0 a0_1 a0_2 a0_3 a0_4).trans (of_tt (fun _ => rfl))
def m58 : TModel
  | [.agg [.int .i64 a0_0, .int .i64 a0_1, .int .i64 a0_2, .int .i64 a0_3, .int .i64 a0_4]] => some (true, AV.agg [AV.int .i64 (v58_0 a0_0 a0_1 a0_2 a0_3 a0_4), AV.int .i64 (v58_1 a0_0 a0_1 a0_2 a0_3 a0_4), AV.int .i64 (v58_2 a0_0 a0_1 a0_2 a0_3 a0_4), AV.int .i64 (v58_3 a0_0 a0_1 a0_2 a0_3 a0_4), AV.int .i64 (v58_4 a0_0 a0_1 a0_2 a0_3 a0_4)])
  | _ => none
theorem k58 : Known Tryd.prog 58 := ⟨Tryd.f58, Tryd.func58, by kernel_rfl, by kernel_rfl⟩
theorem meets58 : Meets Tryd.prog 58 m58 := by
  refine meet (f := Tryd.f58) (l := []) (hs := [(58, 999, [2])]) (ts := []) (ws := []) (is := []) (ls := []) (lvl := 0) mixed k58 Tryd.func58 (by kernel_rfl) noLoop allT_nil allM_nil noI fun w xs us r hl hv h => ?_
  unfold m58 at h
  split at h
  · rename_i a0_0 a0_1 a0_2 a0_3 a0_4
    obtain ⟨h1, rfl⟩ := pair_inj h
    exact r58 a0_0 a0_1 a0_2 a0_3 a0_4
  · cases h

/-! ### 27 loop.example/g01984/laws.toChargeS -/
def F27_0 (t0 : List AV) (t4 : Int) (h0 : List AV) : Out ((Int × (List AV))) (((List AV))) := (bif decide (t4 < (t0.length : Int)) then (bif (decide (0 ≤ t4) && decide (t4 < (t0.length : Int))) then (bif (decide (0 ≤ t4) && decide (t4 < (h0.length : Int))) then .next (IntKind.i64.wrap (t4 + 1), h0.set t4.toNat (AV.agg [AV.int .i64 (v58_0 (fI (t0.getD t4.toNat AV.undef) 0) (fI (t0.getD t4.toNat AV.undef) 1) (fI (t0.getD t4.toNat AV.undef) 2) (fI (t0.getD t4.toNat AV.undef) 3) (fI (t0.getD t4.toNat AV.undef) 4)), AV.int .i64 (v58_1 (fI (t0.getD t4.toNat AV.undef) 0) (fI (t0.getD t4.toNat AV.undef) 1) (fI (t0.getD t4.toNat AV.undef) 2) (fI (t0.getD t4.toNat AV.undef) 3) (fI (t0.getD t4.toNat AV.undef) 4)), AV.int .i64 (v58_2 (fI (t0.getD t4.toNat AV.undef) 0) (fI (t0.getD t4.toNat AV.undef) 1) (fI (t0.getD t4.toNat AV.undef) 2) (fI (t0.getD t4.toNat AV.undef) 3) (fI (t0.getD t4.toNat AV.undef) 4)), AV.int .i64 (v58_3 (fI (t0.getD t4.toNat AV.undef) 0) (fI (t0.getD t4.toNat AV.undef) 1) (fI (t0.getD t4.toNat AV.undef) 2) (fI (t0.getD t4.toNat AV.undef) 3) (fI (t0.getD t4.toNat AV.undef) 4)), AV.int .i64 (v58_4 (fI (t0.getD t4.toNat AV.undef) 0) (fI (t0.getD t4.toNat AV.undef) 1) (fI (t0.getD t4.toNat AV.undef) 2) (fI (t0.getD t4.toNat AV.undef) 3) (fI (t0.getD t4.toNat AV.undef) 4))]))
  else .fail)
  else .fail)
  else .stop h0)
def R27_0 (t0 : List AV) : ((Int × (List AV))) → Out ((Int × (List AV))) (((List AV))) := fun s : Int × (List AV) => F27_0 t0 s.1 s.2
def l27_0 : LModel := fun _ _ st k => match st with
  | ⟨[(0, .sl g0 t0), (3, .own g1), (4, .int .i64 t4)], [(g2, ⟨false, g3, h0⟩)]⟩ => bif ctsEq g0 ([.int .i64, .int .i64, .int .i64, .int .i64, .int .i64]) && nmEq g1 ([0, 3]) && nmEq g2 ([0, 3]) && ctsEq g3 ([.int .i64, .int .i64, .int .i64, .int .i64, .int .i64]) then ro (runW (R27_0 t0) (((t0.length : Int) - t4).toNat + 1) (t4, h0)) none (fun p : (List AV) => k (.exit 0) ⟨[(3, AV.own [0, 3])], [([0, 3], ⟨false, [.int .i64, .int .i64, .int .i64, .int .i64, .int .i64], p⟩)]⟩) else none
  | _ => none
noncomputable def c27 : Cfg := cfg Tryd.prog [(27, 0, [0, 3, 4]), (27, 999, [2]), (27, 1000, [3]), (27, 1001, [0, 3, 4])] [(58, m58)] [] [] [(27, 0, l27_0)]
theorem s27_0 (ce : CallE) (t0 : List AV) (t4 : Int) (h0 : List AV) (next : St → Option AV) (k : Kont) : stepA (codeA c27 ce [] 27 0 (sub [1, 1, 0, 1, 0, 0] (body Tryd.f27))) (normA [] [0, 3, 4]) next ⟨[(0, AV.sl [.int .i64, .int .i64, .int .i64, .int .i64, .int .i64] t0), (3, AV.own [0, 3]), (4, AV.int .i64 t4)], [([0, 3], ⟨false, [.int .i64, .int .i64, .int .i64, .int .i64, .int .i64], h0⟩)]⟩ k = (bif decide (t4 < (t0.length : Int)) then (bif (decide (0 ≤ t4) && decide (t4 < (t0.length : Int))) then (bif (decide (0 ≤ t4) && decide (t4 < (h0.length : Int))) then next ⟨[(0, AV.sl [.int .i64, .int .i64, .int .i64, .int .i64, .int .i64] t0), (3, AV.own [0, 3]), (4, AV.int .i64 (IntKind.i64.wrap (t4 + 1)))], [([0, 3], ⟨false, [.int .i64, .int .i64, .int .i64, .int .i64, .int .i64], h0.set t4.toNat (AV.agg [AV.int .i64 (v58_0 (fI (t0.getD t4.toNat AV.undef) 0) (fI (t0.getD t4.toNat AV.undef) 1) (fI (t0.getD t4.toNat AV.undef) 2) (fI (t0.getD t4.toNat AV.undef) 3) (fI (t0.getD t4.toNat AV.undef) 4)), AV.int .i64 (v58_1 (fI (t0.getD t4.toNat AV.undef) 0) (fI (t0.getD t4.toNat AV.undef) 1) (fI (t0.getD t4.toNat AV.undef) 2) (fI (t0.getD t4.toNat AV.undef) 3) (fI (t0.getD t4.toNat AV.undef) 4)), AV.int .i64 (v58_2 (fI (t0.getD t4.toNat AV.undef) 0) (fI (t0.getD t4.toNat AV.undef) 1) (fI (t0.getD t4.toNat AV.undef) 2) (fI (t0.getD t4.toNat AV.undef) 3) (fI (t0.getD t4.toNat AV.undef) 4)), AV.int .i64 (v58_3 (fI (t0.getD t4.toNat AV.undef) 0) (fI (t0.getD t4.toNat AV.undef) 1) (fI (t0.getD t4.toNat AV.undef) 2) (fI (t0.getD t4.toNat AV.undef) 3) (fI (t0.getD t4.toNat AV.undef) 4)), AV.int .i64 (v58_4 (fI (t0.getD t4.toNat AV.undef) 0) (fI (t0.getD t4.toNat AV.undef) 1) (fI (t0.getD t4.toNat AV.undef) 2) (fI (t0.getD t4.toNat AV.undef) 3) (fI (t0.getD t4.toNat AV.undef) 4))])⟩)]⟩
  else none)
  else none)
  else k (.exit 0) ⟨[(3, AV.own [0, 3])], [([0, 3], ⟨false, [.int .i64, .int .i64, .int .i64, .int .i64, .int .i64], h0⟩)]⟩) := by kernel_rfl
theorem st27_0 (t0 : List AV) (ce : CallE) (k : Kont) (s : (Int × (List AV))) (next : St → Option AV) : stepA (codeA c27 ce [] 27 0 (sub [1, 1, 0, 1, 0, 0] (body Tryd.f27))) (normA [] [0, 3, 4]) next ((fun s : Int × (List AV) => ⟨[(0, AV.sl [.int .i64, .int .i64, .int .i64, .int .i64, .int .i64] t0), (3, AV.own [0, 3]), (4, AV.int .i64 s.1)], [([0, 3], ⟨false, [.int .i64, .int .i64, .int .i64, .int .i64, .int .i64], s.2⟩)]⟩) s) k = (R27_0 t0 s).el none (fun s => next ((fun s : Int × (List AV) => ⟨[(0, AV.sl [.int .i64, .int .i64, .int .i64, .int .i64, .int .i64] t0), (3, AV.own [0, 3]), (4, AV.int .i64 s.1)], [([0, 3], ⟨false, [.int .i64, .int .i64, .int .i64, .int .i64, .int .i64], s.2⟩)]⟩) s)) (fun p : (List AV) => k (.exit 0) ⟨[(3, AV.own [0, 3])], [([0, 3], ⟨false, [.int .i64, .int .i64, .int .i64, .int .i64, .int .i64], p⟩)]⟩) := (s27_0 ce t0 s.1 s.2 next k).trans (by unfold R27_0; unfold F27_0; simp only [el_cond, el_ro, el_sum, el_fail, el_next, el_stop] <;> rfl)
theorem ok27_0 {ce : CallE} : LoopOK c27 ce [] 27 0 (sub [1, 1, 0, 1, 0, 0] (body Tryd.f27)) := by
  intro m hm st k r h
  obtain rfl : l27_0 = m := Option.some.inj hm
  unfold l27_0 at h
  split at h
  · rename_i g0 t0 g1 t4 g2 g3 h0
    obtain ⟨hg, h⟩ := bif_some h
    simp only [Bool.and_eq_true] at hg
    obtain ⟨⟨⟨q0, q1⟩, q2⟩, q3⟩ := hg
    obtain rfl := ctsEq_eq _ _ q0
    obtain rfl := (nmEq_iff _ _).1 q1
    obtain rfl := (nmEq_iff _ _).1 q2
    obtain rfl := ctsEq_eq _ _ q3
    refine ⟨(((t0.length : Int) - t4).toNat + 1), ?_⟩
    rw [← h]
    exact loop_run (fun s : Int × (List AV) => ⟨[(0, AV.sl [.int .i64, .int .i64, .int .i64, .int .i64, .int .i64] t0), (3, AV.own [0, 3]), (4, AV.int .i64 s.1)], [([0, 3], ⟨false, [.int .i64, .int .i64, .int .i64, .int .i64, .int .i64], s.2⟩)]⟩) (fun p : (List AV) => k (.exit 0) ⟨[(3, AV.own [0, 3])], [([0, 3], ⟨false, [.int .i64, .int .i64, .int .i64, .int .i64, .int .i64], p⟩)]⟩) (st27_0 t0 ce k) _ (t4, h0)
  · cases h
def q27 (a0 : List AV) : Bool := ((decide (0 ≤ (a0.length : Int)) && decide ((a0.length : Int) ≤ (a0.length : Int)) && decide ((a0.length : Int) * 40 ≤ 140737488355328) && decide ((a0.length : Int) ≤ 140737488355328)) && (ro (runW (R27_0 a0) (((a0.length : Int) - 0).toNat + 1) (0, List.replicate (Int.toNat (a0.length : Int)) (AV.agg [AV.int .i64 0, AV.int .i64 0, AV.int .i64 0, AV.int .i64 0, AV.int .i64 0]))) false (fun p1 => true)))
def v27_0 (a0 : List AV) : List AV := (ro (runW (R27_0 a0) (((a0.length : Int) - 0).toNat + 1) (0, List.replicate (Int.toNat (a0.length : Int)) (AV.agg [AV.int .i64 0, AV.int .i64 0, AV.int .i64 0, AV.int .i64 0, AV.int .i64 0]))) [] (fun p1 => p1))
theorem e27 (a0 : List AV) : funA c27 0 27 [AV.sl [.int .i64, .int .i64, .int .i64, .int .i64, .int .i64] a0] = (bif (decide (0 ≤ (a0.length : Int)) && decide ((a0.length : Int) ≤ (a0.length : Int)) && decide ((a0.length : Int) * 40 ≤ 140737488355328) && decide ((a0.length : Int) ≤ 140737488355328)) then (ro (runW (R27_0 a0) (((a0.length : Int) - 0).toNat + 1) (0, List.replicate (Int.toNat (a0.length : Int)) (AV.agg [AV.int .i64 0, AV.int .i64 0, AV.int .i64 0, AV.int .i64 0, AV.int .i64 0]))) none (fun p1 => some (AV.fl [.int .i64, .int .i64, .int .i64, .int .i64, .int .i64] p1)))
  else none) := by kernel_rfl
theorem r27 (a0 : List AV) (h : q27 a0 = true) : funA c27 0 27 [AV.sl [.int .i64, .int .i64, .int .i64, .int .i64, .int .i64] a0] = some (AV.fl [.int .i64, .int .i64, .int .i64, .int .i64, .int .i64] (v27_0 a0)) := (e27 a0).trans ((brL (brO (fun o : Option (((List AV))) => some (AV.fl [.int .i64, .int .i64, .int .i64, .int .i64, .int .i64] (ro o [] (fun p1 => p1)))) (fun p1 => (fun _ => rfl)))) h)
def m27 : TModel
  | [.sl g0 a0] => bif ctsEq g0 ([.int .i64, .int .i64, .int .i64, .int .i64, .int .i64]) then some (q27 a0, AV.fl [.int .i64, .int .i64, .int .i64, .int .i64, .int .i64] (v27_0 a0)) else none
  | _ => none
theorem k27 : Known Tryd.prog 27 := ⟨Tryd.f27, Tryd.func27, by kernel_rfl, by kernel_rfl⟩
theorem meets27 : Meets Tryd.prog 27 m27 := by
  refine meet (f := Tryd.f27) (l := [(0, sub [1, 1, 0, 1, 0, 0] (body Tryd.f27))]) (hs := [(27, 0, [0, 3, 4]), (27, 999, [2]), (27, 1000, [3]), (27, 1001, [0, 3, 4])]) (ts := [(58, m58)]) (ws := []) (is := []) (ls := [(27, 0, l27_0)]) (lvl := 0) mixed k27 Tryd.func27 (by kernel_rfl) (loops_cons ok27_0 noLoop) (allT_cons meets58 allT_nil) allM_nil noI fun w xs us r hl hv h => ?_
  unfold m27 at h
  split at h
  · rename_i g0 a0
    obtain ⟨hg, h⟩ := bif_pair h
    have q0 := hg
    obtain rfl := ctsEq_eq _ _ q0
    obtain ⟨h1, rfl⟩ := pair_inj h
    exact r27 a0 h1
  · cases h

/-! ### 42 loop.example/g01984/spec.l1In -/
noncomputable def c42 : Cfg := cfg Tryd.prog [(42, 999, [6])] [] [] [] []
def q42 (a0 : Int) (a1 : Int) (a2 : Int) : Bool := true
def v42_0 (a0 : Int) (a1 : Int) (a2 : Int) : Bool := (bif decide (a0 ≥ a1) then decide (a0 ≤ a2) else false)
theorem e42 (a0 : Int) (a1 : Int) (a2 : Int) : funA c42 0 42 [AV.int .i64 a0, AV.int .i64 a1, AV.int .i64 a2] = (bif decide (a0 ≥ a1) then some (AV.bool (decide (a0 ≤ a2)))
  else some (AV.bool false)) := by kernel_rfl
theorem r42 (a0 : Int) (a1 : Int) (a2 : Int) : funA c42 0 42 [AV.int .i64 a0, AV.int .i64 a1, AV.int .i64 a2] = some (AV.bool (v42_0 a0 a1 a2)) := (e42 a0 a1 a2).trans (of_tt (brT (fun b => some (AV.bool (bif b then decide (a0 ≤ a2) else false))) (fun _ => rfl) (fun _ => rfl)))
def m42 : TModel
  | [.int .i64 a0, .int .i64 a1, .int .i64 a2] => some (true, AV.bool (v42_0 a0 a1 a2))
  | _ => none
theorem k42 : Known Tryd.prog 42 := ⟨Tryd.f42, Tryd.func42, by kernel_rfl, by kernel_rfl⟩
theorem meets42 : Meets Tryd.prog 42 m42 := by
  refine meet (f := Tryd.f42) (l := []) (hs := [(42, 999, [6])]) (ts := []) (ws := []) (is := []) (ls := []) (lvl := 0) mixed k42 Tryd.func42 (by kernel_rfl) noLoop allT_nil allM_nil noI fun w xs us r hl hv h => ?_
  unfold m42 at h
  split at h
  · rename_i a0 a1 a2
    obtain ⟨h1, rfl⟩ := pair_inj h
    exact r42 a0 a1 a2
  · cases h

/-! ### 43 loop.example/g01984/spec.FormatInt -/
def F43_0 (t4 : Bool) (t0 : Int) (t3 : ByteArray) : Out ((Int × ByteArray)) (ByteArray) := (bif !decide (t0 = 0) then (bif !decide (10 = 0) then (bif decide (Int.tmod t0 10 < 0) then (bif decide ((bytesA ([AV.int .u8 (IntKind.u8.wrap (IntKind.i64.wrap (48 + IntKind.i64.wrap (0 - (Int.tmod t0 10)))))])).size + t3.size ≤ 4611686018427387904) then (bif !decide (10 = 0) then .next (IntKind.i64.wrap (Int.tdiv t0 10), (bytesA ([AV.int .u8 (IntKind.u8.wrap (IntKind.i64.wrap (48 + IntKind.i64.wrap (0 - (Int.tmod t0 10)))))])) ++ t3)
  else .fail)
  else .fail)
  else (bif decide ((bytesA ([AV.int .u8 (IntKind.u8.wrap (IntKind.i64.wrap (48 + Int.tmod t0 10)))])).size + t3.size ≤ 4611686018427387904) then (bif !decide (10 = 0) then .next (IntKind.i64.wrap (Int.tdiv t0 10), (bytesA ([AV.int .u8 (IntKind.u8.wrap (IntKind.i64.wrap (48 + Int.tmod t0 10)))])) ++ t3)
  else .fail)
  else .fail))
  else .fail)
  else .stop t3)
def R43_0 (t4 : Bool) : ((Int × ByteArray)) → Out ((Int × ByteArray)) (ByteArray) := fun s : Int × ByteArray => F43_0 t4 s.1 s.2
def l43_0 : LModel := fun _ _ st k => match st with
  | ⟨[(0, .int .i64 t0), (3, .str t3), (4, .bool t4)], []⟩ => ro (runW (R43_0 t4) (t0.natAbs + 1) (t0, t3)) none (fun p : ByteArray => k (.exit 0) ⟨[(3, AV.str p), (4, AV.bool t4)], []⟩)
  | _ => none
noncomputable def c43 : Cfg := cfg Tryd.prog [(43, 0, [0, 3, 4]), (43, 999, [2]), (43, 1000, [3, 4]), (43, 1001, [0, 3, 4])] [] [] [] [(43, 0, l43_0)]
theorem s43_0 (ce : CallE) (t0 : Int) (t3 : ByteArray) (t4 : Bool) (next : St → Option AV) (k : Kont) : stepA (codeA c43 ce [] 43 0 (sub [1, 1, 1, 1, 0, 0, 0] (body Tryd.f43))) (normA [] [0, 3, 4]) next ⟨[(0, AV.int .i64 t0), (3, AV.str t3), (4, AV.bool t4)], []⟩ k = (bif !decide (t0 = 0) then (bif !decide (10 = 0) then (bif decide (Int.tmod t0 10 < 0) then (bif decide ((bytesA ([AV.int .u8 (IntKind.u8.wrap (IntKind.i64.wrap (48 + IntKind.i64.wrap (0 - (Int.tmod t0 10)))))])).size + t3.size ≤ 4611686018427387904) then (bif !decide (10 = 0) then next ⟨[(0, AV.int .i64 (IntKind.i64.wrap (Int.tdiv t0 10))), (3, AV.str ((bytesA ([AV.int .u8 (IntKind.u8.wrap (IntKind.i64.wrap (48 + IntKind.i64.wrap (0 - (Int.tmod t0 10)))))])) ++ t3)), (4, AV.bool t4)], []⟩
  else none)
  else none)
  else (bif decide ((bytesA ([AV.int .u8 (IntKind.u8.wrap (IntKind.i64.wrap (48 + Int.tmod t0 10)))])).size + t3.size ≤ 4611686018427387904) then (bif !decide (10 = 0) then next ⟨[(0, AV.int .i64 (IntKind.i64.wrap (Int.tdiv t0 10))), (3, AV.str ((bytesA ([AV.int .u8 (IntKind.u8.wrap (IntKind.i64.wrap (48 + Int.tmod t0 10)))])) ++ t3)), (4, AV.bool t4)], []⟩
  else none)
  else none))
  else none)
  else k (.exit 0) ⟨[(3, AV.str t3), (4, AV.bool t4)], []⟩) := by kernel_rfl
theorem st43_0 (t4 : Bool) (ce : CallE) (k : Kont) (s : (Int × ByteArray)) (next : St → Option AV) : stepA (codeA c43 ce [] 43 0 (sub [1, 1, 1, 1, 0, 0, 0] (body Tryd.f43))) (normA [] [0, 3, 4]) next ((fun s : Int × ByteArray => ⟨[(0, AV.int .i64 s.1), (3, AV.str s.2), (4, AV.bool t4)], []⟩) s) k = (R43_0 t4 s).el none (fun s => next ((fun s : Int × ByteArray => ⟨[(0, AV.int .i64 s.1), (3, AV.str s.2), (4, AV.bool t4)], []⟩) s)) (fun p : ByteArray => k (.exit 0) ⟨[(3, AV.str p), (4, AV.bool t4)], []⟩) := (s43_0 ce s.1 s.2 t4 next k).trans (by unfold R43_0; unfold F43_0; simp only [el_cond, el_ro, el_sum, el_fail, el_next, el_stop] <;> rfl)
theorem ok43_0 {ce : CallE} : LoopOK c43 ce [] 43 0 (sub [1, 1, 1, 1, 0, 0, 0] (body Tryd.f43)) := by
  intro m hm st k r h
  obtain rfl : l43_0 = m := Option.some.inj hm
  unfold l43_0 at h
  split at h
  · rename_i t0 t3 t4
    refine ⟨(t0.natAbs + 1), ?_⟩
    rw [← h]
    exact loop_run (fun s : Int × ByteArray => ⟨[(0, AV.int .i64 s.1), (3, AV.str s.2), (4, AV.bool t4)], []⟩) (fun p : ByteArray => k (.exit 0) ⟨[(3, AV.str p), (4, AV.bool t4)], []⟩) (st43_0 t4 ce k) _ (t0, t3)
  · cases h
def q43 (a0 : Int) : Bool := (bif decide (a0 = 0) then true else (ro (runW (R43_0 (decide (a0 < 0))) (a0.natAbs + 1) (a0, ByteArray.empty)) false (fun p2 => (bif decide (a0 < 0) then decide ((ByteArray.mk #[45]).size + p2.size ≤ 4611686018427387904) else true))))
def v43_0 (a0 : Int) : ByteArray := (bif decide (a0 = 0) then (ByteArray.mk #[48]) else (ro (runW (R43_0 (decide (a0 < 0))) (a0.natAbs + 1) (a0, ByteArray.empty)) ByteArray.empty (fun p2 => (bif decide (a0 < 0) then (ByteArray.mk #[45]) ++ p2 else p2))))
theorem e43 (a0 : Int) : funA c43 0 43 [AV.int .i64 a0] = (bif decide (a0 = 0) then some (AV.str (ByteArray.mk #[48]))
  else (ro (runW (R43_0 (decide (a0 < 0))) (a0.natAbs + 1) (a0, ByteArray.empty)) none (fun p2 => (bif decide (a0 < 0) then (bif decide ((ByteArray.mk #[45]).size + p2.size ≤ 4611686018427387904) then some (AV.str ((ByteArray.mk #[45]) ++ p2))
  else none)
  else some (AV.str p2))))) := by kernel_rfl
theorem r43 (a0 : Int) (h : q43 a0 = true) : funA c43 0 43 [AV.int .i64 a0] = some (AV.str (v43_0 a0)) := (e43 a0).trans ((br (fun b => some (AV.str (bif b then (ByteArray.mk #[48]) else (ro (runW (R43_0 (decide (a0 < 0))) (a0.natAbs + 1) (a0, ByteArray.empty)) ByteArray.empty (fun p2 => (bif decide (a0 < 0) then (ByteArray.mk #[45]) ++ p2 else p2)))))) (fun _ => rfl) (brO (fun o : Option (ByteArray) => some (AV.str (ro o ByteArray.empty (fun p2 => (bif decide (a0 < 0) then (ByteArray.mk #[45]) ++ p2 else p2))))) (fun p2 => (br (fun b => some (AV.str (bif b then (ByteArray.mk #[45]) ++ p2 else p2))) (brL1 (fun _ => rfl)) (fun _ => rfl))))) h)
def m43 : TModel
  | [.int .i64 a0] => some (q43 a0, AV.str (v43_0 a0))
  | _ => none
theorem k43 : Known Tryd.prog 43 := ⟨Tryd.f43, Tryd.func43, by kernel_rfl, by kernel_rfl⟩
theorem meets43 : Meets Tryd.prog 43 m43 := by
  refine meet (f := Tryd.f43) (l := [(0, sub [1, 1, 1, 1, 0, 0, 0] (body Tryd.f43))]) (hs := [(43, 0, [0, 3, 4]), (43, 999, [2]), (43, 1000, [3, 4]), (43, 1001, [0, 3, 4])]) (ts := []) (ws := []) (is := []) (ls := [(43, 0, l43_0)]) (lvl := 0) mixed k43 Tryd.func43 (by kernel_rfl) (loops_cons ok43_0 noLoop) allT_nil allM_nil noI fun w xs us r hl hv h => ?_
  unfold m43 at h
  split at h
  · rename_i a0
    obtain ⟨h1, rfl⟩ := pair_inj h
    exact r43 a0 h1
  · cases h

/-! ### 57 loop.example/g01984/spec.FormatCharge -/
noncomputable def c57 : Cfg := cfg Tryd.prog [(57, 999, [2])] [(42, m42), (43, m43)] [] [] []
def q57 (a0_0 : Int) (a0_1 : Int) (a0_2 : Int) (a0_3 : Int) (a0_4 : Int) : Bool := (bif !(v42_0 a0_0 0 29) then true else (bif !(v42_0 a0_1 (-1000) 1000) then true else (bif !(v42_0 a0_2 0 a0_3) then true else (bif decide (a0_3 > 64) then true else (bif !(v42_0 a0_4 0 64) then true else (q43 a0_0 && (decide ((v43_0 a0_0).size + (ByteArray.mk #[32, 97, 116, 32]).size ≤ 4611686018427387904) && (q43 a0_1 && (decide (((v43_0 a0_0) ++ (ByteArray.mk #[32, 97, 116, 32])).size + (v43_0 a0_1).size ≤ 4611686018427387904) && (decide ((((v43_0 a0_0) ++ (ByteArray.mk #[32, 97, 116, 32])) ++ (v43_0 a0_1)).size + (ByteArray.mk #[32, 105, 110, 32]).size ≤ 4611686018427387904) && (q43 a0_2 && (decide (((((v43_0 a0_0) ++ (ByteArray.mk #[32, 97, 116, 32])) ++ (v43_0 a0_1)) ++ (ByteArray.mk #[32, 105, 110, 32])).size + (v43_0 a0_2).size ≤ 4611686018427387904) && (decide ((((((v43_0 a0_0) ++ (ByteArray.mk #[32, 97, 116, 32])) ++ (v43_0 a0_1)) ++ (ByteArray.mk #[32, 105, 110, 32])) ++ (v43_0 a0_2)).size + (ByteArray.mk #[46, 46]).size ≤ 4611686018427387904) && (q43 a0_3 && (decide (((((((v43_0 a0_0) ++ (ByteArray.mk #[32, 97, 116, 32])) ++ (v43_0 a0_1)) ++ (ByteArray.mk #[32, 105, 110, 32])) ++ (v43_0 a0_2)) ++ (ByteArray.mk #[46, 46])).size + (v43_0 a0_3).size ≤ 4611686018427387904) && (decide ((((((((v43_0 a0_0) ++ (ByteArray.mk #[32, 97, 116, 32])) ++ (v43_0 a0_1)) ++ (ByteArray.mk #[32, 105, 110, 32])) ++ (v43_0 a0_2)) ++ (ByteArray.mk #[46, 46])) ++ (v43_0 a0_3)).size + (ByteArray.mk #[32, 115, 119, 97, 112, 115, 32]).size ≤ 4611686018427387904) && (q43 a0_4 && decide (((((((((v43_0 a0_0) ++ (ByteArray.mk #[32, 97, 116, 32])) ++ (v43_0 a0_1)) ++ (ByteArray.mk #[32, 105, 110, 32])) ++ (v43_0 a0_2)) ++ (ByteArray.mk #[46, 46])) ++ (v43_0 a0_3)) ++ (ByteArray.mk #[32, 115, 119, 97, 112, 115, 32])).size + (v43_0 a0_4).size ≤ 4611686018427387904))))))))))))))))))
def v57_0 (a0_0 : Int) (a0_1 : Int) (a0_2 : Int) (a0_3 : Int) (a0_4 : Int) : ByteArray := (bif !(v42_0 a0_0 0 29) then ByteArray.empty else (bif !(v42_0 a0_1 (-1000) 1000) then ByteArray.empty else (bif !(v42_0 a0_2 0 a0_3) then ByteArray.empty else (bif decide (a0_3 > 64) then ByteArray.empty else (bif !(v42_0 a0_4 0 64) then ByteArray.empty else ((((((((v43_0 a0_0) ++ (ByteArray.mk #[32, 97, 116, 32])) ++ (v43_0 a0_1)) ++ (ByteArray.mk #[32, 105, 110, 32])) ++ (v43_0 a0_2)) ++ (ByteArray.mk #[46, 46])) ++ (v43_0 a0_3)) ++ (ByteArray.mk #[32, 115, 119, 97, 112, 115, 32])) ++ (v43_0 a0_4))))))
theorem e57 (a0_0 : Int) (a0_1 : Int) (a0_2 : Int) (a0_3 : Int) (a0_4 : Int) : funA c57 0 57 [AV.agg [AV.int .i64 a0_0, AV.int .i64 a0_1, AV.int .i64 a0_2, AV.int .i64 a0_3, AV.int .i64 a0_4]] = (bif !(v42_0 a0_0 0 29) then some (AV.str ByteArray.empty)
  else (bif !(v42_0 a0_1 (-1000) 1000) then some (AV.str ByteArray.empty)
  else (bif !(v42_0 a0_2 0 a0_3) then some (AV.str ByteArray.empty)
  else (bif decide (a0_3 > 64) then some (AV.str ByteArray.empty)
  else (bif !(v42_0 a0_4 0 64) then some (AV.str ByteArray.empty)
  else (bif q43 a0_0 then (bif decide ((v43_0 a0_0).size + (ByteArray.mk #[32, 97, 116, 32]).size ≤ 4611686018427387904) then (bif q43 a0_1 then (bif decide (((v43_0 a0_0) ++ (ByteArray.mk #[32, 97, 116, 32])).size + (v43_0 a0_1).size ≤ 4611686018427387904) then (bif decide ((((v43_0 a0_0) ++ (ByteArray.mk #[32, 97, 116, 32])) ++ (v43_0 a0_1)).size + (ByteArray.mk #[32, 105, 110, 32]).size ≤ 4611686018427387904) then (bif q43 a0_2 then (bif decide (((((v43_0 a0_0) ++ (ByteArray.mk #[32, 97, 116, 32])) ++ (v43_0 a0_1)) ++ (ByteArray.mk #[32, 105, 110, 32])).size + (v43_0 a0_2).size ≤ 4611686018427387904) then (bif decide ((((((v43_0 a0_0) ++ (ByteArray.mk #[32, 97, 116, 32])) ++ (v43_0 a0_1)) ++ (ByteArray.mk #[32, 105, 110, 32])) ++ (v43_0 a0_2)).size + (ByteArray.mk #[46, 46]).size ≤ 4611686018427387904) then (bif q43 a0_3 then (bif decide (((((((v43_0 a0_0) ++ (ByteArray.mk #[32, 97, 116, 32])) ++ (v43_0 a0_1)) ++ (ByteArray.mk #[32, 105, 110, 32])) ++ (v43_0 a0_2)) ++ (ByteArray.mk #[46, 46])).size + (v43_0 a0_3).size ≤ 4611686018427387904) then (bif decide ((((((((v43_0 a0_0) ++ (ByteArray.mk #[32, 97, 116, 32])) ++ (v43_0 a0_1)) ++ (ByteArray.mk #[32, 105, 110, 32])) ++ (v43_0 a0_2)) ++ (ByteArray.mk #[46, 46])) ++ (v43_0 a0_3)).size + (ByteArray.mk #[32, 115, 119, 97, 112, 115, 32]).size ≤ 4611686018427387904) then (bif q43 a0_4 then (bif decide (((((((((v43_0 a0_0) ++ (ByteArray.mk #[32, 97, 116, 32])) ++ (v43_0 a0_1)) ++ (ByteArray.mk #[32, 105, 110, 32])) ++ (v43_0 a0_2)) ++ (ByteArray.mk #[46, 46])) ++ (v43_0 a0_3)) ++ (ByteArray.mk #[32, 115, 119, 97, 112, 115, 32])).size + (v43_0 a0_4).size ≤ 4611686018427387904) then some (AV.str (((((((((v43_0 a0_0) ++ (ByteArray.mk #[32, 97, 116, 32])) ++ (v43_0 a0_1)) ++ (ByteArray.mk #[32, 105, 110, 32])) ++ (v43_0 a0_2)) ++ (ByteArray.mk #[46, 46])) ++ (v43_0 a0_3)) ++ (ByteArray.mk #[32, 115, 119, 97, 112, 115, 32])) ++ (v43_0 a0_4)))
  else none)
  else none)
  else none)
  else none)
  else none)
  else none)
  else none)
  else none)
  else none)
  else none)
  else none)
  else none)
  else none)))))) := by kernel_rfl
theorem r57 (a0_0 : Int) (a0_1 : Int) (a0_2 : Int) (a0_3 : Int) (a0_4 : Int) (h : q57 a0_0 a0_1 a0_2 a0_3 a0_4 = true) : funA c57 0 57 [AV.agg [AV.int .i64 a0_0, AV.int .i64 a0_1, AV.int .i64 a0_2, AV.int .i64 a0_3, AV.int .i64 a0_4]] = some (AV.str (v57_0 a0_0 a0_1 a0_2 a0_3 a0_4)) := (e57 a0_0 a0_1 a0_2 a0_3 a0_4).trans ((br (fun b => some (AV.str (bif b then ByteArray.empty else (bif !(v42_0 a0_1 (-1000) 1000) then ByteArray.empty else (bif !(v42_0 a0_2 0 a0_3) then ByteArray.empty else (bif decide (a0_3 > 64) then ByteArray.empty else (bif !(v42_0 a0_4 0 64) then ByteArray.empty else ((((((((v43_0 a0_0) ++ (ByteArray.mk #[32, 97, 116, 32])) ++ (v43_0 a0_1)) ++ (ByteArray.mk #[32, 105, 110, 32])) ++ (v43_0 a0_2)) ++ (ByteArray.mk #[46, 46])) ++ (v43_0 a0_3)) ++ (ByteArray.mk #[32, 115, 119, 97, 112, 115, 32])) ++ (v43_0 a0_4)))))))) (fun _ => rfl) (br (fun b => some (AV.str (bif b then ByteArray.empty else (bif !(v42_0 a0_2 0 a0_3) then ByteArray.empty else (bif decide (a0_3 > 64) then ByteArray.empty else (bif !(v42_0 a0_4 0 64) then ByteArray.empty else ((((((((v43_0 a0_0) ++ (ByteArray.mk #[32, 97, 116, 32])) ++ (v43_0 a0_1)) ++ (ByteArray.mk #[32, 105, 110, 32])) ++ (v43_0 a0_2)) ++ (ByteArray.mk #[46, 46])) ++ (v43_0 a0_3)) ++ (ByteArray.mk #[32, 115, 119, 97, 112, 115, 32])) ++ (v43_0 a0_4))))))) (fun _ => rfl) (br (fun b => some (AV.str (bif b then ByteArray.empty else (bif decide (a0_3 > 64) then ByteArray.empty else (bif !(v42_0 a0_4 0 64) then ByteArray.empty else ((((((((v43_0 a0_0) ++ (ByteArray.mk #[32, 97, 116, 32])) ++ (v43_0 a0_1)) ++ (ByteArray.mk #[32, 105, 110, 32])) ++ (v43_0 a0_2)) ++ (ByteArray.mk #[46, 46])) ++ (v43_0 a0_3)) ++ (ByteArray.mk #[32, 115, 119, 97, 112, 115, 32])) ++ (v43_0 a0_4)))))) (fun _ => rfl) (br (fun b => some (AV.str (bif b then ByteArray.empty else (bif !(v42_0 a0_4 0 64) then ByteArray.empty else ((((((((v43_0 a0_0) ++ (ByteArray.mk #[32, 97, 116, 32])) ++ (v43_0 a0_1)) ++ (ByteArray.mk #[32, 105, 110, 32])) ++ (v43_0 a0_2)) ++ (ByteArray.mk #[46, 46])) ++ (v43_0 a0_3)) ++ (ByteArray.mk #[32, 115, 119, 97, 112, 115, 32])) ++ (v43_0 a0_4))))) (fun _ => rfl) (br (fun b => some (AV.str (bif b then ByteArray.empty else ((((((((v43_0 a0_0) ++ (ByteArray.mk #[32, 97, 116, 32])) ++ (v43_0 a0_1)) ++ (ByteArray.mk #[32, 105, 110, 32])) ++ (v43_0 a0_2)) ++ (ByteArray.mk #[46, 46])) ++ (v43_0 a0_3)) ++ (ByteArray.mk #[32, 115, 119, 97, 112, 115, 32])) ++ (v43_0 a0_4)))) (fun _ => rfl) (brL (brL (brL (brL (brL (brL (brL (brL (brL (brL (brL (brL (brL1 (fun _ => rfl))))))))))))))))))) h)
def m57 : TModel
  | [.agg [.int .i64 a0_0, .int .i64 a0_1, .int .i64 a0_2, .int .i64 a0_3, .int .i64 a0_4]] => some (q57 a0_0 a0_1 a0_2 a0_3 a0_4, AV.str (v57_0 a0_0 a0_1 a0_2 a0_3 a0_4))
  | _ => none
theorem k57 : Known Tryd.prog 57 := ⟨Tryd.f57, Tryd.func57, by kernel_rfl, by kernel_rfl⟩
theorem meets57 : Meets Tryd.prog 57 m57 := by
  refine meet (f := Tryd.f57) (l := []) (hs := [(57, 999, [2])]) (ts := [(42, m42), (43, m43)]) (ws := []) (is := []) (ls := []) (lvl := 0) mixed k57 Tryd.func57 (by kernel_rfl) noLoop (allT_cons meets42 (allT_cons meets43 allT_nil)) allM_nil noI fun w xs us r hl hv h => ?_
  unfold m57 at h
  split at h
  · rename_i a0_0 a0_1 a0_2 a0_3 a0_4
    obtain ⟨h1, rfl⟩ := pair_inj h
    exact r57 a0_0 a0_1 a0_2 a0_3 a0_4 h1
  · cases h

/-! ### 26 loop.example/g01984/spec.LedgerLines -/
def F26_0 (t0 : List AV) (t4 : Int) (h0 : List AV) : Out ((Int × (List AV))) (((List AV))) := (bif decide (t4 < (t0.length : Int)) then (bif (decide (0 ≤ t4) && decide (t4 < (t0.length : Int))) then (bif q57 (fI (t0.getD t4.toNat AV.undef) 0) (fI (t0.getD t4.toNat AV.undef) 1) (fI (t0.getD t4.toNat AV.undef) 2) (fI (t0.getD t4.toNat AV.undef) 3) (fI (t0.getD t4.toNat AV.undef) 4) then (bif (decide ((h0.length + ([AV.str (v57_0 (fI (t0.getD t4.toNat AV.undef) 0) (fI (t0.getD t4.toNat AV.undef) 1) (fI (t0.getD t4.toNat AV.undef) 2) (fI (t0.getD t4.toNat AV.undef) 3) (fI (t0.getD t4.toNat AV.undef) 4))]).length) * 16 ≤ 140737488355328) && decide ((h0.length + ([AV.str (v57_0 (fI (t0.getD t4.toNat AV.undef) 0) (fI (t0.getD t4.toNat AV.undef) 1) (fI (t0.getD t4.toNat AV.undef) 2) (fI (t0.getD t4.toNat AV.undef) 3) (fI (t0.getD t4.toNat AV.undef) 4))]).length) ≤ 140737488355328)) then .next (IntKind.i64.wrap (t4 + 1), h0 ++ ([AV.str (v57_0 (fI (t0.getD t4.toNat AV.undef) 0) (fI (t0.getD t4.toNat AV.undef) 1) (fI (t0.getD t4.toNat AV.undef) 2) (fI (t0.getD t4.toNat AV.undef) 3) (fI (t0.getD t4.toNat AV.undef) 4))]))
  else .fail)
  else .fail)
  else .fail)
  else .stop h0)
def R26_0 (t0 : List AV) : ((Int × (List AV))) → Out ((Int × (List AV))) (((List AV))) := fun s : Int × (List AV) => F26_0 t0 s.1 s.2
def l26_0 : LModel := fun _ _ st k => match st with
  | ⟨[(0, .sl g0 t0), (3, .own g1), (4, .int .i64 t4)], [(g2, ⟨false, g3, h0⟩)]⟩ => bif ctsEq g0 ([.int .i64, .int .i64, .int .i64, .int .i64, .int .i64]) && nmEq g1 ([0, 3]) && nmEq g2 ([0, 3]) && ctsEq g3 ([.str]) then ro (runW (R26_0 t0) (((t0.length : Int) - t4).toNat + 1) (t4, h0)) none (fun p : (List AV) => k (.exit 0) ⟨[(3, AV.own [0, 3])], [([0, 3], ⟨false, [.str], p⟩)]⟩) else none
  | _ => none
noncomputable def c26 : Cfg := cfg Tryd.prog [(26, 0, [0, 3, 4]), (26, 999, [2]), (26, 1000, [3]), (26, 1001, [0, 3, 4])] [(57, m57)] [] [] [(26, 0, l26_0)]
theorem s26_0 (ce : CallE) (t0 : List AV) (t4 : Int) (h0 : List AV) (next : St → Option AV) (k : Kont) : stepA (codeA c26 ce [] 26 0 (sub [1, 1, 0, 1, 0, 0] (body Tryd.f26))) (normA [] [0, 3, 4]) next ⟨[(0, AV.sl [.int .i64, .int .i64, .int .i64, .int .i64, .int .i64] t0), (3, AV.own [0, 3]), (4, AV.int .i64 t4)], [([0, 3], ⟨false, [.str], h0⟩)]⟩ k = (bif decide (t4 < (t0.length : Int)) then (bif (decide (0 ≤ t4) && decide (t4 < (t0.length : Int))) then (bif q57 (fI (t0.getD t4.toNat AV.undef) 0) (fI (t0.getD t4.toNat AV.undef) 1) (fI (t0.getD t4.toNat AV.undef) 2) (fI (t0.getD t4.toNat AV.undef) 3) (fI (t0.getD t4.toNat AV.undef) 4) then (bif (decide ((h0.length + ([AV.str (v57_0 (fI (t0.getD t4.toNat AV.undef) 0) (fI (t0.getD t4.toNat AV.undef) 1) (fI (t0.getD t4.toNat AV.undef) 2) (fI (t0.getD t4.toNat AV.undef) 3) (fI (t0.getD t4.toNat AV.undef) 4))]).length) * 16 ≤ 140737488355328) && decide ((h0.length + ([AV.str (v57_0 (fI (t0.getD t4.toNat AV.undef) 0) (fI (t0.getD t4.toNat AV.undef) 1) (fI (t0.getD t4.toNat AV.undef) 2) (fI (t0.getD t4.toNat AV.undef) 3) (fI (t0.getD t4.toNat AV.undef) 4))]).length) ≤ 140737488355328)) then next ⟨[(0, AV.sl [.int .i64, .int .i64, .int .i64, .int .i64, .int .i64] t0), (3, AV.own [0, 3]), (4, AV.int .i64 (IntKind.i64.wrap (t4 + 1)))], [([0, 3], ⟨false, [.str], h0 ++ ([AV.str (v57_0 (fI (t0.getD t4.toNat AV.undef) 0) (fI (t0.getD t4.toNat AV.undef) 1) (fI (t0.getD t4.toNat AV.undef) 2) (fI (t0.getD t4.toNat AV.undef) 3) (fI (t0.getD t4.toNat AV.undef) 4))])⟩)]⟩
  else none)
  else none)
  else none)
  else k (.exit 0) ⟨[(3, AV.own [0, 3])], [([0, 3], ⟨false, [.str], h0⟩)]⟩) := by kernel_rfl
theorem st26_0 (t0 : List AV) (ce : CallE) (k : Kont) (s : (Int × (List AV))) (next : St → Option AV) : stepA (codeA c26 ce [] 26 0 (sub [1, 1, 0, 1, 0, 0] (body Tryd.f26))) (normA [] [0, 3, 4]) next ((fun s : Int × (List AV) => ⟨[(0, AV.sl [.int .i64, .int .i64, .int .i64, .int .i64, .int .i64] t0), (3, AV.own [0, 3]), (4, AV.int .i64 s.1)], [([0, 3], ⟨false, [.str], s.2⟩)]⟩) s) k = (R26_0 t0 s).el none (fun s => next ((fun s : Int × (List AV) => ⟨[(0, AV.sl [.int .i64, .int .i64, .int .i64, .int .i64, .int .i64] t0), (3, AV.own [0, 3]), (4, AV.int .i64 s.1)], [([0, 3], ⟨false, [.str], s.2⟩)]⟩) s)) (fun p : (List AV) => k (.exit 0) ⟨[(3, AV.own [0, 3])], [([0, 3], ⟨false, [.str], p⟩)]⟩) := (s26_0 ce t0 s.1 s.2 next k).trans (by unfold R26_0; unfold F26_0; simp only [el_cond, el_ro, el_sum, el_fail, el_next, el_stop] <;> rfl)
theorem ok26_0 {ce : CallE} : LoopOK c26 ce [] 26 0 (sub [1, 1, 0, 1, 0, 0] (body Tryd.f26)) := by
  intro m hm st k r h
  obtain rfl : l26_0 = m := Option.some.inj hm
  unfold l26_0 at h
  split at h
  · rename_i g0 t0 g1 t4 g2 g3 h0
    obtain ⟨hg, h⟩ := bif_some h
    simp only [Bool.and_eq_true] at hg
    obtain ⟨⟨⟨q0, q1⟩, q2⟩, q3⟩ := hg
    obtain rfl := ctsEq_eq _ _ q0
    obtain rfl := (nmEq_iff _ _).1 q1
    obtain rfl := (nmEq_iff _ _).1 q2
    obtain rfl := ctsEq_eq _ _ q3
    refine ⟨(((t0.length : Int) - t4).toNat + 1), ?_⟩
    rw [← h]
    exact loop_run (fun s : Int × (List AV) => ⟨[(0, AV.sl [.int .i64, .int .i64, .int .i64, .int .i64, .int .i64] t0), (3, AV.own [0, 3]), (4, AV.int .i64 s.1)], [([0, 3], ⟨false, [.str], s.2⟩)]⟩) (fun p : (List AV) => k (.exit 0) ⟨[(3, AV.own [0, 3])], [([0, 3], ⟨false, [.str], p⟩)]⟩) (st26_0 t0 ce k) _ (t4, h0)
  · cases h
def q26 (a0 : List AV) : Bool := (ro (runW (R26_0 a0) (((a0.length : Int) - 0).toNat + 1) (0, ([] : List AV))) false (fun p3 => true))
def v26_0 (a0 : List AV) : List AV := (ro (runW (R26_0 a0) (((a0.length : Int) - 0).toNat + 1) (0, ([] : List AV))) [] (fun p3 => p3))
theorem e26 (a0 : List AV) : funA c26 0 26 [AV.sl [.int .i64, .int .i64, .int .i64, .int .i64, .int .i64] a0] = (ro (runW (R26_0 a0) (((a0.length : Int) - 0).toNat + 1) (0, ([] : List AV))) none (fun p3 => some (AV.fl [.str] p3))) := by kernel_rfl
theorem r26 (a0 : List AV) (h : q26 a0 = true) : funA c26 0 26 [AV.sl [.int .i64, .int .i64, .int .i64, .int .i64, .int .i64] a0] = some (AV.fl [.str] (v26_0 a0)) := (e26 a0).trans ((brO (fun o : Option (((List AV))) => some (AV.fl [.str] (ro o [] (fun p3 => p3)))) (fun p3 => (fun _ => rfl))) h)
def m26 : TModel
  | [.sl g0 a0] => bif ctsEq g0 ([.int .i64, .int .i64, .int .i64, .int .i64, .int .i64]) then some (q26 a0, AV.fl [.str] (v26_0 a0)) else none
  | _ => none
theorem k26 : Known Tryd.prog 26 := ⟨Tryd.f26, Tryd.func26, by kernel_rfl, by kernel_rfl⟩
theorem meets26 : Meets Tryd.prog 26 m26 := by
  refine meet (f := Tryd.f26) (l := [(0, sub [1, 1, 0, 1, 0, 0] (body Tryd.f26))]) (hs := [(26, 0, [0, 3, 4]), (26, 999, [2]), (26, 1000, [3]), (26, 1001, [0, 3, 4])]) (ts := [(57, m57)]) (ws := []) (is := []) (ls := [(26, 0, l26_0)]) (lvl := 0) mixed k26 Tryd.func26 (by kernel_rfl) (loops_cons ok26_0 noLoop) (allT_cons meets57 allT_nil) allM_nil noI fun w xs us r hl hv h => ?_
  unfold m26 at h
  split at h
  · rename_i g0 a0
    obtain ⟨hg, h⟩ := bif_pair h
    have q0 := hg
    obtain rfl := ctsEq_eq _ _ q0
    obtain ⟨h1, rfl⟩ := pair_inj h
    exact r26 a0 h1
  · cases h

/-! ### 45 loop.example/g01984/impl.bound -/
noncomputable def c45 : Cfg := cfg Tryd.prog [(45, 999, [2])] [] [] [] []
def q45 (a0 : Int) : Bool := true
def v45_0 (a0 : Int) : Bool := (bif decide (a0 ≥ (-1000)) then decide (a0 ≤ 1000) else false)
theorem e45 (a0 : Int) : funA c45 0 45 [AV.int .i64 a0] = (bif decide (a0 ≥ (-1000)) then some (AV.bool (decide (a0 ≤ 1000)))
  else some (AV.bool false)) := by kernel_rfl
theorem r45 (a0 : Int) : funA c45 0 45 [AV.int .i64 a0] = some (AV.bool (v45_0 a0)) := (e45 a0).trans (of_tt (brT (fun b => some (AV.bool (bif b then decide (a0 ≤ 1000) else false))) (fun _ => rfl) (fun _ => rfl)))
def m45 : TModel
  | [.int .i64 a0] => some (true, AV.bool (v45_0 a0))
  | _ => none
theorem k45 : Known Tryd.prog 45 := ⟨Tryd.f45, Tryd.func45, by kernel_rfl, by kernel_rfl⟩
theorem meets45 : Meets Tryd.prog 45 m45 := by
  refine meet (f := Tryd.f45) (l := []) (hs := [(45, 999, [2])]) (ts := []) (ws := []) (is := []) (ls := []) (lvl := 0) mixed k45 Tryd.func45 (by kernel_rfl) noLoop allT_nil allM_nil noI fun w xs us r hl hv h => ?_
  unfold m45 at h
  split at h
  · rename_i a0
    obtain ⟨h1, rfl⟩ := pair_inj h
    exact r45 a0
  · cases h

/-! ### 78 strconv.Itoa -/
def q78 (a0 : Int) : Bool := decide (-9223372036854775808 ≤ a0) && decide (a0 ≤ 9223372036854775807)
def v78_0 (a0 : Int) : ByteArray := itoaB a0
def m78 : TModel := itoaM
theorem k78 : Known Tryd.prog 78 := ⟨Tryd.f78, Tryd.func78, by kernel_rfl, by kernel_rfl⟩
theorem meets78 : Meets Tryd.prog 78 m78 := itoa_meets ⟨k78, fun n w h0 h1 hG => Any.strconv_Itoa lays171 n h0 h1 w hG⟩

/-! ### 44 loop.example/g01984/impl.FormatInt -/
noncomputable def c44 : Cfg := cfg Tryd.prog [(44, 999, [2])] [(78, m78)] [] [] []
def q44 (a0 : Int) : Bool := q78 a0
def v44_0 (a0 : Int) : ByteArray := (v78_0 a0)
theorem e44 (a0 : Int) : funA c44 0 44 [AV.int .i64 a0] = (bif q78 a0 then some (AV.str (v78_0 a0))
  else none) := by kernel_rfl
theorem r44 (a0 : Int) (h : q44 a0 = true) : funA c44 0 44 [AV.int .i64 a0] = some (AV.str (v44_0 a0)) := (e44 a0).trans ((brL1 (fun _ => rfl)) h)
def m44 : TModel
  | [.int .i64 a0] => some (q44 a0, AV.str (v44_0 a0))
  | _ => none
theorem k44 : Known Tryd.prog 44 := ⟨Tryd.f44, Tryd.func44, by kernel_rfl, by kernel_rfl⟩
theorem meets44 : Meets Tryd.prog 44 m44 := by
  refine meet (f := Tryd.f44) (l := []) (hs := [(44, 999, [2])]) (ts := [(78, m78)]) (ws := []) (is := []) (ls := []) (lvl := 0) mixed k44 Tryd.func44 (by kernel_rfl) noLoop (allT_cons meets78 allT_nil) allM_nil noI fun w xs us r hl hv h => ?_
  unfold m44 at h
  split at h
  · rename_i a0
    obtain ⟨h1, rfl⟩ := pair_inj h
    exact r44 a0 h1
  · cases h

/-! ### 50 strings.Join -/
def q50 (a0 : List AV) (a1 : ByteArray) : Bool := decide (a0.length ≤ 140737488355328) && decide ((joinB a0 a1).size ≤ 140737488355328)
def v50_0 (a0 : List AV) (a1 : ByteArray) : ByteArray := joinB a0 a1
def m50 : TModel := joinM
theorem k50 : Known Tryd.prog 50 := ⟨Tryd.f50, Tryd.func50, by kernel_rfl, by kernel_rfl⟩
theorem meets50 : Meets Tryd.prog 50 m50 := join_meets ⟨k50, fun a c sep w => Any.strings_Join_none lays156 extra156 a c sep w, fun bk o c xs sep w h1 h2 h3 h4 h5 => Any.strings_Join lays156 extra156 bk o c xs sep w h1 h2 h3 h4 h5⟩

/-! ### 59 loop.example/g01984/impl.FormatCharge -/
noncomputable def c59 : Cfg := cfg Tryd.prog [(59, 999, [2])] [(44, m44), (45, m45), (50, m50)] [] [] []
def q59 (a0_0 : Int) (a0_1 : Int) (a0_2 : Int) (a0_3 : Int) (a0_4 : Int) : Bool := (bif decide (a0_0 < 0) then true else (bif decide (a0_0 ≥ 30) then true else (bif !(v45_0 a0_1) then true else (bif decide (a0_4 < 0) then true else (bif decide (a0_4 > 64) then true else (bif decide (a0_2 < 0) then true else (bif decide (a0_2 > a0_3) then true else (bif decide (a0_3 > 64) then true else (q44 a0_0 && (q44 a0_1 && (q44 a0_2 && (decide ((v44_0 a0_2).size + (ByteArray.mk #[46, 46]).size ≤ 4611686018427387904) && (q44 a0_3 && (decide (((v44_0 a0_2) ++ (ByteArray.mk #[46, 46])).size + (v44_0 a0_3).size ≤ 4611686018427387904) && (q44 a0_4 && q50 ([AV.str (v44_0 a0_0), AV.str (ByteArray.mk #[97, 116]), AV.str (v44_0 a0_1), AV.str (ByteArray.mk #[105, 110]), AV.str (((v44_0 a0_2) ++ (ByteArray.mk #[46, 46])) ++ (v44_0 a0_3)), AV.str (ByteArray.mk #[115, 119, 97, 112, 115]), AV.str (v44_0 a0_4)]) (ByteArray.mk #[32]))))))))))))))))
def v59_0 (a0_0 : Int) (a0_1 : Int) (a0_2 : Int) (a0_3 : Int) (a0_4 : Int) : ByteArray := (bif decide (a0_0 < 0) then ByteArray.empty else (bif decide (a0_0 ≥ 30) then ByteArray.empty else (bif !(v45_0 a0_1) then ByteArray.empty else (bif decide (a0_4 < 0) then ByteArray.empty else (bif decide (a0_4 > 64) then ByteArray.empty else (bif decide (a0_2 < 0) then ByteArray.empty else (bif decide (a0_2 > a0_3) then ByteArray.empty else (bif decide (a0_3 > 64) then ByteArray.empty else (v50_0 ([AV.str (v44_0 a0_0), AV.str (ByteArray.mk #[97, 116]), AV.str (v44_0 a0_1), AV.str (ByteArray.mk #[105, 110]), AV.str (((v44_0 a0_2) ++ (ByteArray.mk #[46, 46])) ++ (v44_0 a0_3)), AV.str (ByteArray.mk #[115, 119, 97, 112, 115]), AV.str (v44_0 a0_4)]) (ByteArray.mk #[32]))))))))))
theorem e59 (a0_0 : Int) (a0_1 : Int) (a0_2 : Int) (a0_3 : Int) (a0_4 : Int) : funA c59 0 59 [AV.agg [AV.int .i64 a0_0, AV.int .i64 a0_1, AV.int .i64 a0_2, AV.int .i64 a0_3, AV.int .i64 a0_4]] = (bif decide (a0_0 < 0) then some (AV.str ByteArray.empty)
  else (bif decide (a0_0 ≥ 30) then some (AV.str ByteArray.empty)
  else (bif !(v45_0 a0_1) then some (AV.str ByteArray.empty)
  else (bif decide (a0_4 < 0) then some (AV.str ByteArray.empty)
  else (bif decide (a0_4 > 64) then some (AV.str ByteArray.empty)
  else (bif decide (a0_2 < 0) then some (AV.str ByteArray.empty)
  else (bif decide (a0_2 > a0_3) then some (AV.str ByteArray.empty)
  else (bif decide (a0_3 > 64) then some (AV.str ByteArray.empty)
  else (bif q44 a0_0 then (bif q44 a0_1 then (bif q44 a0_2 then (bif decide ((v44_0 a0_2).size + (ByteArray.mk #[46, 46]).size ≤ 4611686018427387904) then (bif q44 a0_3 then (bif decide (((v44_0 a0_2) ++ (ByteArray.mk #[46, 46])).size + (v44_0 a0_3).size ≤ 4611686018427387904) then (bif q44 a0_4 then (bif q50 ([AV.str (v44_0 a0_0), AV.str (ByteArray.mk #[97, 116]), AV.str (v44_0 a0_1), AV.str (ByteArray.mk #[105, 110]), AV.str (((v44_0 a0_2) ++ (ByteArray.mk #[46, 46])) ++ (v44_0 a0_3)), AV.str (ByteArray.mk #[115, 119, 97, 112, 115]), AV.str (v44_0 a0_4)]) (ByteArray.mk #[32]) then some (AV.str (v50_0 ([AV.str (v44_0 a0_0), AV.str (ByteArray.mk #[97, 116]), AV.str (v44_0 a0_1), AV.str (ByteArray.mk #[105, 110]), AV.str (((v44_0 a0_2) ++ (ByteArray.mk #[46, 46])) ++ (v44_0 a0_3)), AV.str (ByteArray.mk #[115, 119, 97, 112, 115]), AV.str (v44_0 a0_4)]) (ByteArray.mk #[32])))
  else none)
  else none)
  else none)
  else none)
  else none)
  else none)
  else none)
  else none))))))))) := by kernel_rfl
theorem r59 (a0_0 : Int) (a0_1 : Int) (a0_2 : Int) (a0_3 : Int) (a0_4 : Int) (h : q59 a0_0 a0_1 a0_2 a0_3 a0_4 = true) : funA c59 0 59 [AV.agg [AV.int .i64 a0_0, AV.int .i64 a0_1, AV.int .i64 a0_2, AV.int .i64 a0_3, AV.int .i64 a0_4]] = some (AV.str (v59_0 a0_0 a0_1 a0_2 a0_3 a0_4)) := (e59 a0_0 a0_1 a0_2 a0_3 a0_4).trans ((br (fun b => some (AV.str (bif b then ByteArray.empty else (bif decide (a0_0 ≥ 30) then ByteArray.empty else (bif !(v45_0 a0_1) then ByteArray.empty else (bif decide (a0_4 < 0) then ByteArray.empty else (bif decide (a0_4 > 64) then ByteArray.empty else (bif decide (a0_2 < 0) then ByteArray.empty else (bif decide (a0_2 > a0_3) then ByteArray.empty else (bif decide (a0_3 > 64) then ByteArray.empty else (v50_0 ([AV.str (v44_0 a0_0), AV.str (ByteArray.mk #[97, 116]), AV.str (v44_0 a0_1), AV.str (ByteArray.mk #[105, 110]), AV.str (((v44_0 a0_2) ++ (ByteArray.mk #[46, 46])) ++ (v44_0 a0_3)), AV.str (ByteArray.mk #[115, 119, 97, 112, 115]), AV.str (v44_0 a0_4)]) (ByteArray.mk #[32])))))))))))) (fun _ => rfl) (br (fun b => some (AV.str (bif b then ByteArray.empty else (bif !(v45_0 a0_1) then ByteArray.empty else (bif decide (a0_4 < 0) then ByteArray.empty else (bif decide (a0_4 > 64) then ByteArray.empty else (bif decide (a0_2 < 0) then ByteArray.empty else (bif decide (a0_2 > a0_3) then ByteArray.empty else (bif decide (a0_3 > 64) then ByteArray.empty else (v50_0 ([AV.str (v44_0 a0_0), AV.str (ByteArray.mk #[97, 116]), AV.str (v44_0 a0_1), AV.str (ByteArray.mk #[105, 110]), AV.str (((v44_0 a0_2) ++ (ByteArray.mk #[46, 46])) ++ (v44_0 a0_3)), AV.str (ByteArray.mk #[115, 119, 97, 112, 115]), AV.str (v44_0 a0_4)]) (ByteArray.mk #[32]))))))))))) (fun _ => rfl) (br (fun b => some (AV.str (bif b then ByteArray.empty else (bif decide (a0_4 < 0) then ByteArray.empty else (bif decide (a0_4 > 64) then ByteArray.empty else (bif decide (a0_2 < 0) then ByteArray.empty else (bif decide (a0_2 > a0_3) then ByteArray.empty else (bif decide (a0_3 > 64) then ByteArray.empty else (v50_0 ([AV.str (v44_0 a0_0), AV.str (ByteArray.mk #[97, 116]), AV.str (v44_0 a0_1), AV.str (ByteArray.mk #[105, 110]), AV.str (((v44_0 a0_2) ++ (ByteArray.mk #[46, 46])) ++ (v44_0 a0_3)), AV.str (ByteArray.mk #[115, 119, 97, 112, 115]), AV.str (v44_0 a0_4)]) (ByteArray.mk #[32])))))))))) (fun _ => rfl) (br (fun b => some (AV.str (bif b then ByteArray.empty else (bif decide (a0_4 > 64) then ByteArray.empty else (bif decide (a0_2 < 0) then ByteArray.empty else (bif decide (a0_2 > a0_3) then ByteArray.empty else (bif decide (a0_3 > 64) then ByteArray.empty else (v50_0 ([AV.str (v44_0 a0_0), AV.str (ByteArray.mk #[97, 116]), AV.str (v44_0 a0_1), AV.str (ByteArray.mk #[105, 110]), AV.str (((v44_0 a0_2) ++ (ByteArray.mk #[46, 46])) ++ (v44_0 a0_3)), AV.str (ByteArray.mk #[115, 119, 97, 112, 115]), AV.str (v44_0 a0_4)]) (ByteArray.mk #[32]))))))))) (fun _ => rfl) (br (fun b => some (AV.str (bif b then ByteArray.empty else (bif decide (a0_2 < 0) then ByteArray.empty else (bif decide (a0_2 > a0_3) then ByteArray.empty else (bif decide (a0_3 > 64) then ByteArray.empty else (v50_0 ([AV.str (v44_0 a0_0), AV.str (ByteArray.mk #[97, 116]), AV.str (v44_0 a0_1), AV.str (ByteArray.mk #[105, 110]), AV.str (((v44_0 a0_2) ++ (ByteArray.mk #[46, 46])) ++ (v44_0 a0_3)), AV.str (ByteArray.mk #[115, 119, 97, 112, 115]), AV.str (v44_0 a0_4)]) (ByteArray.mk #[32])))))))) (fun _ => rfl) (br (fun b => some (AV.str (bif b then ByteArray.empty else (bif decide (a0_2 > a0_3) then ByteArray.empty else (bif decide (a0_3 > 64) then ByteArray.empty else (v50_0 ([AV.str (v44_0 a0_0), AV.str (ByteArray.mk #[97, 116]), AV.str (v44_0 a0_1), AV.str (ByteArray.mk #[105, 110]), AV.str (((v44_0 a0_2) ++ (ByteArray.mk #[46, 46])) ++ (v44_0 a0_3)), AV.str (ByteArray.mk #[115, 119, 97, 112, 115]), AV.str (v44_0 a0_4)]) (ByteArray.mk #[32]))))))) (fun _ => rfl) (br (fun b => some (AV.str (bif b then ByteArray.empty else (bif decide (a0_3 > 64) then ByteArray.empty else (v50_0 ([AV.str (v44_0 a0_0), AV.str (ByteArray.mk #[97, 116]), AV.str (v44_0 a0_1), AV.str (ByteArray.mk #[105, 110]), AV.str (((v44_0 a0_2) ++ (ByteArray.mk #[46, 46])) ++ (v44_0 a0_3)), AV.str (ByteArray.mk #[115, 119, 97, 112, 115]), AV.str (v44_0 a0_4)]) (ByteArray.mk #[32])))))) (fun _ => rfl) (br (fun b => some (AV.str (bif b then ByteArray.empty else (v50_0 ([AV.str (v44_0 a0_0), AV.str (ByteArray.mk #[97, 116]), AV.str (v44_0 a0_1), AV.str (ByteArray.mk #[105, 110]), AV.str (((v44_0 a0_2) ++ (ByteArray.mk #[46, 46])) ++ (v44_0 a0_3)), AV.str (ByteArray.mk #[115, 119, 97, 112, 115]), AV.str (v44_0 a0_4)]) (ByteArray.mk #[32]))))) (fun _ => rfl) (brL (brL (brL (brL (brL (brL (brL (brL1 (fun _ => rfl))))))))))))))))) h)
def m59 : TModel
  | [.agg [.int .i64 a0_0, .int .i64 a0_1, .int .i64 a0_2, .int .i64 a0_3, .int .i64 a0_4]] => some (q59 a0_0 a0_1 a0_2 a0_3 a0_4, AV.str (v59_0 a0_0 a0_1 a0_2 a0_3 a0_4))
  | _ => none
theorem k59 : Known Tryd.prog 59 := ⟨Tryd.f59, Tryd.func59, by kernel_rfl, by kernel_rfl⟩
theorem meets59 : Meets Tryd.prog 59 m59 := by
  refine meet (f := Tryd.f59) (l := []) (hs := [(59, 999, [2])]) (ts := [(44, m44), (45, m45), (50, m50)]) (ws := []) (is := []) (ls := []) (lvl := 0) mixed k59 Tryd.func59 (by kernel_rfl) noLoop (allT_cons meets44 (allT_cons meets45 (allT_cons meets50 allT_nil))) allM_nil noI fun w xs us r hl hv h => ?_
  unfold m59 at h
  split at h
  · rename_i a0_0 a0_1 a0_2 a0_3 a0_4
    obtain ⟨h1, rfl⟩ := pair_inj h
    exact r59 a0_0 a0_1 a0_2 a0_3 a0_4 h1
  · cases h

/-! ### 28 loop.example/g01984/impl.LedgerLines -/
def F28_0 (t7 : List AV) (t8 : Int) (t9 : Int) (h0 : List AV) : Out ((Int × (List AV))) (((List AV))) := (bif decide (t9 < t8) then (bif (decide (0 ≤ t9) && decide (t9 < (t7.length : Int))) then (bif q59 (fI (t7.getD t9.toNat AV.undef) 0) (fI (t7.getD t9.toNat AV.undef) 1) (fI (t7.getD t9.toNat AV.undef) 2) (fI (t7.getD t9.toNat AV.undef) 3) (fI (t7.getD t9.toNat AV.undef) 4) then (bif (decide ((h0.length + ([AV.str (v59_0 (fI (t7.getD t9.toNat AV.undef) 0) (fI (t7.getD t9.toNat AV.undef) 1) (fI (t7.getD t9.toNat AV.undef) 2) (fI (t7.getD t9.toNat AV.undef) 3) (fI (t7.getD t9.toNat AV.undef) 4))]).length) * 16 ≤ 140737488355328) && decide ((h0.length + ([AV.str (v59_0 (fI (t7.getD t9.toNat AV.undef) 0) (fI (t7.getD t9.toNat AV.undef) 1) (fI (t7.getD t9.toNat AV.undef) 2) (fI (t7.getD t9.toNat AV.undef) 3) (fI (t7.getD t9.toNat AV.undef) 4))]).length) ≤ 140737488355328)) then .next (IntKind.i64.wrap (t9 + 1), h0 ++ ([AV.str (v59_0 (fI (t7.getD t9.toNat AV.undef) 0) (fI (t7.getD t9.toNat AV.undef) 1) (fI (t7.getD t9.toNat AV.undef) 2) (fI (t7.getD t9.toNat AV.undef) 3) (fI (t7.getD t9.toNat AV.undef) 4))]))
  else .fail)
  else .fail)
  else .fail)
  else .stop h0)
def R28_0 (t7 : List AV) (t8 : Int) : ((Int × (List AV))) → Out ((Int × (List AV))) (((List AV))) := fun s : Int × (List AV) => F28_0 t7 t8 s.1 s.2
def l28_0 : LModel := fun _ _ st k => match st with
  | ⟨[(3, .own g0), (7, .sl g1 t7), (8, .int .i64 t8), (9, .int .i64 t9)], [(g2, ⟨false, g3, h0⟩)]⟩ => bif nmEq g0 ([0, 3]) && ctsEq g1 ([.int .i64, .int .i64, .int .i64, .int .i64, .int .i64]) && nmEq g2 ([0, 3]) && ctsEq g3 ([.str]) then ro (runW (R28_0 t7 t8) ((t8 - t9).toNat + 1) (t9, h0)) none (fun p : (List AV) => k (.exit 0) ⟨[(3, AV.own [0, 3])], [([0, 3], ⟨false, [.str], p⟩)]⟩) else none
  | _ => none
noncomputable def c28 : Cfg := cfg Tryd.prog [(28, 0, [3, 7, 8, 9]), (28, 999, [2]), (28, 1000, [3]), (28, 1001, [3, 7, 8, 9])] [(59, m59)] [] [] [(28, 0, l28_0)]
theorem s28_0 (ce : CallE) (t7 : List AV) (t8 : Int) (t9 : Int) (h0 : List AV) (next : St → Option AV) (k : Kont) : stepA (codeA c28 ce [] 28 0 (sub [1, 1, 0, 1, 0, 0] (body Tryd.f28))) (normA [] [3, 7, 8, 9]) next ⟨[(3, AV.own [0, 3]), (7, AV.sl [.int .i64, .int .i64, .int .i64, .int .i64, .int .i64] t7), (8, AV.int .i64 t8), (9, AV.int .i64 t9)], [([0, 3], ⟨false, [.str], h0⟩)]⟩ k = (bif decide (t9 < t8) then (bif (decide (0 ≤ t9) && decide (t9 < (t7.length : Int))) then (bif q59 (fI (t7.getD t9.toNat AV.undef) 0) (fI (t7.getD t9.toNat AV.undef) 1) (fI (t7.getD t9.toNat AV.undef) 2) (fI (t7.getD t9.toNat AV.undef) 3) (fI (t7.getD t9.toNat AV.undef) 4) then (bif (decide ((h0.length + ([AV.str (v59_0 (fI (t7.getD t9.toNat AV.undef) 0) (fI (t7.getD t9.toNat AV.undef) 1) (fI (t7.getD t9.toNat AV.undef) 2) (fI (t7.getD t9.toNat AV.undef) 3) (fI (t7.getD t9.toNat AV.undef) 4))]).length) * 16 ≤ 140737488355328) && decide ((h0.length + ([AV.str (v59_0 (fI (t7.getD t9.toNat AV.undef) 0) (fI (t7.getD t9.toNat AV.undef) 1) (fI (t7.getD t9.toNat AV.undef) 2) (fI (t7.getD t9.toNat AV.undef) 3) (fI (t7.getD t9.toNat AV.undef) 4))]).length) ≤ 140737488355328)) then next ⟨[(3, AV.own [0, 3]), (7, AV.sl [.int .i64, .int .i64, .int .i64, .int .i64, .int .i64] t7), (8, AV.int .i64 t8), (9, AV.int .i64 (IntKind.i64.wrap (t9 + 1)))], [([0, 3], ⟨false, [.str], h0 ++ ([AV.str (v59_0 (fI (t7.getD t9.toNat AV.undef) 0) (fI (t7.getD t9.toNat AV.undef) 1) (fI (t7.getD t9.toNat AV.undef) 2) (fI (t7.getD t9.toNat AV.undef) 3) (fI (t7.getD t9.toNat AV.undef) 4))])⟩)]⟩
  else none)
  else none)
  else none)
  else k (.exit 0) ⟨[(3, AV.own [0, 3])], [([0, 3], ⟨false, [.str], h0⟩)]⟩) := by kernel_rfl
theorem st28_0 (t7 : List AV) (t8 : Int) (ce : CallE) (k : Kont) (s : (Int × (List AV))) (next : St → Option AV) : stepA (codeA c28 ce [] 28 0 (sub [1, 1, 0, 1, 0, 0] (body Tryd.f28))) (normA [] [3, 7, 8, 9]) next ((fun s : Int × (List AV) => ⟨[(3, AV.own [0, 3]), (7, AV.sl [.int .i64, .int .i64, .int .i64, .int .i64, .int .i64] t7), (8, AV.int .i64 t8), (9, AV.int .i64 s.1)], [([0, 3], ⟨false, [.str], s.2⟩)]⟩) s) k = (R28_0 t7 t8 s).el none (fun s => next ((fun s : Int × (List AV) => ⟨[(3, AV.own [0, 3]), (7, AV.sl [.int .i64, .int .i64, .int .i64, .int .i64, .int .i64] t7), (8, AV.int .i64 t8), (9, AV.int .i64 s.1)], [([0, 3], ⟨false, [.str], s.2⟩)]⟩) s)) (fun p : (List AV) => k (.exit 0) ⟨[(3, AV.own [0, 3])], [([0, 3], ⟨false, [.str], p⟩)]⟩) := (s28_0 ce t7 t8 s.1 s.2 next k).trans (by unfold R28_0; unfold F28_0; simp only [el_cond, el_ro, el_sum, el_fail, el_next, el_stop] <;> rfl)
theorem ok28_0 {ce : CallE} : LoopOK c28 ce [] 28 0 (sub [1, 1, 0, 1, 0, 0] (body Tryd.f28)) := by
  intro m hm st k r h
  obtain rfl : l28_0 = m := Option.some.inj hm
  unfold l28_0 at h
  split at h
  · rename_i g0 g1 t7 t8 t9 g2 g3 h0
    obtain ⟨hg, h⟩ := bif_some h
    simp only [Bool.and_eq_true] at hg
    obtain ⟨⟨⟨q0, q1⟩, q2⟩, q3⟩ := hg
    obtain rfl := (nmEq_iff _ _).1 q0
    obtain rfl := ctsEq_eq _ _ q1
    obtain rfl := (nmEq_iff _ _).1 q2
    obtain rfl := ctsEq_eq _ _ q3
    refine ⟨((t8 - t9).toNat + 1), ?_⟩
    rw [← h]
    exact loop_run (fun s : Int × (List AV) => ⟨[(3, AV.own [0, 3]), (7, AV.sl [.int .i64, .int .i64, .int .i64, .int .i64, .int .i64] t7), (8, AV.int .i64 t8), (9, AV.int .i64 s.1)], [([0, 3], ⟨false, [.str], s.2⟩)]⟩) (fun p : (List AV) => k (.exit 0) ⟨[(3, AV.own [0, 3])], [([0, 3], ⟨false, [.str], p⟩)]⟩) (st28_0 t7 t8 ce k) _ (t9, h0)
  · cases h
def q28 (a0 : List AV) : Bool := (ro (runW (R28_0 a0 (a0.length : Int)) (((a0.length : Int) - 0).toNat + 1) (0, ([] : List AV))) false (fun p4 => true))
def v28_0 (a0 : List AV) : List AV := (ro (runW (R28_0 a0 (a0.length : Int)) (((a0.length : Int) - 0).toNat + 1) (0, ([] : List AV))) [] (fun p4 => p4))
theorem e28 (a0 : List AV) : funA c28 0 28 [AV.sl [.int .i64, .int .i64, .int .i64, .int .i64, .int .i64] a0] = (ro (runW (R28_0 a0 (a0.length : Int)) (((a0.length : Int) - 0).toNat + 1) (0, ([] : List AV))) none (fun p4 => some (AV.fl [.str] p4))) := by kernel_rfl
theorem r28 (a0 : List AV) (h : q28 a0 = true) : funA c28 0 28 [AV.sl [.int .i64, .int .i64, .int .i64, .int .i64, .int .i64] a0] = some (AV.fl [.str] (v28_0 a0)) := (e28 a0).trans ((brO (fun o : Option (((List AV))) => some (AV.fl [.str] (ro o [] (fun p4 => p4)))) (fun p4 => (fun _ => rfl))) h)
def m28 : TModel
  | [.sl g0 a0] => bif ctsEq g0 ([.int .i64, .int .i64, .int .i64, .int .i64, .int .i64]) then some (q28 a0, AV.fl [.str] (v28_0 a0)) else none
  | _ => none
theorem k28 : Known Tryd.prog 28 := ⟨Tryd.f28, Tryd.func28, by kernel_rfl, by kernel_rfl⟩
theorem meets28 : Meets Tryd.prog 28 m28 := by
  refine meet (f := Tryd.f28) (l := [(0, sub [1, 1, 0, 1, 0, 0] (body Tryd.f28))]) (hs := [(28, 0, [3, 7, 8, 9]), (28, 999, [2]), (28, 1000, [3]), (28, 1001, [3, 7, 8, 9])]) (ts := [(59, m59)]) (ws := []) (is := []) (ls := [(28, 0, l28_0)]) (lvl := 0) mixed k28 Tryd.func28 (by kernel_rfl) (loops_cons ok28_0 noLoop) (allT_cons meets59 allT_nil) allM_nil noI fun w xs us r hl hv h => ?_
  unfold m28 at h
  split at h
  · rename_i g0 a0
    obtain ⟨hg, h⟩ := bif_pair h
    have q0 := hg
    obtain rfl := ctsEq_eq _ _ q0
    obtain ⟨h1, rfl⟩ := pair_inj h
    exact r28 a0 h1
  · cases h

/-! ### 29 loop.example/g01984/laws.eqStringS -/
def F29_0 (t0 : List AV) (t1 : List AV) (t5 : Int) : Out (Int) (Unit ⊕ Unit) := (bif decide (t5 < (t0.length : Int)) then (bif (decide (0 ≤ t5) && decide (t5 < (t0.length : Int))) then (bif (decide (0 ≤ t5) && decide (t5 < (t1.length : Int))) then (bif !((fS (t0.getD t5.toNat AV.undef) 0).toList == (fS (t1.getD t5.toNat AV.undef) 0).toList) then .stop (.inr ())
  else .next (IntKind.i64.wrap (t5 + 1)))
  else .fail)
  else .fail)
  else .stop (.inl ()))
def R29_0 (t0 : List AV) (t1 : List AV) : (Int) → Out (Int) (Unit ⊕ Unit) := fun s : Int => F29_0 t0 t1 s
def l29_0 : LModel := fun _ _ st k => match st with
  | ⟨[(0, .sl g0 t0), (1, .sl g1 t1), (5, .int .i64 t5)], []⟩ => bif ctsEq g0 ([.str]) && ctsEq g1 ([.str]) then ro (runW (R29_0 t0 t1) (((t0.length : Int) - t5).toNat + 1) t5) none (sumE (fun _ : Unit => k (.exit 0) ⟨[], []⟩) (fun _ : Unit => k .ret ⟨[(4, AV.bool false)], []⟩)) else none
  | _ => none
noncomputable def c29 : Cfg := cfg Tryd.prog [(29, 0, [0, 1, 5]), (29, 999, [4]), (29, 1000, []), (29, 1001, [0, 1, 5])] [] [] [] [(29, 0, l29_0)]
theorem s29_0 (ce : CallE) (t0 : List AV) (t1 : List AV) (t5 : Int) (next : St → Option AV) (k : Kont) : stepA (codeA c29 ce [] 29 0 (sub [1, 1, 0, 1, 0, 0] (body Tryd.f29))) (normA [] [0, 1, 5]) next ⟨[(0, AV.sl [.str] t0), (1, AV.sl [.str] t1), (5, AV.int .i64 t5)], []⟩ k = (bif decide (t5 < (t0.length : Int)) then (bif (decide (0 ≤ t5) && decide (t5 < (t0.length : Int))) then (bif (decide (0 ≤ t5) && decide (t5 < (t1.length : Int))) then (bif !((fS (t0.getD t5.toNat AV.undef) 0).toList == (fS (t1.getD t5.toNat AV.undef) 0).toList) then k .ret ⟨[(4, AV.bool false)], []⟩
  else next ⟨[(0, AV.sl [.str] t0), (1, AV.sl [.str] t1), (5, AV.int .i64 (IntKind.i64.wrap (t5 + 1)))], []⟩)
  else none)
  else none)
  else k (.exit 0) ⟨[], []⟩) := by kernel_rfl
theorem st29_0 (t0 : List AV) (t1 : List AV) (ce : CallE) (k : Kont) (s : Int) (next : St → Option AV) : stepA (codeA c29 ce [] 29 0 (sub [1, 1, 0, 1, 0, 0] (body Tryd.f29))) (normA [] [0, 1, 5]) next ((fun s : Int => ⟨[(0, AV.sl [.str] t0), (1, AV.sl [.str] t1), (5, AV.int .i64 s)], []⟩) s) k = (R29_0 t0 t1 s).el none (fun s => next ((fun s : Int => ⟨[(0, AV.sl [.str] t0), (1, AV.sl [.str] t1), (5, AV.int .i64 s)], []⟩) s)) (sumE (fun _ : Unit => k (.exit 0) ⟨[], []⟩) (fun _ : Unit => k .ret ⟨[(4, AV.bool false)], []⟩)) := (s29_0 ce t0 t1 s next k).trans (by unfold R29_0; unfold F29_0; simp only [el_cond, el_ro, el_sum, el_fail, el_next, el_stop] <;> rfl)
theorem ok29_0 {ce : CallE} : LoopOK c29 ce [] 29 0 (sub [1, 1, 0, 1, 0, 0] (body Tryd.f29)) := by
  intro m hm st k r h
  obtain rfl : l29_0 = m := Option.some.inj hm
  unfold l29_0 at h
  split at h
  · rename_i g0 t0 g1 t1 t5
    obtain ⟨hg, h⟩ := bif_some h
    simp only [Bool.and_eq_true] at hg
    obtain ⟨q0, q1⟩ := hg
    obtain rfl := ctsEq_eq _ _ q0
    obtain rfl := ctsEq_eq _ _ q1
    refine ⟨(((t0.length : Int) - t5).toNat + 1), ?_⟩
    rw [← h]
    exact loop_run (fun s : Int => ⟨[(0, AV.sl [.str] t0), (1, AV.sl [.str] t1), (5, AV.int .i64 s)], []⟩) (sumE (fun _ : Unit => k (.exit 0) ⟨[], []⟩) (fun _ : Unit => k .ret ⟨[(4, AV.bool false)], []⟩)) (st29_0 t0 t1 ce k) _ t5
  · cases h
def q29 (a0 : List AV) (a1 : List AV) : Bool := (bif !decide ((a0.length : Int) = (a1.length : Int)) then true else (ro (runW (R29_0 a0 a1) (((a0.length : Int) - 0).toNat + 1) 0) false (sumE (fun _ => true) (fun _ => true))))
def v29_0 (a0 : List AV) (a1 : List AV) : Bool := (bif !decide ((a0.length : Int) = (a1.length : Int)) then false else (ro (runW (R29_0 a0 a1) (((a0.length : Int) - 0).toNat + 1) 0) false (sumE (fun _ => true) (fun _ => false))))
theorem e29 (a0 : List AV) (a1 : List AV) : funA c29 0 29 [AV.sl [.str] a0, AV.sl [.str] a1] = (bif !decide ((a0.length : Int) = (a1.length : Int)) then some (AV.bool false)
  else (ro (runW (R29_0 a0 a1) (((a0.length : Int) - 0).toNat + 1) 0) none (sumE (fun _ => some (AV.bool true)) (fun _ => some (AV.bool false))))) := by kernel_rfl
theorem r29 (a0 : List AV) (a1 : List AV) (h : q29 a0 a1 = true) : funA c29 0 29 [AV.sl [.str] a0, AV.sl [.str] a1] = some (AV.bool (v29_0 a0 a1)) := (e29 a0 a1).trans ((br (fun b => some (AV.bool (bif b then false else (ro (runW (R29_0 a0 a1) (((a0.length : Int) - 0).toNat + 1) 0) false (sumE (fun _ => true) (fun _ => false)))))) (fun _ => rfl) (brO (fun o : Option (Unit ⊕ Unit) => some (AV.bool (ro o false (sumE (fun _ => true) (fun _ => false))))) (brS (fun o : Unit ⊕ Unit => some (AV.bool ((sumE (fun _ => true) (fun _ => false)) o))) (fun _ => (fun _ => rfl)) (fun _ => (fun _ => rfl))))) h)
def m29 : TModel
  | [.sl g0 a0, .sl g1 a1] => bif ctsEq g0 ([.str]) && ctsEq g1 ([.str]) then some (q29 a0 a1, AV.bool (v29_0 a0 a1)) else none
  | _ => none
theorem k29 : Known Tryd.prog 29 := ⟨Tryd.f29, Tryd.func29, by kernel_rfl, by kernel_rfl⟩
theorem meets29 : Meets Tryd.prog 29 m29 := by
  refine meet (f := Tryd.f29) (l := [(0, sub [1, 1, 0, 1, 0, 0] (body Tryd.f29))]) (hs := [(29, 0, [0, 1, 5]), (29, 999, [4]), (29, 1000, []), (29, 1001, [0, 1, 5])]) (ts := []) (ws := []) (is := []) (ls := [(29, 0, l29_0)]) (lvl := 0) mixed k29 Tryd.func29 (by kernel_rfl) (loops_cons ok29_0 noLoop) allT_nil allM_nil noI fun w xs us r hl hv h => ?_
  unfold m29 at h
  split at h
  · rename_i g0 a0 g1 a1
    obtain ⟨hg, h⟩ := bif_pair h
    simp only [Bool.and_eq_true] at hg
    obtain ⟨q0, q1⟩ := hg
    obtain rfl := ctsEq_eq _ _ q0
    obtain rfl := ctsEq_eq _ _ q1
    obtain ⟨h1, rfl⟩ := pair_inj h
    exact r29 a0 a1 h1
  · cases h

/-! ### 60 loop.example/g01984/laws.eqCharge -/
noncomputable def c60 : Cfg := cfg Tryd.prog [(60, 999, [4])] [] [] [] []
def q60 (a0_0 : Int) (a0_1 : Int) (a0_2 : Int) (a0_3 : Int) (a0_4 : Int) (a1_0 : Int) (a1_1 : Int) (a1_2 : Int) (a1_3 : Int) (a1_4 : Int) : Bool := true
def v60_0 (a0_0 : Int) (a0_1 : Int) (a0_2 : Int) (a0_3 : Int) (a0_4 : Int) (a1_0 : Int) (a1_1 : Int) (a1_2 : Int) (a1_3 : Int) (a1_4 : Int) : Bool := (bif !decide (a0_0 = a1_0) then false else (bif !decide (a0_1 = a1_1) then false else (bif !decide (a0_2 = a1_2) then false else (bif !decide (a0_3 = a1_3) then false else (bif !decide (a0_4 = a1_4) then false else true)))))
theorem e60 (a0_0 : Int) (a0_1 : Int) (a0_2 : Int) (a0_3 : Int) (a0_4 : Int) (a1_0 : Int) (a1_1 : Int) (a1_2 : Int) (a1_3 : Int) (a1_4 : Int) : funA c60 0 60 [AV.agg [AV.int .i64 a0_0, AV.int .i64 a0_1, AV.int .i64 a0_2, AV.int .i64 a0_3, AV.int .i64 a0_4], AV.agg [AV.int .i64 a1_0, AV.int .i64 a1_1, AV.int .i64 a1_2, AV.int .i64 a1_3, AV.int .i64 a1_4]] = (bif !decide (a0_0 = a1_0) then some (AV.bool false)
  else (bif !decide (a0_1 = a1_1) then some (AV.bool false)
  else (bif !decide (a0_2 = a1_2) then some (AV.bool false)
  else (bif !decide (a0_3 = a1_3) then some (AV.bool false)
  else (bif !decide (a0_4 = a1_4) then some (AV.bool false)
  else some (AV.bool true)))))) := by kernel_rfl
theorem r60 (a0_0 : Int) (a0_1 : Int) (a0_2 : Int) (a0_3 : Int) (a0_4 : Int) (a1_0 : Int) (a1_1 : Int) (a1_2 : Int) (a1_3 : Int) (a1_4 : Int) : funA c60 0 60 [AV.agg [AV.int .i64 a0_0, AV.int .i64 a0_1, AV.int .i64 a0_2, AV.int .i64 a0_3, AV.int .i64 a0_4], AV.agg [AV.int .i64 a1_0, AV.int .i64 a1_1, AV.int .i64 a1_2, AV.int .i64 a1_3, AV.int .i64 a1_4]] = some (AV.bool (v60_0 a0_0 a0_1 a0_2 a0_3 a0_4 a1_0 a1_1 a1_2 a1_3 a1_4)) := (e60 a0_0 a0_1 a0_2 a0_3 a0_4 a1_0 a1_1 a1_2 a1_3 a1_4).trans (of_tt (brT (fun b => some (AV.bool (bif b then false else (bif !decide (a0_1 = a1_1) then false else (bif !decide (a0_2 = a1_2) then false else (bif !decide (a0_3 = a1_3) then false else (bif !decide (a0_4 = a1_4) then false else true))))))) (fun _ => rfl) (brT (fun b => some (AV.bool (bif b then false else (bif !decide (a0_2 = a1_2) then false else (bif !decide (a0_3 = a1_3) then false else (bif !decide (a0_4 = a1_4) then false else true)))))) (fun _ => rfl) (brT (fun b => some (AV.bool (bif b then false else (bif !decide (a0_3 = a1_3) then false else (bif !decide (a0_4 = a1_4) then false else true))))) (fun _ => rfl) (brT (fun b => some (AV.bool (bif b then false else (bif !decide (a0_4 = a1_4) then false else true)))) (fun _ => rfl) (brT (fun b => some (AV.bool (bif b then false else true))) (fun _ => rfl) (fun _ => rfl)))))))
def m60 : TModel
  | [.agg [.int .i64 a0_0, .int .i64 a0_1, .int .i64 a0_2, .int .i64 a0_3, .int .i64 a0_4], .agg [.int .i64 a1_0, .int .i64 a1_1, .int .i64 a1_2, .int .i64 a1_3, .int .i64 a1_4]] => some (true, AV.bool (v60_0 a0_0 a0_1 a0_2 a0_3 a0_4 a1_0 a1_1 a1_2 a1_3 a1_4))
  | _ => none
theorem k60 : Known Tryd.prog 60 := ⟨Tryd.f60, Tryd.func60, by kernel_rfl, by kernel_rfl⟩
theorem meets60 : Meets Tryd.prog 60 m60 := by
  refine meet (f := Tryd.f60) (l := []) (hs := [(60, 999, [4])]) (ts := []) (ws := []) (is := []) (ls := []) (lvl := 0) mixed k60 Tryd.func60 (by kernel_rfl) noLoop allT_nil allM_nil noI fun w xs us r hl hv h => ?_
  unfold m60 at h
  split at h
  · rename_i a0_0 a0_1 a0_2 a0_3 a0_4 a1_0 a1_1 a1_2 a1_3 a1_4
    obtain ⟨h1, rfl⟩ := pair_inj h
    exact r60 a0_0 a0_1 a0_2 a0_3 a0_4 a1_0 a1_1 a1_2 a1_3 a1_4
  · cases h

/-! ### 30 loop.example/g01984/laws.eqChargeS -/
def F30_0 (t0 : List AV) (t1 : List AV) (t5 : Int) : Out (Int) (Unit ⊕ Unit) := (bif decide (t5 < (t0.length : Int)) then (bif (decide (0 ≤ t5) && decide (t5 < (t0.length : Int))) then (bif (decide (0 ≤ t5) && decide (t5 < (t1.length : Int))) then (bif !(v60_0 (fI (t0.getD t5.toNat AV.undef) 0) (fI (t0.getD t5.toNat AV.undef) 1) (fI (t0.getD t5.toNat AV.undef) 2) (fI (t0.getD t5.toNat AV.undef) 3) (fI (t0.getD t5.toNat AV.undef) 4) (fI (t1.getD t5.toNat AV.undef) 0) (fI (t1.getD t5.toNat AV.undef) 1) (fI (t1.getD t5.toNat AV.undef) 2) (fI (t1.getD t5.toNat AV.undef) 3) (fI (t1.getD t5.toNat AV.undef) 4)) then .stop (.inr ())
  else .next (IntKind.i64.wrap (t5 + 1)))
  else .fail)
  else .fail)
  else .stop (.inl ()))
def R30_0 (t0 : List AV) (t1 : List AV) : (Int) → Out (Int) (Unit ⊕ Unit) := fun s : Int => F30_0 t0 t1 s
def l30_0 : LModel := fun _ _ st k => match st with
  | ⟨[(0, .sl g0 t0), (1, .sl g1 t1), (5, .int .i64 t5)], []⟩ => bif ctsEq g0 ([.int .i64, .int .i64, .int .i64, .int .i64, .int .i64]) && ctsEq g1 ([.int .i64, .int .i64, .int .i64, .int .i64, .int .i64]) then ro (runW (R30_0 t0 t1) (((t0.length : Int) - t5).toNat + 1) t5) none (sumE (fun _ : Unit => k (.exit 0) ⟨[], []⟩) (fun _ : Unit => k .ret ⟨[(4, AV.bool false)], []⟩)) else none
  | _ => none
noncomputable def c30 : Cfg := cfg Tryd.prog [(30, 0, [0, 1, 5]), (30, 999, [4]), (30, 1000, []), (30, 1001, [0, 1, 5])] [(60, m60)] [] [] [(30, 0, l30_0)]
theorem s30_0 (ce : CallE) (t0 : List AV) (t1 : List AV) (t5 : Int) (next : St → Option AV) (k : Kont) : stepA (codeA c30 ce [] 30 0 (sub [1, 1, 0, 1, 0, 0] (body Tryd.f30))) (normA [] [0, 1, 5]) next ⟨[(0, AV.sl [.int .i64, .int .i64, .int .i64, .int .i64, .int .i64] t0), (1, AV.sl [.int .i64, .int .i64, .int .i64, .int .i64, .int .i64] t1), (5, AV.int .i64 t5)], []⟩ k = (bif decide (t5 < (t0.length : Int)) then (bif (decide (0 ≤ t5) && decide (t5 < (t0.length : Int))) then (bif (decide (0 ≤ t5) && decide (t5 < (t1.length : Int))) then (bif !(v60_0 (fI (t0.getD t5.toNat AV.undef) 0) (fI (t0.getD t5.toNat AV.undef) 1) (fI (t0.getD t5.toNat AV.undef) 2) (fI (t0.getD t5.toNat AV.undef) 3) (fI (t0.getD t5.toNat AV.undef) 4) (fI (t1.getD t5.toNat AV.undef) 0) (fI (t1.getD t5.toNat AV.undef) 1) (fI (t1.getD t5.toNat AV.undef) 2) (fI (t1.getD t5.toNat AV.undef) 3) (fI (t1.getD t5.toNat AV.undef) 4)) then k .ret ⟨[(4, AV.bool false)], []⟩
  else next ⟨[(0, AV.sl [.int .i64, .int .i64, .int .i64, .int .i64, .int .i64] t0), (1, AV.sl [.int .i64, .int .i64, .int .i64, .int .i64, .int .i64] t1), (5, AV.int .i64 (IntKind.i64.wrap (t5 + 1)))], []⟩)
  else none)
  else none)
  else k (.exit 0) ⟨[], []⟩) := by kernel_rfl
theorem st30_0 (t0 : List AV) (t1 : List AV) (ce : CallE) (k : Kont) (s : Int) (next : St → Option AV) : stepA (codeA c30 ce [] 30 0 (sub [1, 1, 0, 1, 0, 0] (body Tryd.f30))) (normA [] [0, 1, 5]) next ((fun s : Int => ⟨[(0, AV.sl [.int .i64, .int .i64, .int .i64, .int .i64, .int .i64] t0), (1, AV.sl [.int .i64, .int .i64, .int .i64, .int .i64, .int .i64] t1), (5, AV.int .i64 s)], []⟩) s) k = (R30_0 t0 t1 s).el none (fun s => next ((fun s : Int => ⟨[(0, AV.sl [.int .i64, .int .i64, .int .i64, .int .i64, .int .i64] t0), (1, AV.sl [.int .i64, .int .i64, .int .i64, .int .i64, .int .i64] t1), (5, AV.int .i64 s)], []⟩) s)) (sumE (fun _ : Unit => k (.exit 0) ⟨[], []⟩) (fun _ : Unit => k .ret ⟨[(4, AV.bool false)], []⟩)) := (s30_0 ce t0 t1 s next k).trans (by unfold R30_0; unfold F30_0; simp only [el_cond, el_ro, el_sum, el_fail, el_next, el_stop] <;> rfl)
theorem ok30_0 {ce : CallE} : LoopOK c30 ce [] 30 0 (sub [1, 1, 0, 1, 0, 0] (body Tryd.f30)) := by
  intro m hm st k r h
  obtain rfl : l30_0 = m := Option.some.inj hm
  unfold l30_0 at h
  split at h
  · rename_i g0 t0 g1 t1 t5
    obtain ⟨hg, h⟩ := bif_some h
    simp only [Bool.and_eq_true] at hg
    obtain ⟨q0, q1⟩ := hg
    obtain rfl := ctsEq_eq _ _ q0
    obtain rfl := ctsEq_eq _ _ q1
    refine ⟨(((t0.length : Int) - t5).toNat + 1), ?_⟩
    rw [← h]
    exact loop_run (fun s : Int => ⟨[(0, AV.sl [.int .i64, .int .i64, .int .i64, .int .i64, .int .i64] t0), (1, AV.sl [.int .i64, .int .i64, .int .i64, .int .i64, .int .i64] t1), (5, AV.int .i64 s)], []⟩) (sumE (fun _ : Unit => k (.exit 0) ⟨[], []⟩) (fun _ : Unit => k .ret ⟨[(4, AV.bool false)], []⟩)) (st30_0 t0 t1 ce k) _ t5
  · cases h
def q30 (a0 : List AV) (a1 : List AV) : Bool := (bif !decide ((a0.length : Int) = (a1.length : Int)) then true else (ro (runW (R30_0 a0 a1) (((a0.length : Int) - 0).toNat + 1) 0) false (sumE (fun _ => true) (fun _ => true))))
def v30_0 (a0 : List AV) (a1 : List AV) : Bool := (bif !decide ((a0.length : Int) = (a1.length : Int)) then false else (ro (runW (R30_0 a0 a1) (((a0.length : Int) - 0).toNat + 1) 0) false (sumE (fun _ => true) (fun _ => false))))
theorem e30 (a0 : List AV) (a1 : List AV) : funA c30 0 30 [AV.sl [.int .i64, .int .i64, .int .i64, .int .i64, .int .i64] a0, AV.sl [.int .i64, .int .i64, .int .i64, .int .i64, .int .i64] a1] = (bif !decide ((a0.length : Int) = (a1.length : Int)) then some (AV.bool false)
  else (ro (runW (R30_0 a0 a1) (((a0.length : Int) - 0).toNat + 1) 0) none (sumE (fun _ => some (AV.bool true)) (fun _ => some (AV.bool false))))) := by kernel_rfl
theorem r30 (a0 : List AV) (a1 : List AV) (h : q30 a0 a1 = true) : funA c30 0 30 [AV.sl [.int .i64, .int .i64, .int .i64, .int .i64, .int .i64] a0, AV.sl [.int .i64, .int .i64, .int .i64, .int .i64, .int .i64] a1] = some (AV.bool (v30_0 a0 a1)) := (e30 a0 a1).trans ((br (fun b => some (AV.bool (bif b then false else (ro (runW (R30_0 a0 a1) (((a0.length : Int) - 0).toNat + 1) 0) false (sumE (fun _ => true) (fun _ => false)))))) (fun _ => rfl) (brO (fun o : Option (Unit ⊕ Unit) => some (AV.bool (ro o false (sumE (fun _ => true) (fun _ => false))))) (brS (fun o : Unit ⊕ Unit => some (AV.bool ((sumE (fun _ => true) (fun _ => false)) o))) (fun _ => (fun _ => rfl)) (fun _ => (fun _ => rfl))))) h)
def m30 : TModel
  | [.sl g0 a0, .sl g1 a1] => bif ctsEq g0 ([.int .i64, .int .i64, .int .i64, .int .i64, .int .i64]) && ctsEq g1 ([.int .i64, .int .i64, .int .i64, .int .i64, .int .i64]) then some (q30 a0 a1, AV.bool (v30_0 a0 a1)) else none
  | _ => none
theorem k30 : Known Tryd.prog 30 := ⟨Tryd.f30, Tryd.func30, by kernel_rfl, by kernel_rfl⟩
theorem meets30 : Meets Tryd.prog 30 m30 := by
  refine meet (f := Tryd.f30) (l := [(0, sub [1, 1, 0, 1, 0, 0] (body Tryd.f30))]) (hs := [(30, 0, [0, 1, 5]), (30, 999, [4]), (30, 1000, []), (30, 1001, [0, 1, 5])]) (ts := [(60, m60)]) (ws := []) (is := []) (ls := [(30, 0, l30_0)]) (lvl := 0) mixed k30 Tryd.func30 (by kernel_rfl) (loops_cons ok30_0 noLoop) (allT_cons meets60 allT_nil) allM_nil noI fun w xs us r hl hv h => ?_
  unfold m30 at h
  split at h
  · rename_i g0 a0 g1 a1
    obtain ⟨hg, h⟩ := bif_pair h
    simp only [Bool.and_eq_true] at hg
    obtain ⟨q0, q1⟩ := hg
    obtain rfl := ctsEq_eq _ _ q0
    obtain rfl := ctsEq_eq _ _ q1
    obtain ⟨h1, rfl⟩ := pair_inj h
    exact r30 a0 a1 h1
  · cases h

/-! ### 31 loop.example/g01984/laws.markChargeS -/
def w31_1 (t1 : Int) (t5 : Int) (h0 : List AV) : List AV := h0.set t5.toNat (AV.agg [AV.int .i64 t1, AV.int .i64 (fI (h0.getD t5.toNat AV.undef) 1), AV.int .i64 (fI (h0.getD t5.toNat AV.undef) 2), AV.int .i64 (fI (h0.getD t5.toNat AV.undef) 3), AV.int .i64 (fI (h0.getD t5.toNat AV.undef) 4)])
def w31_2 (t1 : Int) (t5 : Int) (h0 : List AV) : List AV := (w31_1 t1 t5 h0).set t5.toNat (AV.agg [AV.int .i64 (fI ((w31_1 t1 t5 h0).getD t5.toNat AV.undef) 0), AV.int .i64 (IntKind.i64.wrap (t1 + 1)), AV.int .i64 (fI ((w31_1 t1 t5 h0).getD t5.toNat AV.undef) 2), AV.int .i64 (fI ((w31_1 t1 t5 h0).getD t5.toNat AV.undef) 3), AV.int .i64 (fI ((w31_1 t1 t5 h0).getD t5.toNat AV.undef) 4)])
def w31_3 (t1 : Int) (t5 : Int) (h0 : List AV) : List AV := (w31_2 t1 t5 h0).set t5.toNat (AV.agg [AV.int .i64 (fI ((w31_2 t1 t5 h0).getD t5.toNat AV.undef) 0), AV.int .i64 (fI ((w31_2 t1 t5 h0).getD t5.toNat AV.undef) 1), AV.int .i64 (IntKind.i64.wrap (IntKind.i64.wrap (t1 + 1) + 1)), AV.int .i64 (fI ((w31_2 t1 t5 h0).getD t5.toNat AV.undef) 3), AV.int .i64 (fI ((w31_2 t1 t5 h0).getD t5.toNat AV.undef) 4)])
def w31_4 (t1 : Int) (t5 : Int) (h0 : List AV) : List AV := (w31_3 t1 t5 h0).set t5.toNat (AV.agg [AV.int .i64 (fI ((w31_3 t1 t5 h0).getD t5.toNat AV.undef) 0), AV.int .i64 (fI ((w31_3 t1 t5 h0).getD t5.toNat AV.undef) 1), AV.int .i64 (fI ((w31_3 t1 t5 h0).getD t5.toNat AV.undef) 2), AV.int .i64 (IntKind.i64.wrap (IntKind.i64.wrap (IntKind.i64.wrap (t1 + 1) + 1) + 1)), AV.int .i64 (fI ((w31_3 t1 t5 h0).getD t5.toNat AV.undef) 4)])
def w31_5 (t1 : Int) (t5 : Int) (h0 : List AV) : List AV := (w31_4 t1 t5 h0).set t5.toNat (AV.agg [AV.int .i64 (fI ((w31_4 t1 t5 h0).getD t5.toNat AV.undef) 0), AV.int .i64 (fI ((w31_4 t1 t5 h0).getD t5.toNat AV.undef) 1), AV.int .i64 (fI ((w31_4 t1 t5 h0).getD t5.toNat AV.undef) 2), AV.int .i64 (fI ((w31_4 t1 t5 h0).getD t5.toNat AV.undef) 3), AV.int .i64 (IntKind.i64.wrap (IntKind.i64.wrap (IntKind.i64.wrap (IntKind.i64.wrap (t1 + 1) + 1) + 1) + 1))])
def F31_0 (t1 : Int) (t5 : Int) (h0 : List AV) : Out ((Int × Int × (List AV))) ((Int × (List AV))) := (bif decide (t5 < (h0.length : Int)) then (bif (decide (0 ≤ t5) && decide (t5 < (h0.length : Int))) then (bif (decide (0 ≤ t5) && decide (t5 < ((w31_1 t1 t5 h0).length : Int))) then (bif (decide (0 ≤ t5) && decide (t5 < ((w31_2 t1 t5 h0).length : Int))) then (bif (decide (0 ≤ t5) && decide (t5 < ((w31_3 t1 t5 h0).length : Int))) then (bif (decide (0 ≤ t5) && decide (t5 < ((w31_4 t1 t5 h0).length : Int))) then .next (IntKind.i64.wrap (IntKind.i64.wrap (IntKind.i64.wrap (IntKind.i64.wrap (IntKind.i64.wrap (t1 + 1) + 1) + 1) + 1) + 1), IntKind.i64.wrap (t5 + 1), w31_5 t1 t5 h0)
  else .fail)
  else .fail)
  else .fail)
  else .fail)
  else .fail)
  else .stop (t1, h0))
def R31_0 : ((Int × Int × (List AV))) → Out ((Int × Int × (List AV))) ((Int × (List AV))) := fun s : Int × Int × (List AV) => F31_0 s.1 s.2.1 s.2.2
def l31_0 : LModel := fun _ _ st k => match st with
  | ⟨[(0, .own g0), (1, .int .i64 t1), (5, .int .i64 t5)], [(g1, ⟨false, g2, h0⟩)]⟩ => bif nmEq g0 ([1]) && nmEq g1 ([1]) && ctsEq g2 ([.int .i64, .int .i64, .int .i64, .int .i64, .int .i64]) then ro (runW (R31_0) (((h0.length : Int) - t5).toNat + 1) (t1, t5, h0)) none (fun p : Int × (List AV) => k (.exit 0) ⟨[(1, AV.int .i64 p.1)], [([1], ⟨false, [.int .i64, .int .i64, .int .i64, .int .i64, .int .i64], p.2⟩)]⟩) else none
  | _ => none
noncomputable def c31 : Cfg := cfg Tryd.prog [(31, 0, [0, 1, 5]), (31, 999, [4]), (31, 1000, [1]), (31, 1001, [0, 1, 5])] [] [] [] [(31, 0, l31_0)]
theorem s31_0 (ce : CallE) (t1 : Int) (t5 : Int) (h0 : List AV) (next : St → Option AV) (k : Kont) : stepA (codeA c31 ce [0] 31 0 (sub [1, 0, 1, 0, 0] (body Tryd.f31))) (normA [0] [0, 1, 5]) next ⟨[(0, AV.own [1]), (1, AV.int .i64 t1), (5, AV.int .i64 t5)], [([1], ⟨false, [.int .i64, .int .i64, .int .i64, .int .i64, .int .i64], h0⟩)]⟩ k = (bif decide (t5 < (h0.length : Int)) then (bif (decide (0 ≤ t5) && decide (t5 < (h0.length : Int))) then (bif (decide (0 ≤ t5) && decide (t5 < ((w31_1 t1 t5 h0).length : Int))) then (bif (decide (0 ≤ t5) && decide (t5 < ((w31_2 t1 t5 h0).length : Int))) then (bif (decide (0 ≤ t5) && decide (t5 < ((w31_3 t1 t5 h0).length : Int))) then (bif (decide (0 ≤ t5) && decide (t5 < ((w31_4 t1 t5 h0).length : Int))) then next ⟨[(0, AV.own [1]), (1, AV.int .i64 (IntKind.i64.wrap (IntKind.i64.wrap (IntKind.i64.wrap (IntKind.i64.wrap (IntKind.i64.wrap (t1 + 1) + 1) + 1) + 1) + 1))), (5, AV.int .i64 (IntKind.i64.wrap (t5 + 1)))], [([1], ⟨false, [.int .i64, .int .i64, .int .i64, .int .i64, .int .i64], w31_5 t1 t5 h0⟩)]⟩
  else none)
  else none)
  else none)
  else none)
  else none)
  else k (.exit 0) ⟨[(1, AV.int .i64 t1)], [([1], ⟨false, [.int .i64, .int .i64, .int .i64, .int .i64, .int .i64], h0⟩)]⟩) := by kernel_rfl
theorem st31_0 (ce : CallE) (k : Kont) (s : (Int × Int × (List AV))) (next : St → Option AV) : stepA (codeA c31 ce [0] 31 0 (sub [1, 0, 1, 0, 0] (body Tryd.f31))) (normA [0] [0, 1, 5]) next ((fun s : Int × Int × (List AV) => ⟨[(0, AV.own [1]), (1, AV.int .i64 s.1), (5, AV.int .i64 s.2.1)], [([1], ⟨false, [.int .i64, .int .i64, .int .i64, .int .i64, .int .i64], s.2.2⟩)]⟩) s) k = (R31_0 s).el none (fun s => next ((fun s : Int × Int × (List AV) => ⟨[(0, AV.own [1]), (1, AV.int .i64 s.1), (5, AV.int .i64 s.2.1)], [([1], ⟨false, [.int .i64, .int .i64, .int .i64, .int .i64, .int .i64], s.2.2⟩)]⟩) s)) (fun p : Int × (List AV) => k (.exit 0) ⟨[(1, AV.int .i64 p.1)], [([1], ⟨false, [.int .i64, .int .i64, .int .i64, .int .i64, .int .i64], p.2⟩)]⟩) := (s31_0 ce s.1 s.2.1 s.2.2 next k).trans (by unfold R31_0; unfold F31_0; simp only [el_cond, el_ro, el_sum, el_fail, el_next, el_stop] <;> rfl)
theorem ok31_0 {ce : CallE} : LoopOK c31 ce [0] 31 0 (sub [1, 0, 1, 0, 0] (body Tryd.f31)) := by
  intro m hm st k r h
  obtain rfl : l31_0 = m := Option.some.inj hm
  unfold l31_0 at h
  split at h
  · rename_i g0 t1 t5 g1 g2 h0
    obtain ⟨hg, h⟩ := bif_some h
    simp only [Bool.and_eq_true] at hg
    obtain ⟨⟨q0, q1⟩, q2⟩ := hg
    obtain rfl := (nmEq_iff _ _).1 q0
    obtain rfl := (nmEq_iff _ _).1 q1
    obtain rfl := ctsEq_eq _ _ q2
    refine ⟨(((h0.length : Int) - t5).toNat + 1), ?_⟩
    rw [← h]
    exact loop_run (fun s : Int × Int × (List AV) => ⟨[(0, AV.own [1]), (1, AV.int .i64 s.1), (5, AV.int .i64 s.2.1)], [([1], ⟨false, [.int .i64, .int .i64, .int .i64, .int .i64, .int .i64], s.2.2⟩)]⟩) (fun p : Int × (List AV) => k (.exit 0) ⟨[(1, AV.int .i64 p.1)], [([1], ⟨false, [.int .i64, .int .i64, .int .i64, .int .i64, .int .i64], p.2⟩)]⟩) (st31_0 ce k) _ (t1, t5, h0)
  · cases h
def q31 (a1 : Int) (b0 : List AV) : Bool := (ro (runW (R31_0) (((b0.length : Int) - 0).toNat + 1) (a1, 0, b0)) false (fun p9 => true))
def v31_0 (a1 : Int) (b0 : List AV) : Int := (ro (runW (R31_0) (((b0.length : Int) - 0).toNat + 1) (a1, 0, b0)) 0 (fun p9 => p9.1))
def v31_1 (a1 : Int) (b0 : List AV) : List AV := (ro (runW (R31_0) (((b0.length : Int) - 0).toNat + 1) (a1, 0, b0)) [] (fun p9 => p9.2))
theorem e31 (a1 : Int) (b0 : List AV) (K : AV → List Blk → Option AV) : inlA c31 1 31 [AV.own [1], AV.int .i64 a1] [0] (canH 1 [⟨false, [.int .i64, .int .i64, .int .i64, .int .i64, .int .i64], b0⟩]) (keepB 1 K) = (ro (runW (R31_0) (((b0.length : Int) - 0).toNat + 1) (a1, 0, b0)) none (fun p9 => K (AV.int .i64 p9.1) [⟨false, [.int .i64, .int .i64, .int .i64, .int .i64, .int .i64], p9.2⟩])) := by kernel_rfl
theorem r31 (a1 : Int) (b0 : List AV) (K : AV → List Blk → Option AV) (h : q31 a1 b0 = true) : inlA c31 1 31 [AV.own [1], AV.int .i64 a1] [0] (canH 1 [⟨false, [.int .i64, .int .i64, .int .i64, .int .i64, .int .i64], b0⟩]) (keepB 1 K) = K (AV.int .i64 (v31_0 a1 b0)) [⟨false, [.int .i64, .int .i64, .int .i64, .int .i64, .int .i64], (v31_1 a1 b0)⟩] := (e31 a1 b0 K).trans ((brO (fun o : Option ((Int × (List AV))) => K (AV.int .i64 (ro o 0 (fun p9 => p9.1))) [⟨false, [.int .i64, .int .i64, .int .i64, .int .i64, .int .i64], (ro o [] (fun p9 => p9.2))⟩]) (fun p9 => (fun _ => rfl))) h)
def m31 : WModel
  | [.own g0, .int .i64 a1], [⟨false, g1, b0⟩] => bif nmEq g0 ([1]) && ctsEq g1 ([.int .i64, .int .i64, .int .i64, .int .i64, .int .i64]) then some (q31 a1 b0, AV.int .i64 (v31_0 a1 b0), [⟨false, [.int .i64, .int .i64, .int .i64, .int .i64, .int .i64], (v31_1 a1 b0)⟩]) else none
  | _, _ => none
theorem k31 : Known Tryd.prog 31 := ⟨Tryd.f31, Tryd.func31, by kernel_rfl, by kernel_rfl⟩
theorem meets31 : MeetsM Tryd.prog 31 m31 := by
  refine meetM (f := Tryd.f31) (l := [(0, sub [1, 0, 1, 0, 0] (body Tryd.f31))]) (hs := [(31, 0, [0, 1, 5]), (31, 999, [4]), (31, 1000, [1]), (31, 1001, [0, 1, 5])]) (ts := []) (ws := []) (is := []) (ls := [(31, 0, l31_0)]) (lvl := 0) mixed k31 Tryd.func31 (by kernel_rfl) (loops_cons ok31_0 noLoop) allT_nil allM_nil noI fun C w xs us bs r bs' hl hv hh h K => ?_
  unfold m31 at h
  split at h
  · rename_i g0 a1 g1 b0
    obtain ⟨hg, h⟩ := bif_pair h
    simp only [Bool.and_eq_true] at hg
    obtain ⟨q0, q1⟩ := hg
    obtain rfl := (nmEq_iff _ _).1 q0
    obtain rfl := ctsEq_eq _ _ q1
    obtain ⟨h1, rfl, rfl⟩ := trip_inj h
    exact r31 a1 b0 K h1
  · cases h

/-! ### 61 loop.example/g01984/laws.markText -/
def F61_0 (t0 : Int) (t3 : ByteArray) : Out ((Int × ByteArray)) (ByteArray) := (bif decide (t0 > 0) then (bif !decide (10 = 0) then (bif decide ((bytesA ([AV.int .u8 (IntKind.u8.wrap (IntKind.i64.wrap (48 + Int.tmod t0 10)))])).size + t3.size ≤ 4611686018427387904) then (bif !decide (10 = 0) then .next (IntKind.i64.wrap (Int.tdiv t0 10), (bytesA ([AV.int .u8 (IntKind.u8.wrap (IntKind.i64.wrap (48 + Int.tmod t0 10)))])) ++ t3)
  else .fail)
  else .fail)
  else .fail)
  else .stop t3)
def R61_0 : ((Int × ByteArray)) → Out ((Int × ByteArray)) (ByteArray) := fun s : Int × ByteArray => F61_0 s.1 s.2
def l61_0 : LModel := fun _ _ st k => match st with
  | ⟨[(0, .int .i64 t0), (3, .str t3)], []⟩ => ro (runW (R61_0) ((t0 - 0).toNat + 1) (t0, t3)) none (fun p : ByteArray => k (.exit 0) ⟨[(3, AV.str p)], []⟩)
  | _ => none
noncomputable def c61 : Cfg := cfg Tryd.prog [(61, 0, [0, 3]), (61, 999, [2]), (61, 1000, [3]), (61, 1001, [0, 3])] [] [] [] [(61, 0, l61_0)]
theorem s61_0 (ce : CallE) (t0 : Int) (t3 : ByteArray) (next : St → Option AV) (k : Kont) : stepA (codeA c61 ce [0] 61 0 (sub [1, 1, 1, 0, 0, 0] (body Tryd.f61))) (normA [0] [0, 3]) next ⟨[(0, AV.int .i64 t0), (3, AV.str t3)], []⟩ k = (bif decide (t0 > 0) then (bif !decide (10 = 0) then (bif decide ((bytesA ([AV.int .u8 (IntKind.u8.wrap (IntKind.i64.wrap (48 + Int.tmod t0 10)))])).size + t3.size ≤ 4611686018427387904) then (bif !decide (10 = 0) then next ⟨[(0, AV.int .i64 (IntKind.i64.wrap (Int.tdiv t0 10))), (3, AV.str ((bytesA ([AV.int .u8 (IntKind.u8.wrap (IntKind.i64.wrap (48 + Int.tmod t0 10)))])) ++ t3))], []⟩
  else none)
  else none)
  else none)
  else k (.exit 0) ⟨[(3, AV.str t3)], []⟩) := by kernel_rfl
theorem st61_0 (ce : CallE) (k : Kont) (s : (Int × ByteArray)) (next : St → Option AV) : stepA (codeA c61 ce [0] 61 0 (sub [1, 1, 1, 0, 0, 0] (body Tryd.f61))) (normA [0] [0, 3]) next ((fun s : Int × ByteArray => ⟨[(0, AV.int .i64 s.1), (3, AV.str s.2)], []⟩) s) k = (R61_0 s).el none (fun s => next ((fun s : Int × ByteArray => ⟨[(0, AV.int .i64 s.1), (3, AV.str s.2)], []⟩) s)) (fun p : ByteArray => k (.exit 0) ⟨[(3, AV.str p)], []⟩) := (s61_0 ce s.1 s.2 next k).trans (by unfold R61_0; unfold F61_0; simp only [el_cond, el_ro, el_sum, el_fail, el_next, el_stop] <;> rfl)
theorem ok61_0 {ce : CallE} : LoopOK c61 ce [0] 61 0 (sub [1, 1, 1, 0, 0, 0] (body Tryd.f61)) := by
  intro m hm st k r h
  obtain rfl : l61_0 = m := Option.some.inj hm
  unfold l61_0 at h
  split at h
  · rename_i t0 t3
    refine ⟨((t0 - 0).toNat + 1), ?_⟩
    rw [← h]
    exact loop_run (fun s : Int × ByteArray => ⟨[(0, AV.int .i64 s.1), (3, AV.str s.2)], []⟩) (fun p : ByteArray => k (.exit 0) ⟨[(3, AV.str p)], []⟩) (st61_0 ce k) _ (t0, t3)
  · cases h
def q61 (a0 : Int) : Bool := (bif decide (a0 ≤ 0) then true else (ro (runW (R61_0) ((a0 - 0).toNat + 1) (a0, ByteArray.empty)) false (fun p10 => decide ((ByteArray.mk #[109]).size + p10.size ≤ 4611686018427387904))))
def v61_0 (a0 : Int) : ByteArray := (bif decide (a0 ≤ 0) then (ByteArray.mk #[109, 48]) else (ro (runW (R61_0) ((a0 - 0).toNat + 1) (a0, ByteArray.empty)) ByteArray.empty (fun p10 => (ByteArray.mk #[109]) ++ p10)))
theorem e61 (a0 : Int) (K : AV → List Blk → Option AV) : inlA c61 1 61 [AV.int .i64 a0] [0] (canH 1 []) (keepB 0 K) = (bif decide (a0 ≤ 0) then K (AV.str (ByteArray.mk #[109, 48])) []
  else (ro (runW (R61_0) ((a0 - 0).toNat + 1) (a0, ByteArray.empty)) none (fun p10 => (bif decide ((ByteArray.mk #[109]).size + p10.size ≤ 4611686018427387904) then K (AV.str ((ByteArray.mk #[109]) ++ p10)) []
  else none)))) := by kernel_rfl
theorem r61 (a0 : Int) (K : AV → List Blk → Option AV) (h : q61 a0 = true) : inlA c61 1 61 [AV.int .i64 a0] [0] (canH 1 []) (keepB 0 K) = K (AV.str (v61_0 a0)) [] := (e61 a0 K).trans ((br (fun b => K (AV.str (bif b then (ByteArray.mk #[109, 48]) else (ro (runW (R61_0) ((a0 - 0).toNat + 1) (a0, ByteArray.empty)) ByteArray.empty (fun p10 => (ByteArray.mk #[109]) ++ p10)))) []) (fun _ => rfl) (brO (fun o : Option (ByteArray) => K (AV.str (ro o ByteArray.empty (fun p10 => (ByteArray.mk #[109]) ++ p10))) []) (fun p10 => (brL1 (fun _ => rfl))))) h)
def m61 : WModel
  | [.int .i64 a0], [] => some (q61 a0, AV.str (v61_0 a0), [])
  | _, _ => none
theorem k61 : Known Tryd.prog 61 := ⟨Tryd.f61, Tryd.func61, by kernel_rfl, by kernel_rfl⟩
theorem meets61 : MeetsM Tryd.prog 61 m61 := by
  refine meetM (f := Tryd.f61) (l := [(0, sub [1, 1, 1, 0, 0, 0] (body Tryd.f61))]) (hs := [(61, 0, [0, 3]), (61, 999, [2]), (61, 1000, [3]), (61, 1001, [0, 3])]) (ts := []) (ws := []) (is := []) (ls := [(61, 0, l61_0)]) (lvl := 0) mixed k61 Tryd.func61 (by kernel_rfl) (loops_cons ok61_0 noLoop) allT_nil allM_nil noI fun C w xs us bs r bs' hl hv hh h K => ?_
  unfold m61 at h
  split at h
  · rename_i a0
    obtain ⟨h1, rfl, rfl⟩ := trip_inj h
    exact r61 a0 K h1
  · cases h

/-! ### 32 loop.example/g01984/laws.markStringS -/
def F32_0 (t1 : Int) (t5 : Int) (h0 : List AV) : Out ((Int × Int × (List AV))) ((Int × (List AV))) := (bif decide (t5 < (h0.length : Int)) then (bif q61 t1 then (bif (decide (0 ≤ t5) && decide (t5 < (h0.length : Int))) then .next (IntKind.i64.wrap (t1 + 1), IntKind.i64.wrap (t5 + 1), h0.set t5.toNat (AV.agg [AV.str (v61_0 t1)]))
  else .fail)
  else .fail)
  else .stop (t1, h0))
def R32_0 : ((Int × Int × (List AV))) → Out ((Int × Int × (List AV))) ((Int × (List AV))) := fun s : Int × Int × (List AV) => F32_0 s.1 s.2.1 s.2.2
def l32_0 : LModel := fun _ _ st k => match st with
  | ⟨[(0, .own g0), (1, .int .i64 t1), (5, .int .i64 t5)], [(g1, ⟨false, g2, h0⟩)]⟩ => bif nmEq g0 ([1]) && nmEq g1 ([1]) && ctsEq g2 ([.str]) then ro (runW (R32_0) (((h0.length : Int) - t5).toNat + 1) (t1, t5, h0)) none (fun p : Int × (List AV) => k (.exit 0) ⟨[(1, AV.int .i64 p.1)], [([1], ⟨false, [.str], p.2⟩)]⟩) else none
  | _ => none
noncomputable def c32 : Cfg := cfg Tryd.prog [(32, 0, [0, 1, 5]), (32, 999, [4]), (32, 1000, [1]), (32, 1001, [0, 1, 5])] [] [(61, m61)] [] [(32, 0, l32_0)]
theorem s32_0 (ce : CallE) (t1 : Int) (t5 : Int) (h0 : List AV) (next : St → Option AV) (k : Kont) : stepA (codeA c32 ce [0] 32 0 (sub [1, 0, 1, 0, 0] (body Tryd.f32))) (normA [0] [0, 1, 5]) next ⟨[(0, AV.own [1]), (1, AV.int .i64 t1), (5, AV.int .i64 t5)], [([1], ⟨false, [.str], h0⟩)]⟩ k = (bif decide (t5 < (h0.length : Int)) then (bif q61 t1 then (bif (decide (0 ≤ t5) && decide (t5 < (h0.length : Int))) then next ⟨[(0, AV.own [1]), (1, AV.int .i64 (IntKind.i64.wrap (t1 + 1))), (5, AV.int .i64 (IntKind.i64.wrap (t5 + 1)))], [([1], ⟨false, [.str], h0.set t5.toNat (AV.agg [AV.str (v61_0 t1)])⟩)]⟩
  else none)
  else none)
  else k (.exit 0) ⟨[(1, AV.int .i64 t1)], [([1], ⟨false, [.str], h0⟩)]⟩) := by kernel_rfl
theorem st32_0 (ce : CallE) (k : Kont) (s : (Int × Int × (List AV))) (next : St → Option AV) : stepA (codeA c32 ce [0] 32 0 (sub [1, 0, 1, 0, 0] (body Tryd.f32))) (normA [0] [0, 1, 5]) next ((fun s : Int × Int × (List AV) => ⟨[(0, AV.own [1]), (1, AV.int .i64 s.1), (5, AV.int .i64 s.2.1)], [([1], ⟨false, [.str], s.2.2⟩)]⟩) s) k = (R32_0 s).el none (fun s => next ((fun s : Int × Int × (List AV) => ⟨[(0, AV.own [1]), (1, AV.int .i64 s.1), (5, AV.int .i64 s.2.1)], [([1], ⟨false, [.str], s.2.2⟩)]⟩) s)) (fun p : Int × (List AV) => k (.exit 0) ⟨[(1, AV.int .i64 p.1)], [([1], ⟨false, [.str], p.2⟩)]⟩) := (s32_0 ce s.1 s.2.1 s.2.2 next k).trans (by unfold R32_0; unfold F32_0; simp only [el_cond, el_ro, el_sum, el_fail, el_next, el_stop] <;> rfl)
theorem ok32_0 {ce : CallE} : LoopOK c32 ce [0] 32 0 (sub [1, 0, 1, 0, 0] (body Tryd.f32)) := by
  intro m hm st k r h
  obtain rfl : l32_0 = m := Option.some.inj hm
  unfold l32_0 at h
  split at h
  · rename_i g0 t1 t5 g1 g2 h0
    obtain ⟨hg, h⟩ := bif_some h
    simp only [Bool.and_eq_true] at hg
    obtain ⟨⟨q0, q1⟩, q2⟩ := hg
    obtain rfl := (nmEq_iff _ _).1 q0
    obtain rfl := (nmEq_iff _ _).1 q1
    obtain rfl := ctsEq_eq _ _ q2
    refine ⟨(((h0.length : Int) - t5).toNat + 1), ?_⟩
    rw [← h]
    exact loop_run (fun s : Int × Int × (List AV) => ⟨[(0, AV.own [1]), (1, AV.int .i64 s.1), (5, AV.int .i64 s.2.1)], [([1], ⟨false, [.str], s.2.2⟩)]⟩) (fun p : Int × (List AV) => k (.exit 0) ⟨[(1, AV.int .i64 p.1)], [([1], ⟨false, [.str], p.2⟩)]⟩) (st32_0 ce k) _ (t1, t5, h0)
  · cases h
def q32 (a1 : Int) (b0 : List AV) : Bool := (ro (runW (R32_0) (((b0.length : Int) - 0).toNat + 1) (a1, 0, b0)) false (fun p11 => true))
def v32_0 (a1 : Int) (b0 : List AV) : Int := (ro (runW (R32_0) (((b0.length : Int) - 0).toNat + 1) (a1, 0, b0)) 0 (fun p11 => p11.1))
def v32_1 (a1 : Int) (b0 : List AV) : List AV := (ro (runW (R32_0) (((b0.length : Int) - 0).toNat + 1) (a1, 0, b0)) [] (fun p11 => p11.2))
theorem e32 (a1 : Int) (b0 : List AV) (K : AV → List Blk → Option AV) : inlA c32 1 32 [AV.own [1], AV.int .i64 a1] [0] (canH 1 [⟨false, [.str], b0⟩]) (keepB 1 K) = (ro (runW (R32_0) (((b0.length : Int) - 0).toNat + 1) (a1, 0, b0)) none (fun p11 => K (AV.int .i64 p11.1) [⟨false, [.str], p11.2⟩])) := by kernel_rfl
theorem r32 (a1 : Int) (b0 : List AV) (K : AV → List Blk → Option AV) (h : q32 a1 b0 = true) : inlA c32 1 32 [AV.own [1], AV.int .i64 a1] [0] (canH 1 [⟨false, [.str], b0⟩]) (keepB 1 K) = K (AV.int .i64 (v32_0 a1 b0)) [⟨false, [.str], (v32_1 a1 b0)⟩] := (e32 a1 b0 K).trans ((brO (fun o : Option ((Int × (List AV))) => K (AV.int .i64 (ro o 0 (fun p11 => p11.1))) [⟨false, [.str], (ro o [] (fun p11 => p11.2))⟩]) (fun p11 => (fun _ => rfl))) h)
def m32 : WModel
  | [.own g0, .int .i64 a1], [⟨false, g1, b0⟩] => bif nmEq g0 ([1]) && ctsEq g1 ([.str]) then some (q32 a1 b0, AV.int .i64 (v32_0 a1 b0), [⟨false, [.str], (v32_1 a1 b0)⟩]) else none
  | _, _ => none
theorem k32 : Known Tryd.prog 32 := ⟨Tryd.f32, Tryd.func32, by kernel_rfl, by kernel_rfl⟩
theorem meets32 : MeetsM Tryd.prog 32 m32 := by
  refine meetM (f := Tryd.f32) (l := [(0, sub [1, 0, 1, 0, 0] (body Tryd.f32))]) (hs := [(32, 0, [0, 1, 5]), (32, 999, [4]), (32, 1000, [1]), (32, 1001, [0, 1, 5])]) (ts := []) (ws := [(61, m61)]) (is := []) (ls := [(32, 0, l32_0)]) (lvl := 0) mixed k32 Tryd.func32 (by kernel_rfl) (loops_cons ok32_0 noLoop) allT_nil (allM_cons meets61 allM_nil) noI fun C w xs us bs r bs' hl hv hh h K => ?_
  unfold m32 at h
  split at h
  · rename_i g0 a1 g1 b0
    obtain ⟨hg, h⟩ := bif_pair h
    simp only [Bool.and_eq_true] at hg
    obtain ⟨q0, q1⟩ := hg
    obtain rfl := (nmEq_iff _ _).1 q0
    obtain rfl := ctsEq_eq _ _ q1
    obtain ⟨h1, rfl, rfl⟩ := trip_inj h
    exact r32 a1 b0 K h1
  · cases h

/-! ### 33 loop.example/g01984/laws.heldStringS -/
def F33_0 (t0 : List AV) (t1 : Int) (t5 : Int) : Out ((Int × Int)) (Int ⊕ Unit) := (bif decide (t5 < (t0.length : Int)) then (bif (decide (0 ≤ t5) && decide (t5 < (t0.length : Int))) then (bif q61 t1 then (bif !((fS (t0.getD t5.toNat AV.undef) 0).toList == (v61_0 t1).toList) then .stop (.inr ())
  else .next (IntKind.i64.wrap (t1 + 1), IntKind.i64.wrap (t5 + 1)))
  else .fail)
  else .fail)
  else .stop (.inl t1))
def R33_0 (t0 : List AV) : ((Int × Int)) → Out ((Int × Int)) (Int ⊕ Unit) := fun s : Int × Int => F33_0 t0 s.1 s.2
def l33_0 : LModel := fun _ _ st k => match st with
  | ⟨[(0, .sl g0 t0), (1, .int .i64 t1), (5, .int .i64 t5)], []⟩ => bif ctsEq g0 ([.str]) then ro (runW (R33_0 t0) (((t0.length : Int) - t5).toNat + 1) (t1, t5)) none (sumE (fun p : Int => k (.exit 0) ⟨[(1, AV.int .i64 p)], []⟩) (fun _ : Unit => k .ret ⟨[(4, AV.int .i64 (-1))], []⟩)) else none
  | _ => none
noncomputable def c33 : Cfg := cfg Tryd.prog [(33, 0, [0, 1, 5]), (33, 999, [4]), (33, 1000, [1]), (33, 1001, [0, 1, 5])] [] [(61, m61)] [] [(33, 0, l33_0)]
theorem s33_0 (ce : CallE) (t0 : List AV) (t1 : Int) (t5 : Int) (next : St → Option AV) (k : Kont) : stepA (codeA c33 ce [] 33 0 (sub [1, 0, 1, 0, 0] (body Tryd.f33))) (normA [] [0, 1, 5]) next ⟨[(0, AV.sl [.str] t0), (1, AV.int .i64 t1), (5, AV.int .i64 t5)], []⟩ k = (bif decide (t5 < (t0.length : Int)) then (bif (decide (0 ≤ t5) && decide (t5 < (t0.length : Int))) then (bif q61 t1 then (bif !((fS (t0.getD t5.toNat AV.undef) 0).toList == (v61_0 t1).toList) then k .ret ⟨[(4, AV.int .i64 (-1))], []⟩
  else next ⟨[(0, AV.sl [.str] t0), (1, AV.int .i64 (IntKind.i64.wrap (t1 + 1))), (5, AV.int .i64 (IntKind.i64.wrap (t5 + 1)))], []⟩)
  else none)
  else none)
  else k (.exit 0) ⟨[(1, AV.int .i64 t1)], []⟩) := by kernel_rfl
theorem st33_0 (t0 : List AV) (ce : CallE) (k : Kont) (s : (Int × Int)) (next : St → Option AV) : stepA (codeA c33 ce [] 33 0 (sub [1, 0, 1, 0, 0] (body Tryd.f33))) (normA [] [0, 1, 5]) next ((fun s : Int × Int => ⟨[(0, AV.sl [.str] t0), (1, AV.int .i64 s.1), (5, AV.int .i64 s.2)], []⟩) s) k = (R33_0 t0 s).el none (fun s => next ((fun s : Int × Int => ⟨[(0, AV.sl [.str] t0), (1, AV.int .i64 s.1), (5, AV.int .i64 s.2)], []⟩) s)) (sumE (fun p : Int => k (.exit 0) ⟨[(1, AV.int .i64 p)], []⟩) (fun _ : Unit => k .ret ⟨[(4, AV.int .i64 (-1))], []⟩)) := (s33_0 ce t0 s.1 s.2 next k).trans (by unfold R33_0; unfold F33_0; simp only [el_cond, el_ro, el_sum, el_fail, el_next, el_stop] <;> rfl)
theorem ok33_0 {ce : CallE} : LoopOK c33 ce [] 33 0 (sub [1, 0, 1, 0, 0] (body Tryd.f33)) := by
  intro m hm st k r h
  obtain rfl : l33_0 = m := Option.some.inj hm
  unfold l33_0 at h
  split at h
  · rename_i g0 t0 t1 t5
    obtain ⟨hg, h⟩ := bif_some h
    have q0 := hg
    obtain rfl := ctsEq_eq _ _ q0
    refine ⟨(((t0.length : Int) - t5).toNat + 1), ?_⟩
    rw [← h]
    exact loop_run (fun s : Int × Int => ⟨[(0, AV.sl [.str] t0), (1, AV.int .i64 s.1), (5, AV.int .i64 s.2)], []⟩) (sumE (fun p : Int => k (.exit 0) ⟨[(1, AV.int .i64 p)], []⟩) (fun _ : Unit => k .ret ⟨[(4, AV.int .i64 (-1))], []⟩)) (st33_0 t0 ce k) _ (t1, t5)
  · cases h
def q33 (a0 : List AV) (a1 : Int) : Bool := (ro (runW (R33_0 a0) (((a0.length : Int) - 0).toNat + 1) (a1, 0)) false (sumE (fun p12 => true) (fun _ => true)))
def v33_0 (a0 : List AV) (a1 : Int) : Int := (ro (runW (R33_0 a0) (((a0.length : Int) - 0).toNat + 1) (a1, 0)) 0 (sumE (fun p12 => p12) (fun _ => (-1))))
theorem e33 (a0 : List AV) (a1 : Int) : funA c33 0 33 [AV.sl [.str] a0, AV.int .i64 a1] = (ro (runW (R33_0 a0) (((a0.length : Int) - 0).toNat + 1) (a1, 0)) none (sumE (fun p12 => some (AV.int .i64 p12)) (fun _ => some (AV.int .i64 (-1))))) := by kernel_rfl
theorem r33 (a0 : List AV) (a1 : Int) (h : q33 a0 a1 = true) : funA c33 0 33 [AV.sl [.str] a0, AV.int .i64 a1] = some (AV.int .i64 (v33_0 a0 a1)) := (e33 a0 a1).trans ((brO (fun o : Option (Int ⊕ Unit) => some (AV.int .i64 (ro o 0 (sumE (fun p12 => p12) (fun _ => (-1)))))) (brS (fun o : Int ⊕ Unit => some (AV.int .i64 ((sumE (fun p12 => p12) (fun _ => (-1))) o))) (fun p12 => (fun _ => rfl)) (fun _ => (fun _ => rfl)))) h)
def m33 : TModel
  | [.sl g0 a0, .int .i64 a1] => bif ctsEq g0 ([.str]) then some (q33 a0 a1, AV.int .i64 (v33_0 a0 a1)) else none
  | _ => none
theorem k33 : Known Tryd.prog 33 := ⟨Tryd.f33, Tryd.func33, by kernel_rfl, by kernel_rfl⟩
theorem meets33 : Meets Tryd.prog 33 m33 := by
  refine meet (f := Tryd.f33) (l := [(0, sub [1, 0, 1, 0, 0] (body Tryd.f33))]) (hs := [(33, 0, [0, 1, 5]), (33, 999, [4]), (33, 1000, [1]), (33, 1001, [0, 1, 5])]) (ts := []) (ws := [(61, m61)]) (is := []) (ls := [(33, 0, l33_0)]) (lvl := 0) mixed k33 Tryd.func33 (by kernel_rfl) (loops_cons ok33_0 noLoop) allT_nil (allM_cons meets61 allM_nil) noI fun w xs us r hl hv h => ?_
  unfold m33 at h
  split at h
  · rename_i g0 a0 a1
    obtain ⟨hg, h⟩ := bif_pair h
    have q0 := hg
    obtain rfl := ctsEq_eq _ _ q0
    obtain ⟨h1, rfl⟩ := pair_inj h
    exact r33 a0 a1 h1
  · cases h

/-! ### 7 loop.example/g01984/laws.FnExactLedgerLines -/
noncomputable def c7 : Cfg := cfg Tryd.prog [(7, 999, [2])] [(25, m25), (26, m26), (27, m27), (28, m28), (29, m29), (30, m30), (33, m33)] [(31, m31), (32, m32)] [] []
def raw7 (a0 : List AV) : Option AV := (bif decide ((v25_0 a0 1048576) < 0) then some (AV.bool true)
  else (bif q27 a0 then (bif q26 (v27_0 a0) then (bif q27 a0 then (bif q28 (v27_0 a0) then (bif q29 (v28_0 (v27_0 a0)) (v26_0 (v27_0 a0)) then (bif !(v29_0 (v28_0 (v27_0 a0)) (v26_0 (v27_0 a0))) then some (AV.bool false)
  else (bif q27 a0 then (bif q30 (v27_0 a0) (v27_0 a0) then (bif !(v30_0 (v27_0 a0) (v27_0 a0)) then some (AV.bool false)
  else (bif q31 1 (v27_0 a0) then (bif decide ((v31_0 1 (v27_0 a0)) < 0) then some (AV.bool false)
  else (bif q29 (v28_0 (v27_0 a0)) (v26_0 (v27_0 a0)) then (bif !(v29_0 (v28_0 (v27_0 a0)) (v26_0 (v27_0 a0))) then some (AV.bool false)
  else (bif q32 1 (v28_0 (v27_0 a0)) then (bif q33 (v32_1 1 (v28_0 (v27_0 a0))) 1 then (bif decide ((v33_0 (v32_1 1 (v28_0 (v27_0 a0))) 1) < 0) then some (AV.bool false)
  else (bif !decide ((v33_0 (v32_1 1 (v28_0 (v27_0 a0))) 1) = (v32_0 1 (v28_0 (v27_0 a0)))) then some (AV.bool false)
  else (bif q27 a0 then (bif q28 (v27_0 a0) then (bif q29 (v28_0 (v27_0 a0)) (v26_0 (v27_0 a0)) then (bif !(v29_0 (v28_0 (v27_0 a0)) (v26_0 (v27_0 a0))) then some (AV.bool false)
  else (bif q33 (v32_1 1 (v28_0 (v27_0 a0))) 1 then (bif decide ((v33_0 (v32_1 1 (v28_0 (v27_0 a0))) 1) < 0) then some (AV.bool false)
  else (bif !decide ((v33_0 (v32_1 1 (v28_0 (v27_0 a0))) 1) = (v32_0 1 (v28_0 (v27_0 a0)))) then some (AV.bool false)
  else some (AV.bool true)))
  else none))
  else none)
  else none)
  else none)))
  else none)
  else none))
  else none))
  else none))
  else none)
  else none))
  else none)
  else none)
  else none)
  else none)
  else none))
theorem e7 (a0 : List AV) : funA c7 0 7 [AV.sl [.int .i64, .int .i64, .int .i64, .int .i64, .int .i64] a0] = raw7 a0 := by kernel_rfl
def m7 : TModel
  | [.sl g0 a0] => bif ctsEq g0 ([.int .i64, .int .i64, .int .i64, .int .i64, .int .i64]) then (raw7 a0).map fun r => (true, r) else none
  | _ => none
theorem k7 : Known Tryd.prog 7 := ⟨Tryd.f7, Tryd.func7, by kernel_rfl, by kernel_rfl⟩
theorem meets7 : Meets Tryd.prog 7 m7 := by
  refine meet (f := Tryd.f7) (l := []) (hs := [(7, 999, [2])]) (ts := [(25, m25), (26, m26), (27, m27), (28, m28), (29, m29), (30, m30), (33, m33)]) (ws := [(31, m31), (32, m32)]) (is := []) (ls := []) (lvl := 0) mixed k7 Tryd.func7 (by kernel_rfl) noLoop (allT_cons meets25 (allT_cons meets26 (allT_cons meets27 (allT_cons meets28 (allT_cons meets29 (allT_cons meets30 (allT_cons meets33 allT_nil))))))) (allM_cons meets31 (allM_cons meets32 allM_nil)) noI fun w xs us r hl hv h => ?_
  unfold m7 at h
  split at h
  · rename_i g0 a0
    obtain ⟨hg, h⟩ := bif_pair h
    have q0 := hg
    obtain rfl := ctsEq_eq _ _ q0
    obtain ⟨r', h1, h2⟩ := Option.map_eq_some_iff.1 h
    obtain ⟨_, rfl⟩ := Prod.mk.inj h2
    exact (e7 a0).trans h1
  · cases h
end Go.Proofs.YtiokajbmckcklaaDoor
