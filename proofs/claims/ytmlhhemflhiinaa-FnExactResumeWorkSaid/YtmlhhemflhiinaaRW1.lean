/- The walk of what this claim reaches: printed by a program, each equation checked by the kernel. -/
import Derived.Test.YtmlhhemflhiinaaINS3
import Derived.Test.YtmlhhemflhiinaaProg
import Derived.KernelRfl
namespace Go.Proofs.Ytmlhhemflhiinaa
open Go Go.Proofs.VE
set_option linter.unusedVariables false
set_option linter.unusedSimpArgs false
set_option maxRecDepth 100000
set_option maxHeartbeats 4000000
theorem mixed : Try.prog.follows .mixedOrders = true := by kernel_rfl
/-! ### 4 loop.example/g01984/laws.szEntryS -/
noncomputable def c4 : Cfg := cfg Try.prog [(4, 999, [4])] [] [] [] []
def q4 (a0 : List AV) (a1 : Int) : Bool := true
def v4_0 (a0 : List AV) (a1 : Int) : Int := (bif decide (IntKind.i64.wrap (a1 - (a0.length : Int)) < 0) then (-1) else IntKind.i64.wrap (a1 - (a0.length : Int)))
theorem e4 (a0 : List AV) (a1 : Int) : funA c4 0 4 [AV.sl [.int .i64, .int .i64, .int .i64, .int .i64] a0, AV.int .i64 a1] = (bif decide (IntKind.i64.wrap (a1 - (a0.length : Int)) < 0) then some (AV.int .i64 (-1))
  else some (AV.int .i64 (IntKind.i64.wrap (a1 - (a0.length : Int))))) := by kernel_rfl
theorem r4 (a0 : List AV) (a1 : Int) : funA c4 0 4 [AV.sl [.int .i64, .int .i64, .int .i64, .int .i64] a0, AV.int .i64 a1] = some (AV.int .i64 (v4_0 a0 a1)) := (e4 a0 a1).trans (of_tt (brT (fun b => some (AV.int .i64 (bif b then (-1) else IntKind.i64.wrap (a1 - (a0.length : Int))))) (fun _ => rfl) (fun _ => rfl)))
def m4 : TModel
  | [.sl g0 a0, .int .i64 a1] => bif ctsEq g0 ([.int .i64, .int .i64, .int .i64, .int .i64]) then some (true, AV.int .i64 (v4_0 a0 a1)) else none
  | _ => none
theorem k4 : Known Try.prog 4 := ⟨Try.f4, Try.func4, by kernel_rfl, by kernel_rfl⟩
theorem meets4 : Meets Try.prog 4 m4 := by
  refine meet (f := Try.f4) (l := []) (hs := [(4, 999, [4])]) (ts := []) (ws := []) (is := []) (ls := []) (lvl := 0) mixed k4 Try.func4 (by kernel_rfl) noLoop allT_nil allM_nil noI fun w xs us r hl hv h => ?_
  unfold m4 at h
  split at h
  · rename_i g0 a0 a1
    obtain ⟨hg, h⟩ := bif_pair h
    have q0 := hg
    obtain rfl := ctsEq_eq _ _ q0
    obtain ⟨h1, rfl⟩ := pair_inj h
    exact r4 a0 a1
  · cases h

/-! ### 6 loop.example/g01984/laws.toIntS -/
def F6_0 (t0 : List AV) (t4 : Int) (h0 : List AV) : Out ((Int × (List AV))) (((List AV))) := (bif decide (t4 < (t0.length : Int)) then (bif (decide (0 ≤ t4) && decide (t4 < (t0.length : Int))) then (bif (decide (0 ≤ t4) && decide (t4 < (h0.length : Int))) then .next (IntKind.i64.wrap (t4 + 1), h0.set t4.toNat (AV.agg [AV.int .i64 (fI (t0.getD t4.toNat .undef) 0)]))
  else .fail)
  else .fail)
  else .stop h0)
def R6_0 (t0 : List AV) : ((Int × (List AV))) → Out ((Int × (List AV))) (((List AV))) := fun s : Int × (List AV) => F6_0 t0 s.1 s.2
def l6_0 : LModel := fun _ _ st k => match st with
  | ⟨[(0, .sl g0 t0), (3, .own g1), (4, .int .i64 t4)], [(g2, ⟨false, g3, h0⟩)]⟩ => bif ctsEq g0 ([.int .i64]) && nmEq g1 ([0, 3]) && nmEq g2 ([0, 3]) && ctsEq g3 ([.int .i64]) then ro (runW (R6_0 t0) (((t0.length : Int) - t4).toNat + 1) (t4, h0)) none (fun p : (List AV) => k (.exit 0) ⟨[(3, AV.own [0, 3])], [([0, 3], ⟨false, [.int .i64], p⟩)]⟩) else none
  | _ => none
noncomputable def c6 : Cfg := cfg Try.prog [(6, 0, [0, 3, 4]), (6, 999, [2]), (6, 1000, [3]), (6, 1001, [0, 3, 4])] [] [] [] [(6, 0, l6_0)]
theorem s6_0 (ce : CallE) (t0 : List AV) (t4 : Int) (h0 : List AV) (next : St → Option AV) (k : Kont) : stepA (codeA c6 ce [] 6 0 (sub [1, 1, 0, 1, 0, 0] (body Try.f6))) (normA [] [0, 3, 4]) next ⟨[(0, AV.sl [.int .i64] t0), (3, AV.own [0, 3]), (4, AV.int .i64 t4)], [([0, 3], ⟨false, [.int .i64], h0⟩)]⟩ k = (bif decide (t4 < (t0.length : Int)) then (bif (decide (0 ≤ t4) && decide (t4 < (t0.length : Int))) then (bif (decide (0 ≤ t4) && decide (t4 < (h0.length : Int))) then next ⟨[(0, AV.sl [.int .i64] t0), (3, AV.own [0, 3]), (4, AV.int .i64 (IntKind.i64.wrap (t4 + 1)))], [([0, 3], ⟨false, [.int .i64], h0.set t4.toNat (AV.agg [AV.int .i64 (fI (t0.getD t4.toNat .undef) 0)])⟩)]⟩
  else none)
  else none)
  else k (.exit 0) ⟨[(3, AV.own [0, 3])], [([0, 3], ⟨false, [.int .i64], h0⟩)]⟩) := by kernel_rfl
theorem st6_0 (t0 : List AV) (ce : CallE) (k : Kont) (s : (Int × (List AV))) (next : St → Option AV) : stepA (codeA c6 ce [] 6 0 (sub [1, 1, 0, 1, 0, 0] (body Try.f6))) (normA [] [0, 3, 4]) next ((fun s : Int × (List AV) => ⟨[(0, AV.sl [.int .i64] t0), (3, AV.own [0, 3]), (4, AV.int .i64 s.1)], [([0, 3], ⟨false, [.int .i64], s.2⟩)]⟩) s) k = (R6_0 t0 s).el none (fun s => next ((fun s : Int × (List AV) => ⟨[(0, AV.sl [.int .i64] t0), (3, AV.own [0, 3]), (4, AV.int .i64 s.1)], [([0, 3], ⟨false, [.int .i64], s.2⟩)]⟩) s)) (fun p : (List AV) => k (.exit 0) ⟨[(3, AV.own [0, 3])], [([0, 3], ⟨false, [.int .i64], p⟩)]⟩) := (s6_0 ce t0 s.1 s.2 next k).trans (by unfold R6_0; unfold F6_0; simp only [el_cond, el_ro, el_sum, el_fail, el_next, el_stop] <;> rfl)
theorem ok6_0 {ce : CallE} : LoopOK c6 ce [] 6 0 (sub [1, 1, 0, 1, 0, 0] (body Try.f6)) := by
  intro m hm st k r h
  obtain rfl : l6_0 = m := Option.some.inj hm
  unfold l6_0 at h
  split at h
  · rename_i g0 t0 g1 t4 g2 g3 h0
    obtain ⟨hg, h⟩ := bif_some h
    simp only [Bool.and_eq_true] at hg
    obtain ⟨⟨⟨q0, q1⟩, q2⟩, q3⟩ := hg
    obtain rfl := ctsEq_eq _ _ q0
    obtain rfl := (nmEq_iff _ _).1 q1
    obtain rfl := (nmEq_iff _ _).1 q2
    obtain rfl := ctsEq_eq _ _ q3
    refine ⟨(((t0.length : Int) - t4).toNat + 1), ?_⟩
    rw [← h]
    exact loop_run (fun s : Int × (List AV) => ⟨[(0, AV.sl [.int .i64] t0), (3, AV.own [0, 3]), (4, AV.int .i64 s.1)], [([0, 3], ⟨false, [.int .i64], s.2⟩)]⟩) (fun p : (List AV) => k (.exit 0) ⟨[(3, AV.own [0, 3])], [([0, 3], ⟨false, [.int .i64], p⟩)]⟩) (st6_0 t0 ce k) _ (t4, h0)
  · cases h
def q6 (a0 : List AV) : Bool := ((decide (0 ≤ (a0.length : Int)) && decide ((a0.length : Int) ≤ (a0.length : Int)) && decide ((a0.length : Int) * 8 ≤ 140737488355328) && decide ((a0.length : Int) ≤ 140737488355328)) && (ro (runW (R6_0 a0) (((a0.length : Int) - 0).toNat + 1) (0, List.replicate (Int.toNat (a0.length : Int)) (AV.int .i64 0))) false (fun p1 => true)))
def v6_0 (a0 : List AV) : List AV := (ro (runW (R6_0 a0) (((a0.length : Int) - 0).toNat + 1) (0, List.replicate (Int.toNat (a0.length : Int)) (AV.int .i64 0))) [] (fun p1 => p1))
theorem e6 (a0 : List AV) : funA c6 0 6 [AV.sl [.int .i64] a0] = (bif (decide (0 ≤ (a0.length : Int)) && decide ((a0.length : Int) ≤ (a0.length : Int)) && decide ((a0.length : Int) * 8 ≤ 140737488355328) && decide ((a0.length : Int) ≤ 140737488355328)) then (ro (runW (R6_0 a0) (((a0.length : Int) - 0).toNat + 1) (0, List.replicate (Int.toNat (a0.length : Int)) (AV.int .i64 0))) none (fun p1 => some (AV.fl [.int .i64] p1)))
  else none) := by kernel_rfl
theorem r6 (a0 : List AV) (h : q6 a0 = true) : funA c6 0 6 [AV.sl [.int .i64] a0] = some (AV.fl [.int .i64] (v6_0 a0)) := (e6 a0).trans ((brL (brO (fun o : Option (((List AV))) => some (AV.fl [.int .i64] (ro o [] (fun p1 => p1)))) (fun p1 => (fun _ => rfl)))) h)
def m6 : TModel
  | [.sl g0 a0] => bif ctsEq g0 ([.int .i64]) then some (q6 a0, AV.fl [.int .i64] (v6_0 a0)) else none
  | _ => none
theorem k6 : Known Try.prog 6 := ⟨Try.f6, Try.func6, by kernel_rfl, by kernel_rfl⟩
theorem meets6 : Meets Try.prog 6 m6 := by
  refine meet (f := Try.f6) (l := [(0, sub [1, 1, 0, 1, 0, 0] (body Try.f6))]) (hs := [(6, 0, [0, 3, 4]), (6, 999, [2]), (6, 1000, [3]), (6, 1001, [0, 3, 4])]) (ts := []) (ws := []) (is := []) (ls := [(6, 0, l6_0)]) (lvl := 0) mixed k6 Try.func6 (by kernel_rfl) (loops_cons ok6_0 noLoop) allT_nil allM_nil noI fun w xs us r hl hv h => ?_
  unfold m6 at h
  split at h
  · rename_i g0 a0
    obtain ⟨hg, h⟩ := bif_pair h
    have q0 := hg
    obtain rfl := ctsEq_eq _ _ q0
    obtain ⟨h1, rfl⟩ := pair_inj h
    exact r6 a0 h1
  · cases h

/-! ### 19 loop.example/g01984/laws.toEntry -/
noncomputable def c19 : Cfg := cfg Try.prog [(19, 999, [2])] [] [] [] []
def q19 (xa : Int) (xb : Int) (xc : Int) (xd : Int) : Bool := true
def v19_0 (xa : Int) (xb : Int) (xc : Int) (xd : Int) : Int := xa
def v19_1 (xa : Int) (xb : Int) (xc : Int) (xd : Int) : Int := xb
def v19_2 (xa : Int) (xb : Int) (xc : Int) (xd : Int) : Int := xc
def v19_3 (xa : Int) (xb : Int) (xc : Int) (xd : Int) : Int := xd
theorem e19 (xa : Int) (xb : Int) (xc : Int) (xd : Int) : funA c19 0 19 [AV.agg [AV.int .i64 xa, AV.int .i64 xb, AV.int .i64 xc, AV.int .i64 xd]] = some (AV.agg [AV.int .i64 xa, AV.int .i64 xb, AV.int .i64 xc, AV.int .i64 xd]) := by kernel_rfl
theorem r19 (xa : Int) (xb : Int) (xc : Int) (xd : Int) : funA c19 0 19 [AV.agg [AV.int .i64 xa, AV.int .i64 xb, AV.int .i64 xc, AV.int .i64 xd]] = some (AV.agg [AV.int .i64 (v19_0 xa xb xc xd), AV.int .i64 (v19_1 xa xb xc xd), AV.int .i64 (v19_2 xa xb xc xd), AV.int .i64 (v19_3 xa xb xc xd)]) := (e19 xa xb xc xd).trans (of_tt (fun _ => rfl))
def m19 : TModel
  | [.agg [.int .i64 xa, .int .i64 xb, .int .i64 xc, .int .i64 xd]] => some (true, AV.agg [AV.int .i64 (v19_0 xa xb xc xd), AV.int .i64 (v19_1 xa xb xc xd), AV.int .i64 (v19_2 xa xb xc xd), AV.int .i64 (v19_3 xa xb xc xd)])
  | _ => none
theorem k19 : Known Try.prog 19 := ⟨Try.f19, Try.func19, by kernel_rfl, by kernel_rfl⟩
theorem meets19 : Meets Try.prog 19 m19 := by
  refine meet (f := Try.f19) (l := []) (hs := [(19, 999, [2])]) (ts := []) (ws := []) (is := []) (ls := []) (lvl := 0) mixed k19 Try.func19 (by kernel_rfl) noLoop allT_nil allM_nil noI fun w xs us r hl hv h => ?_
  unfold m19 at h
  split at h
  · rename_i xa xb xc xd
    obtain ⟨h1, rfl⟩ := pair_inj h
    exact r19 xa xb xc xd
  · cases h

/-! ### 7 loop.example/g01984/laws.toEntryS -/
def F7_0 (t0 : List AV) (t4 : Int) (h0 : List AV) : Out ((Int × (List AV))) (((List AV))) := (bif decide (t4 < (t0.length : Int)) then (bif (decide (0 ≤ t4) && decide (t4 < (t0.length : Int))) then (bif (decide (0 ≤ t4) && decide (t4 < (h0.length : Int))) then .next (IntKind.i64.wrap (t4 + 1), h0.set t4.toNat (AV.agg [AV.int .i64 (v19_0 (fI (t0.getD t4.toNat .undef) 0) (fI (t0.getD t4.toNat .undef) 1) (fI (t0.getD t4.toNat .undef) 2) (fI (t0.getD t4.toNat .undef) 3)), AV.int .i64 (v19_1 (fI (t0.getD t4.toNat .undef) 0) (fI (t0.getD t4.toNat .undef) 1) (fI (t0.getD t4.toNat .undef) 2) (fI (t0.getD t4.toNat .undef) 3)), AV.int .i64 (v19_2 (fI (t0.getD t4.toNat .undef) 0) (fI (t0.getD t4.toNat .undef) 1) (fI (t0.getD t4.toNat .undef) 2) (fI (t0.getD t4.toNat .undef) 3)), AV.int .i64 (v19_3 (fI (t0.getD t4.toNat .undef) 0) (fI (t0.getD t4.toNat .undef) 1) (fI (t0.getD t4.toNat .undef) 2) (fI (t0.getD t4.toNat .undef) 3))]))
  else .fail)
  else .fail)
  else .stop h0)
def R7_0 (t0 : List AV) : ((Int × (List AV))) → Out ((Int × (List AV))) (((List AV))) := fun s : Int × (List AV) => F7_0 t0 s.1 s.2
def l7_0 : LModel := fun _ _ st k => match st with
  | ⟨[(0, .sl g0 t0), (3, .own g1), (4, .int .i64 t4)], [(g2, ⟨false, g3, h0⟩)]⟩ => bif ctsEq g0 ([.int .i64, .int .i64, .int .i64, .int .i64]) && nmEq g1 ([0, 3]) && nmEq g2 ([0, 3]) && ctsEq g3 ([.int .i64, .int .i64, .int .i64, .int .i64]) then ro (runW (R7_0 t0) (((t0.length : Int) - t4).toNat + 1) (t4, h0)) none (fun p : (List AV) => k (.exit 0) ⟨[(3, AV.own [0, 3])], [([0, 3], ⟨false, [.int .i64, .int .i64, .int .i64, .int .i64], p⟩)]⟩) else none
  | _ => none
noncomputable def c7 : Cfg := cfg Try.prog [(7, 0, [0, 3, 4]), (7, 999, [2]), (7, 1000, [3]), (7, 1001, [0, 3, 4])] [(19, m19)] [] [] [(7, 0, l7_0)]
theorem s7_0 (ce : CallE) (t0 : List AV) (t4 : Int) (h0 : List AV) (next : St → Option AV) (k : Kont) : stepA (codeA c7 ce [] 7 0 (sub [1, 1, 0, 1, 0, 0] (body Try.f7))) (normA [] [0, 3, 4]) next ⟨[(0, AV.sl [.int .i64, .int .i64, .int .i64, .int .i64] t0), (3, AV.own [0, 3]), (4, AV.int .i64 t4)], [([0, 3], ⟨false, [.int .i64, .int .i64, .int .i64, .int .i64], h0⟩)]⟩ k = (bif decide (t4 < (t0.length : Int)) then (bif (decide (0 ≤ t4) && decide (t4 < (t0.length : Int))) then (bif (decide (0 ≤ t4) && decide (t4 < (h0.length : Int))) then next ⟨[(0, AV.sl [.int .i64, .int .i64, .int .i64, .int .i64] t0), (3, AV.own [0, 3]), (4, AV.int .i64 (IntKind.i64.wrap (t4 + 1)))], [([0, 3], ⟨false, [.int .i64, .int .i64, .int .i64, .int .i64], h0.set t4.toNat (AV.agg [AV.int .i64 (v19_0 (fI (t0.getD t4.toNat .undef) 0) (fI (t0.getD t4.toNat .undef) 1) (fI (t0.getD t4.toNat .undef) 2) (fI (t0.getD t4.toNat .undef) 3)), AV.int .i64 (v19_1 (fI (t0.getD t4.toNat .undef) 0) (fI (t0.getD t4.toNat .undef) 1) (fI (t0.getD t4.toNat .undef) 2) (fI (t0.getD t4.toNat .undef) 3)), AV.int .i64 (v19_2 (fI (t0.getD t4.toNat .undef) 0) (fI (t0.getD t4.toNat .undef) 1) (fI (t0.getD t4.toNat .undef) 2) (fI (t0.getD t4.toNat .undef) 3)), AV.int .i64 (v19_3 (fI (t0.getD t4.toNat .undef) 0) (fI (t0.getD t4.toNat .undef) 1) (fI (t0.getD t4.toNat .undef) 2) (fI (t0.getD t4.toNat .undef) 3))])⟩)]⟩
  else none)
  else none)
  else k (.exit 0) ⟨[(3, AV.own [0, 3])], [([0, 3], ⟨false, [.int .i64, .int .i64, .int .i64, .int .i64], h0⟩)]⟩) := by kernel_rfl
theorem st7_0 (t0 : List AV) (ce : CallE) (k : Kont) (s : (Int × (List AV))) (next : St → Option AV) : stepA (codeA c7 ce [] 7 0 (sub [1, 1, 0, 1, 0, 0] (body Try.f7))) (normA [] [0, 3, 4]) next ((fun s : Int × (List AV) => ⟨[(0, AV.sl [.int .i64, .int .i64, .int .i64, .int .i64] t0), (3, AV.own [0, 3]), (4, AV.int .i64 s.1)], [([0, 3], ⟨false, [.int .i64, .int .i64, .int .i64, .int .i64], s.2⟩)]⟩) s) k = (R7_0 t0 s).el none (fun s => next ((fun s : Int × (List AV) => ⟨[(0, AV.sl [.int .i64, .int .i64, .int .i64, .int .i64] t0), (3, AV.own [0, 3]), (4, AV.int .i64 s.1)], [([0, 3], ⟨false, [.int .i64, .int .i64, .int .i64, .int .i64], s.2⟩)]⟩) s)) (fun p : (List AV) => k (.exit 0) ⟨[(3, AV.own [0, 3])], [([0, 3], ⟨false, [.int .i64, .int .i64, .int .i64, .int .i64], p⟩)]⟩) := (s7_0 ce t0 s.1 s.2 next k).trans (by unfold R7_0; unfold F7_0; simp only [el_cond, el_ro, el_sum, el_fail, el_next, el_stop] <;> rfl)
theorem ok7_0 {ce : CallE} : LoopOK c7 ce [] 7 0 (sub [1, 1, 0, 1, 0, 0] (body Try.f7)) := by
  intro m hm st k r h
  obtain rfl : l7_0 = m := Option.some.inj hm
  unfold l7_0 at h
  split at h
  · rename_i g0 t0 g1 t4 g2 g3 h0
    obtain ⟨hg, h⟩ := bif_some h
    simp only [Bool.and_eq_true] at hg
    obtain ⟨⟨⟨q0, q1⟩, q2⟩, q3⟩ := hg
    obtain rfl := ctsEq_eq _ _ q0
    obtain rfl := (nmEq_iff _ _).1 q1
    obtain rfl := (nmEq_iff _ _).1 q2
    obtain rfl := ctsEq_eq _ _ q3
    refine ⟨(((t0.length : Int) - t4).toNat + 1), ?_⟩
    rw [← h]
    exact loop_run (fun s : Int × (List AV) => ⟨[(0, AV.sl [.int .i64, .int .i64, .int .i64, .int .i64] t0), (3, AV.own [0, 3]), (4, AV.int .i64 s.1)], [([0, 3], ⟨false, [.int .i64, .int .i64, .int .i64, .int .i64], s.2⟩)]⟩) (fun p : (List AV) => k (.exit 0) ⟨[(3, AV.own [0, 3])], [([0, 3], ⟨false, [.int .i64, .int .i64, .int .i64, .int .i64], p⟩)]⟩) (st7_0 t0 ce k) _ (t4, h0)
  · cases h
def q7 (a0 : List AV) : Bool := ((decide (0 ≤ (a0.length : Int)) && decide ((a0.length : Int) ≤ (a0.length : Int)) && decide ((a0.length : Int) * 32 ≤ 140737488355328) && decide ((a0.length : Int) ≤ 140737488355328)) && (ro (runW (R7_0 a0) (((a0.length : Int) - 0).toNat + 1) (0, List.replicate (Int.toNat (a0.length : Int)) (AV.agg [AV.int .i64 0, AV.int .i64 0, AV.int .i64 0, AV.int .i64 0]))) false (fun p2 => true)))
def v7_0 (a0 : List AV) : List AV := (ro (runW (R7_0 a0) (((a0.length : Int) - 0).toNat + 1) (0, List.replicate (Int.toNat (a0.length : Int)) (AV.agg [AV.int .i64 0, AV.int .i64 0, AV.int .i64 0, AV.int .i64 0]))) [] (fun p2 => p2))
theorem e7 (a0 : List AV) : funA c7 0 7 [AV.sl [.int .i64, .int .i64, .int .i64, .int .i64] a0] = (bif (decide (0 ≤ (a0.length : Int)) && decide ((a0.length : Int) ≤ (a0.length : Int)) && decide ((a0.length : Int) * 32 ≤ 140737488355328) && decide ((a0.length : Int) ≤ 140737488355328)) then (ro (runW (R7_0 a0) (((a0.length : Int) - 0).toNat + 1) (0, List.replicate (Int.toNat (a0.length : Int)) (AV.agg [AV.int .i64 0, AV.int .i64 0, AV.int .i64 0, AV.int .i64 0]))) none (fun p2 => some (AV.fl [.int .i64, .int .i64, .int .i64, .int .i64] p2)))
  else none) := by kernel_rfl
theorem r7 (a0 : List AV) (h : q7 a0 = true) : funA c7 0 7 [AV.sl [.int .i64, .int .i64, .int .i64, .int .i64] a0] = some (AV.fl [.int .i64, .int .i64, .int .i64, .int .i64] (v7_0 a0)) := (e7 a0).trans ((brL (brO (fun o : Option (((List AV))) => some (AV.fl [.int .i64, .int .i64, .int .i64, .int .i64] (ro o [] (fun p2 => p2)))) (fun p2 => (fun _ => rfl)))) h)
def m7 : TModel
  | [.sl g0 a0] => bif ctsEq g0 ([.int .i64, .int .i64, .int .i64, .int .i64]) then some (q7 a0, AV.fl [.int .i64, .int .i64, .int .i64, .int .i64] (v7_0 a0)) else none
  | _ => none
theorem k7 : Known Try.prog 7 := ⟨Try.f7, Try.func7, by kernel_rfl, by kernel_rfl⟩
theorem meets7 : Meets Try.prog 7 m7 := by
  refine meet (f := Try.f7) (l := [(0, sub [1, 1, 0, 1, 0, 0] (body Try.f7))]) (hs := [(7, 0, [0, 3, 4]), (7, 999, [2]), (7, 1000, [3]), (7, 1001, [0, 3, 4])]) (ts := [(19, m19)]) (ws := []) (is := []) (ls := [(7, 0, l7_0)]) (lvl := 0) mixed k7 Try.func7 (by kernel_rfl) (loops_cons ok7_0 noLoop) (allT_cons meets19 allT_nil) allM_nil noI fun w xs us r hl hv h => ?_
  unfold m7 at h
  split at h
  · rename_i g0 a0
    obtain ⟨hg, h⟩ := bif_pair h
    have q0 := hg
    obtain rfl := ctsEq_eq _ _ q0
    obtain ⟨h1, rfl⟩ := pair_inj h
    exact r7 a0 h1
  · cases h

/-! ### 28 loop.example/g01984/spec.l1In -/
noncomputable def c28 : Cfg := cfg Try.prog [(28, 999, [6])] [] [] [] []
def q28 (a0 : Int) (a1 : Int) (a2 : Int) : Bool := true
def v28_0 (a0 : Int) (a1 : Int) (a2 : Int) : Bool := (bif decide (a0 ≥ a1) then decide (a0 ≤ a2) else false)
theorem e28 (a0 : Int) (a1 : Int) (a2 : Int) : funA c28 0 28 [AV.int .i64 a0, AV.int .i64 a1, AV.int .i64 a2] = (bif decide (a0 ≥ a1) then some (AV.bool (decide (a0 ≤ a2)))
  else some (AV.bool false)) := by kernel_rfl
theorem r28 (a0 : Int) (a1 : Int) (a2 : Int) : funA c28 0 28 [AV.int .i64 a0, AV.int .i64 a1, AV.int .i64 a2] = some (AV.bool (v28_0 a0 a1 a2)) := (e28 a0 a1 a2).trans (of_tt (brT (fun b => some (AV.bool (bif b then decide (a0 ≤ a2) else false))) (fun _ => rfl) (fun _ => rfl)))
def m28 : TModel
  | [.int .i64 a0, .int .i64 a1, .int .i64 a2] => some (true, AV.bool (v28_0 a0 a1 a2))
  | _ => none
theorem k28 : Known Try.prog 28 := ⟨Try.f28, Try.func28, by kernel_rfl, by kernel_rfl⟩
theorem meets28 : Meets Try.prog 28 m28 := by
  refine meet (f := Try.f28) (l := []) (hs := [(28, 999, [6])]) (ts := []) (ws := []) (is := []) (ls := []) (lvl := 0) mixed k28 Try.func28 (by kernel_rfl) noLoop allT_nil allM_nil noI fun w xs us r hl hv h => ?_
  unfold m28 at h
  split at h
  · rename_i a0 a1 a2
    obtain ⟨h1, rfl⟩ := pair_inj h
    exact r28 a0 a1 a2
  · cases h

/-! ### 47 loop.example/g01984/spec.AreValues -/
def F47_0 (t0 : List AV) (t3 : Int) : Out (Int) (Unit ⊕ Unit) := (bif decide (t3 < (t0.length : Int)) then (bif (decide (0 ≤ t3) && decide (t3 < (t0.length : Int))) then (bif !(v28_0 (fI (t0.getD t3.toNat .undef) 0) (-999) 999) then .stop (.inr ())
  else .next (IntKind.i64.wrap (t3 + 1)))
  else .fail)
  else .stop (.inl ()))
def R47_0 (t0 : List AV) : (Int) → Out (Int) (Unit ⊕ Unit) := fun s : Int => F47_0 t0 s
def l47_0 : LModel := fun _ _ st k => match st with
  | ⟨[(0, .sl g0 t0), (3, .int .i64 t3)], []⟩ => bif ctsEq g0 ([.int .i64]) then ro (runW (R47_0 t0) (((t0.length : Int) - t3).toNat + 1) t3) none (sumE (fun _ : Unit => k (.exit 0) ⟨[(0, AV.sl [.int .i64] t0)], []⟩) (fun _ : Unit => k .ret ⟨[(2, AV.bool false)], []⟩)) else none
  | _ => none
noncomputable def c47 : Cfg := cfg Try.prog [(47, 0, [0, 3]), (47, 999, [2]), (47, 1000, [0]), (47, 1001, [0, 3])] [(28, m28)] [] [] [(47, 0, l47_0)]
theorem s47_0 (ce : CallE) (t0 : List AV) (t3 : Int) (next : St → Option AV) (k : Kont) : stepA (codeA c47 ce [] 47 0 (sub [1, 0, 1, 0, 0] (body Try.f47))) (normA [] [0, 3]) next ⟨[(0, AV.sl [.int .i64] t0), (3, AV.int .i64 t3)], []⟩ k = (bif decide (t3 < (t0.length : Int)) then (bif (decide (0 ≤ t3) && decide (t3 < (t0.length : Int))) then (bif !(v28_0 (fI (t0.getD t3.toNat .undef) 0) (-999) 999) then k .ret ⟨[(2, AV.bool false)], []⟩
  else next ⟨[(0, AV.sl [.int .i64] t0), (3, AV.int .i64 (IntKind.i64.wrap (t3 + 1)))], []⟩)
  else none)
  else k (.exit 0) ⟨[(0, AV.sl [.int .i64] t0)], []⟩) := by kernel_rfl
theorem st47_0 (t0 : List AV) (ce : CallE) (k : Kont) (s : Int) (next : St → Option AV) : stepA (codeA c47 ce [] 47 0 (sub [1, 0, 1, 0, 0] (body Try.f47))) (normA [] [0, 3]) next ((fun s : Int => ⟨[(0, AV.sl [.int .i64] t0), (3, AV.int .i64 s)], []⟩) s) k = (R47_0 t0 s).el none (fun s => next ((fun s : Int => ⟨[(0, AV.sl [.int .i64] t0), (3, AV.int .i64 s)], []⟩) s)) (sumE (fun _ : Unit => k (.exit 0) ⟨[(0, AV.sl [.int .i64] t0)], []⟩) (fun _ : Unit => k .ret ⟨[(2, AV.bool false)], []⟩)) := (s47_0 ce t0 s next k).trans (by unfold R47_0; unfold F47_0; simp only [el_cond, el_ro, el_sum, el_fail, el_next, el_stop] <;> rfl)
theorem ok47_0 {ce : CallE} : LoopOK c47 ce [] 47 0 (sub [1, 0, 1, 0, 0] (body Try.f47)) := by
  intro m hm st k r h
  obtain rfl : l47_0 = m := Option.some.inj hm
  unfold l47_0 at h
  split at h
  · rename_i g0 t0 t3
    obtain ⟨hg, h⟩ := bif_some h
    have q0 := hg
    obtain rfl := ctsEq_eq _ _ q0
    refine ⟨(((t0.length : Int) - t3).toNat + 1), ?_⟩
    rw [← h]
    exact loop_run (fun s : Int => ⟨[(0, AV.sl [.int .i64] t0), (3, AV.int .i64 s)], []⟩) (sumE (fun _ : Unit => k (.exit 0) ⟨[(0, AV.sl [.int .i64] t0)], []⟩) (fun _ : Unit => k .ret ⟨[(2, AV.bool false)], []⟩)) (st47_0 t0 ce k) _ t3
  · cases h
def q47 (a0 : List AV) : Bool := (ro (runW (R47_0 a0) (((a0.length : Int) - 0).toNat + 1) 0) false (sumE (fun _ => true) (fun _ => true)))
def v47_0 (a0 : List AV) : Bool := (ro (runW (R47_0 a0) (((a0.length : Int) - 0).toNat + 1) 0) false (sumE (fun _ => decide ((a0.length : Int) ≤ 64)) (fun _ => false)))
theorem e47 (a0 : List AV) : funA c47 0 47 [AV.sl [.int .i64] a0] = (ro (runW (R47_0 a0) (((a0.length : Int) - 0).toNat + 1) 0) none (sumE (fun _ => some (AV.bool (decide ((a0.length : Int) ≤ 64)))) (fun _ => some (AV.bool false)))) := by kernel_rfl
theorem r47 (a0 : List AV) (h : q47 a0 = true) : funA c47 0 47 [AV.sl [.int .i64] a0] = some (AV.bool (v47_0 a0)) := (e47 a0).trans ((brO (fun o : Option (Unit ⊕ Unit) => some (AV.bool (ro o false (sumE (fun _ => decide ((a0.length : Int) ≤ 64)) (fun _ => false))))) (brS (fun o : Unit ⊕ Unit => some (AV.bool ((sumE (fun _ => decide ((a0.length : Int) ≤ 64)) (fun _ => false)) o))) (fun _ => (fun _ => rfl)) (fun _ => (fun _ => rfl)))) h)
def m47 : TModel
  | [.sl g0 a0] => bif ctsEq g0 ([.int .i64]) then some (q47 a0, AV.bool (v47_0 a0)) else none
  | _ => none
theorem k47 : Known Try.prog 47 := ⟨Try.f47, Try.func47, by kernel_rfl, by kernel_rfl⟩
theorem meets47 : Meets Try.prog 47 m47 := by
  refine meet (f := Try.f47) (l := [(0, sub [1, 0, 1, 0, 0] (body Try.f47))]) (hs := [(47, 0, [0, 3]), (47, 999, [2]), (47, 1000, [0]), (47, 1001, [0, 3])]) (ts := [(28, m28)]) (ws := []) (is := []) (ls := [(47, 0, l47_0)]) (lvl := 0) mixed k47 Try.func47 (by kernel_rfl) (loops_cons ok47_0 noLoop) (allT_cons meets28 allT_nil) allM_nil noI fun w xs us r hl hv h => ?_
  unfold m47 at h
  split at h
  · rename_i g0 a0
    obtain ⟨hg, h⟩ := bif_pair h
    have q0 := hg
    obtain rfl := ctsEq_eq _ _ q0
    obtain ⟨h1, rfl⟩ := pair_inj h
    exact r47 a0 h1
  · cases h

/-! ### 46 loop.example/g01984/spec.NewCracker -/
def F46_0_s0 (t0 : List AV) (h0 : List AV) (t4 : Int) : Out (Int ⊕ (Int × (List AV))) (Unit ⊕ ((List AV))) := (bif decide (t4 < (t0.length : Int)) then (bif (decide ((([AV.int .i64 t4]).length) * 8 ≤ 140737488355328) && decide ((([AV.int .i64 t4]).length) ≤ 140737488355328)) then .next (.inr (IntKind.i64.wrap (t4 + 1), [AV.int .i64 t4]))
  else .fail)
  else .stop (.inl ()))
def F46_0_s1 (t0 : List AV) (h0 : List AV) (t4 : Int) (h1 : List AV) : Out (Int ⊕ (Int × (List AV))) (Unit ⊕ ((List AV))) := (bif decide (t4 < (t0.length : Int)) then (bif (decide ((h1.length + ([AV.int .i64 t4]).length) * 8 ≤ 140737488355328) && decide ((h1.length + ([AV.int .i64 t4]).length) ≤ 140737488355328)) then .next (.inr (IntKind.i64.wrap (t4 + 1), h1 ++ ([AV.int .i64 t4])))
  else .fail)
  else .stop (.inr h1))
def R46_0 (t0 : List AV) (h0 : List AV) : (Int ⊕ (Int × (List AV))) → Out (Int ⊕ (Int × (List AV))) (Unit ⊕ ((List AV))) := sumE (fun s : Int => F46_0_s0 t0 h0 s) (fun s : Int × (List AV) => F46_0_s1 t0 h0 s.1 s.2)
def l46_0 : LModel := fun _ _ st k => match st with
  | ⟨[(0, .sl g0 t0), (2, .ptr g1 g2 g3), (3, .ptr g4 g5 g6), (4, .int .i64 t4)], [(g7, ⟨false, g8, h0⟩), (g9, ⟨true, [], [.agg [.snil, .snil, .snil]]⟩), (g10, ⟨true, [], [.agg [.own g11, .snil, .snil]]⟩)]⟩ => bif ctsEq g0 ([.int .i64]) && nmEq g1 ([0, 2]) && Nat.beq g2 0 && Nat.beq g3 0 && nmEq g4 ([0, 3]) && Nat.beq g5 0 && Nat.beq g6 0 && nmEq g7 ([0, 0, 3]) && ctsEq g8 ([.int .i64]) && nmEq g9 ([0, 2]) && nmEq g10 ([0, 3]) && nmEq g11 ([0, 0, 3]) then ro (runW (R46_0 t0 h0) (((t0.length : Int) - t4).toNat + 1) (.inl t4)) none (sumE (fun _ : Unit => k (.exit 0) ⟨[(2, AV.ptr [0, 2] 0 0), (3, AV.ptr [0, 3] 0 0)], [([0, 0, 3], ⟨false, [.int .i64], h0⟩), ([0, 2], ⟨true, [], [AV.agg [AV.snil, AV.snil, AV.snil]]⟩), ([0, 3], ⟨true, [], [AV.agg [AV.own [0, 0, 3], AV.snil, AV.snil]]⟩)]⟩) (fun p : (List AV) => k (.exit 0) ⟨[(2, AV.ptr [0, 2] 0 0), (3, AV.ptr [0, 3] 0 0)], [([0, 0, 3], ⟨false, [.int .i64], h0⟩), ([0, 1, 3], ⟨false, [.int .i64], p⟩), ([0, 2], ⟨true, [], [AV.agg [AV.snil, AV.snil, AV.snil]]⟩), ([0, 3], ⟨true, [], [AV.agg [AV.own [0, 0, 3], AV.own [0, 1, 3], AV.snil]]⟩)]⟩)) else none
  | ⟨[(0, .sl g0 t0), (2, .ptr g1 g2 g3), (3, .ptr g4 g5 g6), (4, .int .i64 t4)], [(g7, ⟨false, g8, h0⟩), (g9, ⟨false, g10, h1⟩), (g11, ⟨true, [], [.agg [.snil, .snil, .snil]]⟩), (g12, ⟨true, [], [.agg [.own g13, .own g14, .snil]]⟩)]⟩ => bif ctsEq g0 ([.int .i64]) && nmEq g1 ([0, 2]) && Nat.beq g2 0 && Nat.beq g3 0 && nmEq g4 ([0, 3]) && Nat.beq g5 0 && Nat.beq g6 0 && nmEq g7 ([0, 0, 3]) && ctsEq g8 ([.int .i64]) && nmEq g9 ([0, 1, 3]) && ctsEq g10 ([.int .i64]) && nmEq g11 ([0, 2]) && nmEq g12 ([0, 3]) && nmEq g13 ([0, 0, 3]) && nmEq g14 ([0, 1, 3]) then ro (runW (R46_0 t0 h0) (((t0.length : Int) - t4).toNat + 1) (.inr (t4, h1))) none (sumE (fun _ : Unit => k (.exit 0) ⟨[(2, AV.ptr [0, 2] 0 0), (3, AV.ptr [0, 3] 0 0)], [([0, 0, 3], ⟨false, [.int .i64], h0⟩), ([0, 2], ⟨true, [], [AV.agg [AV.snil, AV.snil, AV.snil]]⟩), ([0, 3], ⟨true, [], [AV.agg [AV.own [0, 0, 3], AV.snil, AV.snil]]⟩)]⟩) (fun p : (List AV) => k (.exit 0) ⟨[(2, AV.ptr [0, 2] 0 0), (3, AV.ptr [0, 3] 0 0)], [([0, 0, 3], ⟨false, [.int .i64], h0⟩), ([0, 1, 3], ⟨false, [.int .i64], p⟩), ([0, 2], ⟨true, [], [AV.agg [AV.snil, AV.snil, AV.snil]]⟩), ([0, 3], ⟨true, [], [AV.agg [AV.own [0, 0, 3], AV.own [0, 1, 3], AV.snil]]⟩)]⟩)) else none
  | _ => none
noncomputable def c46 : Cfg := cfg Try.prog [(46, 0, [0, 2, 3, 4]), (46, 999, [2]), (46, 1000, [2, 3]), (46, 1001, [0, 2, 3, 4])] [(47, m47)] [] [] [(46, 0, l46_0)]
theorem s46_0_s0 (ce : CallE) (t0 : List AV) (t4 : Int) (h0 : List AV) (next : St → Option AV) (k : Kont) : stepA (codeA c46 ce [] 46 0 (sub [1, 1, 1, 0, 1, 0, 0] (body Try.f46))) (normA [] [0, 2, 3, 4]) next ⟨[(0, AV.sl [.int .i64] t0), (2, AV.ptr [0, 2] 0 0), (3, AV.ptr [0, 3] 0 0), (4, AV.int .i64 t4)], [([0, 0, 3], ⟨false, [.int .i64], h0⟩), ([0, 2], ⟨true, [], [AV.agg [AV.snil, AV.snil, AV.snil]]⟩), ([0, 3], ⟨true, [], [AV.agg [AV.own [0, 0, 3], AV.snil, AV.snil]]⟩)]⟩ k = (bif decide (t4 < (t0.length : Int)) then (bif (decide ((([AV.int .i64 t4]).length) * 8 ≤ 140737488355328) && decide ((([AV.int .i64 t4]).length) ≤ 140737488355328)) then next ⟨[(0, AV.sl [.int .i64] t0), (2, AV.ptr [0, 2] 0 0), (3, AV.ptr [0, 3] 0 0), (4, AV.int .i64 (IntKind.i64.wrap (t4 + 1)))], [([0, 0, 3], ⟨false, [.int .i64], h0⟩), ([0, 1, 3], ⟨false, [.int .i64], [AV.int .i64 t4]⟩), ([0, 2], ⟨true, [], [AV.agg [AV.snil, AV.snil, AV.snil]]⟩), ([0, 3], ⟨true, [], [AV.agg [AV.own [0, 0, 3], AV.own [0, 1, 3], AV.snil]]⟩)]⟩
  else none)
  else k (.exit 0) ⟨[(2, AV.ptr [0, 2] 0 0), (3, AV.ptr [0, 3] 0 0)], [([0, 0, 3], ⟨false, [.int .i64], h0⟩), ([0, 2], ⟨true, [], [AV.agg [AV.snil, AV.snil, AV.snil]]⟩), ([0, 3], ⟨true, [], [AV.agg [AV.own [0, 0, 3], AV.snil, AV.snil]]⟩)]⟩) := by kernel_rfl
theorem s46_0_s1 (ce : CallE) (t0 : List AV) (t4 : Int) (h0 : List AV) (h1 : List AV) (next : St → Option AV) (k : Kont) : stepA (codeA c46 ce [] 46 0 (sub [1, 1, 1, 0, 1, 0, 0] (body Try.f46))) (normA [] [0, 2, 3, 4]) next ⟨[(0, AV.sl [.int .i64] t0), (2, AV.ptr [0, 2] 0 0), (3, AV.ptr [0, 3] 0 0), (4, AV.int .i64 t4)], [([0, 0, 3], ⟨false, [.int .i64], h0⟩), ([0, 1, 3], ⟨false, [.int .i64], h1⟩), ([0, 2], ⟨true, [], [AV.agg [AV.snil, AV.snil, AV.snil]]⟩), ([0, 3], ⟨true, [], [AV.agg [AV.own [0, 0, 3], AV.own [0, 1, 3], AV.snil]]⟩)]⟩ k = (bif decide (t4 < (t0.length : Int)) then (bif (decide ((h1.length + ([AV.int .i64 t4]).length) * 8 ≤ 140737488355328) && decide ((h1.length + ([AV.int .i64 t4]).length) ≤ 140737488355328)) then next ⟨[(0, AV.sl [.int .i64] t0), (2, AV.ptr [0, 2] 0 0), (3, AV.ptr [0, 3] 0 0), (4, AV.int .i64 (IntKind.i64.wrap (t4 + 1)))], [([0, 0, 3], ⟨false, [.int .i64], h0⟩), ([0, 1, 3], ⟨false, [.int .i64], h1 ++ ([AV.int .i64 t4])⟩), ([0, 2], ⟨true, [], [AV.agg [AV.snil, AV.snil, AV.snil]]⟩), ([0, 3], ⟨true, [], [AV.agg [AV.own [0, 0, 3], AV.own [0, 1, 3], AV.snil]]⟩)]⟩
  else none)
  else k (.exit 0) ⟨[(2, AV.ptr [0, 2] 0 0), (3, AV.ptr [0, 3] 0 0)], [([0, 0, 3], ⟨false, [.int .i64], h0⟩), ([0, 1, 3], ⟨false, [.int .i64], h1⟩), ([0, 2], ⟨true, [], [AV.agg [AV.snil, AV.snil, AV.snil]]⟩), ([0, 3], ⟨true, [], [AV.agg [AV.own [0, 0, 3], AV.own [0, 1, 3], AV.snil]]⟩)]⟩) := by kernel_rfl
theorem st46_0 (t0 : List AV) (h0 : List AV) (ce : CallE) (k : Kont) (s : Int ⊕ (Int × (List AV))) (next : St → Option AV) : stepA (codeA c46 ce [] 46 0 (sub [1, 1, 1, 0, 1, 0, 0] (body Try.f46))) (normA [] [0, 2, 3, 4]) next ((sumE (fun s : Int => ⟨[(0, AV.sl [.int .i64] t0), (2, AV.ptr [0, 2] 0 0), (3, AV.ptr [0, 3] 0 0), (4, AV.int .i64 s)], [([0, 0, 3], ⟨false, [.int .i64], h0⟩), ([0, 2], ⟨true, [], [AV.agg [AV.snil, AV.snil, AV.snil]]⟩), ([0, 3], ⟨true, [], [AV.agg [AV.own [0, 0, 3], AV.snil, AV.snil]]⟩)]⟩) (fun s : Int × (List AV) => ⟨[(0, AV.sl [.int .i64] t0), (2, AV.ptr [0, 2] 0 0), (3, AV.ptr [0, 3] 0 0), (4, AV.int .i64 s.1)], [([0, 0, 3], ⟨false, [.int .i64], h0⟩), ([0, 1, 3], ⟨false, [.int .i64], s.2⟩), ([0, 2], ⟨true, [], [AV.agg [AV.snil, AV.snil, AV.snil]]⟩), ([0, 3], ⟨true, [], [AV.agg [AV.own [0, 0, 3], AV.own [0, 1, 3], AV.snil]]⟩)]⟩)) s) k = (R46_0 t0 h0 s).el none (fun s => next ((sumE (fun s : Int => ⟨[(0, AV.sl [.int .i64] t0), (2, AV.ptr [0, 2] 0 0), (3, AV.ptr [0, 3] 0 0), (4, AV.int .i64 s)], [([0, 0, 3], ⟨false, [.int .i64], h0⟩), ([0, 2], ⟨true, [], [AV.agg [AV.snil, AV.snil, AV.snil]]⟩), ([0, 3], ⟨true, [], [AV.agg [AV.own [0, 0, 3], AV.snil, AV.snil]]⟩)]⟩) (fun s : Int × (List AV) => ⟨[(0, AV.sl [.int .i64] t0), (2, AV.ptr [0, 2] 0 0), (3, AV.ptr [0, 3] 0 0), (4, AV.int .i64 s.1)], [([0, 0, 3], ⟨false, [.int .i64], h0⟩), ([0, 1, 3], ⟨false, [.int .i64], s.2⟩), ([0, 2], ⟨true, [], [AV.agg [AV.snil, AV.snil, AV.snil]]⟩), ([0, 3], ⟨true, [], [AV.agg [AV.own [0, 0, 3], AV.own [0, 1, 3], AV.snil]]⟩)]⟩)) s)) (sumE (fun _ : Unit => k (.exit 0) ⟨[(2, AV.ptr [0, 2] 0 0), (3, AV.ptr [0, 3] 0 0)], [([0, 0, 3], ⟨false, [.int .i64], h0⟩), ([0, 2], ⟨true, [], [AV.agg [AV.snil, AV.snil, AV.snil]]⟩), ([0, 3], ⟨true, [], [AV.agg [AV.own [0, 0, 3], AV.snil, AV.snil]]⟩)]⟩) (fun p : (List AV) => k (.exit 0) ⟨[(2, AV.ptr [0, 2] 0 0), (3, AV.ptr [0, 3] 0 0)], [([0, 0, 3], ⟨false, [.int .i64], h0⟩), ([0, 1, 3], ⟨false, [.int .i64], p⟩), ([0, 2], ⟨true, [], [AV.agg [AV.snil, AV.snil, AV.snil]]⟩), ([0, 3], ⟨true, [], [AV.agg [AV.own [0, 0, 3], AV.own [0, 1, 3], AV.snil]]⟩)]⟩)) := (match s with | .inl s => (s46_0_s0 ce t0 s h0 next k).trans (by unfold R46_0; unfold F46_0_s0; simp only [el_cond, el_ro, el_sum, el_fail, el_next, el_stop] <;> rfl) | .inr s => (s46_0_s1 ce t0 s.1 h0 s.2 next k).trans (by unfold R46_0; unfold F46_0_s1; simp only [el_cond, el_ro, el_sum, el_fail, el_next, el_stop] <;> rfl))
theorem ok46_0 {ce : CallE} : LoopOK c46 ce [] 46 0 (sub [1, 1, 1, 0, 1, 0, 0] (body Try.f46)) := by
  intro m hm st k r h
  obtain rfl : l46_0 = m := Option.some.inj hm
  unfold l46_0 at h
  split at h
  · rename_i g0 t0 g1 g2 g3 g4 g5 g6 t4 g7 g8 h0 g9 g10 g11
    obtain ⟨hg, h⟩ := bif_some h
    simp only [Bool.and_eq_true] at hg
    obtain ⟨⟨⟨⟨⟨⟨⟨⟨⟨⟨⟨q0, q1⟩, q2⟩, q3⟩, q4⟩, q5⟩, q6⟩, q7⟩, q8⟩, q9⟩, q10⟩, q11⟩ := hg
    obtain rfl := ctsEq_eq _ _ q0
    obtain rfl := (nmEq_iff _ _).1 q1
    obtain rfl := Nat.eq_of_beq_eq_true q2
    obtain rfl := Nat.eq_of_beq_eq_true q3
    obtain rfl := (nmEq_iff _ _).1 q4
    obtain rfl := Nat.eq_of_beq_eq_true q5
    obtain rfl := Nat.eq_of_beq_eq_true q6
    obtain rfl := (nmEq_iff _ _).1 q7
    obtain rfl := ctsEq_eq _ _ q8
    obtain rfl := (nmEq_iff _ _).1 q9
    obtain rfl := (nmEq_iff _ _).1 q10
    obtain rfl := (nmEq_iff _ _).1 q11
    refine ⟨(((t0.length : Int) - t4).toNat + 1), ?_⟩
    rw [← h]
    exact loop_run (sumE (fun s : Int => ⟨[(0, AV.sl [.int .i64] t0), (2, AV.ptr [0, 2] 0 0), (3, AV.ptr [0, 3] 0 0), (4, AV.int .i64 s)], [([0, 0, 3], ⟨false, [.int .i64], h0⟩), ([0, 2], ⟨true, [], [AV.agg [AV.snil, AV.snil, AV.snil]]⟩), ([0, 3], ⟨true, [], [AV.agg [AV.own [0, 0, 3], AV.snil, AV.snil]]⟩)]⟩) (fun s : Int × (List AV) => ⟨[(0, AV.sl [.int .i64] t0), (2, AV.ptr [0, 2] 0 0), (3, AV.ptr [0, 3] 0 0), (4, AV.int .i64 s.1)], [([0, 0, 3], ⟨false, [.int .i64], h0⟩), ([0, 1, 3], ⟨false, [.int .i64], s.2⟩), ([0, 2], ⟨true, [], [AV.agg [AV.snil, AV.snil, AV.snil]]⟩), ([0, 3], ⟨true, [], [AV.agg [AV.own [0, 0, 3], AV.own [0, 1, 3], AV.snil]]⟩)]⟩)) (sumE (fun _ : Unit => k (.exit 0) ⟨[(2, AV.ptr [0, 2] 0 0), (3, AV.ptr [0, 3] 0 0)], [([0, 0, 3], ⟨false, [.int .i64], h0⟩), ([0, 2], ⟨true, [], [AV.agg [AV.snil, AV.snil, AV.snil]]⟩), ([0, 3], ⟨true, [], [AV.agg [AV.own [0, 0, 3], AV.snil, AV.snil]]⟩)]⟩) (fun p : (List AV) => k (.exit 0) ⟨[(2, AV.ptr [0, 2] 0 0), (3, AV.ptr [0, 3] 0 0)], [([0, 0, 3], ⟨false, [.int .i64], h0⟩), ([0, 1, 3], ⟨false, [.int .i64], p⟩), ([0, 2], ⟨true, [], [AV.agg [AV.snil, AV.snil, AV.snil]]⟩), ([0, 3], ⟨true, [], [AV.agg [AV.own [0, 0, 3], AV.own [0, 1, 3], AV.snil]]⟩)]⟩)) (st46_0 t0 h0 ce k) _ (.inl t4)
  · rename_i g0 t0 g1 g2 g3 g4 g5 g6 t4 g7 g8 h0 g9 g10 h1 g11 g12 g13 g14
    obtain ⟨hg, h⟩ := bif_some h
    simp only [Bool.and_eq_true] at hg
    obtain ⟨⟨⟨⟨⟨⟨⟨⟨⟨⟨⟨⟨⟨⟨q0, q1⟩, q2⟩, q3⟩, q4⟩, q5⟩, q6⟩, q7⟩, q8⟩, q9⟩, q10⟩, q11⟩, q12⟩, q13⟩, q14⟩ := hg
    obtain rfl := ctsEq_eq _ _ q0
    obtain rfl := (nmEq_iff _ _).1 q1
    obtain rfl := Nat.eq_of_beq_eq_true q2
    obtain rfl := Nat.eq_of_beq_eq_true q3
    obtain rfl := (nmEq_iff _ _).1 q4
    obtain rfl := Nat.eq_of_beq_eq_true q5
    obtain rfl := Nat.eq_of_beq_eq_true q6
    obtain rfl := (nmEq_iff _ _).1 q7
    obtain rfl := ctsEq_eq _ _ q8
    obtain rfl := (nmEq_iff _ _).1 q9
    obtain rfl := ctsEq_eq _ _ q10
    obtain rfl := (nmEq_iff _ _).1 q11
    obtain rfl := (nmEq_iff _ _).1 q12
    obtain rfl := (nmEq_iff _ _).1 q13
    obtain rfl := (nmEq_iff _ _).1 q14
    refine ⟨(((t0.length : Int) - t4).toNat + 1), ?_⟩
    rw [← h]
    exact loop_run (sumE (fun s : Int => ⟨[(0, AV.sl [.int .i64] t0), (2, AV.ptr [0, 2] 0 0), (3, AV.ptr [0, 3] 0 0), (4, AV.int .i64 s)], [([0, 0, 3], ⟨false, [.int .i64], h0⟩), ([0, 2], ⟨true, [], [AV.agg [AV.snil, AV.snil, AV.snil]]⟩), ([0, 3], ⟨true, [], [AV.agg [AV.own [0, 0, 3], AV.snil, AV.snil]]⟩)]⟩) (fun s : Int × (List AV) => ⟨[(0, AV.sl [.int .i64] t0), (2, AV.ptr [0, 2] 0 0), (3, AV.ptr [0, 3] 0 0), (4, AV.int .i64 s.1)], [([0, 0, 3], ⟨false, [.int .i64], h0⟩), ([0, 1, 3], ⟨false, [.int .i64], s.2⟩), ([0, 2], ⟨true, [], [AV.agg [AV.snil, AV.snil, AV.snil]]⟩), ([0, 3], ⟨true, [], [AV.agg [AV.own [0, 0, 3], AV.own [0, 1, 3], AV.snil]]⟩)]⟩)) (sumE (fun _ : Unit => k (.exit 0) ⟨[(2, AV.ptr [0, 2] 0 0), (3, AV.ptr [0, 3] 0 0)], [([0, 0, 3], ⟨false, [.int .i64], h0⟩), ([0, 2], ⟨true, [], [AV.agg [AV.snil, AV.snil, AV.snil]]⟩), ([0, 3], ⟨true, [], [AV.agg [AV.own [0, 0, 3], AV.snil, AV.snil]]⟩)]⟩) (fun p : (List AV) => k (.exit 0) ⟨[(2, AV.ptr [0, 2] 0 0), (3, AV.ptr [0, 3] 0 0)], [([0, 0, 3], ⟨false, [.int .i64], h0⟩), ([0, 1, 3], ⟨false, [.int .i64], p⟩), ([0, 2], ⟨true, [], [AV.agg [AV.snil, AV.snil, AV.snil]]⟩), ([0, 3], ⟨true, [], [AV.agg [AV.own [0, 0, 3], AV.own [0, 1, 3], AV.snil]]⟩)]⟩)) (st46_0 t0 h0 ce k) _ (.inr (t4, h1))
  · cases h
def q46 (a0 : List AV) : Bool := (q47 a0 && (bif !(v47_0 a0) then true else ((decide ((([] : List AV).length + a0.length) * 8 ≤ 140737488355328) && decide ((([] : List AV).length + a0.length) ≤ 140737488355328)) && (ro (runW (R46_0 a0 (([] : List AV) ++ a0)) (((a0.length : Int) - 0).toNat + 1) (.inl 0)) false (sumE (fun _ => true) (fun p6 => true))))))
def v46_0 (a0 : List AV) : List AV := (bif !(v47_0 a0) then ([] : List AV) else ([] : List AV) ++ a0)
def v46_1 (a0 : List AV) : List AV := (bif !(v47_0 a0) then ([] : List AV) else (ro (runW (R46_0 a0 (([] : List AV) ++ a0)) (((a0.length : Int) - 0).toNat + 1) (.inl 0)) [] (sumE (fun _ => ([] : List AV)) (fun p6 => p6))))
def v46_2 (a0 : List AV) : List AV := ([] : List AV)
theorem e46 (a0 : List AV) : funA c46 0 46 [AV.sl [.int .i64] a0] = (bif q47 a0 then (bif !(v47_0 a0) then some (AV.agg [AV.fl [.int .i64] ([] : List AV), AV.fl [.int .i64] ([] : List AV), AV.fl [.int .i64, .int .i64] ([] : List AV)])
  else (bif (decide ((([] : List AV).length + a0.length) * 8 ≤ 140737488355328) && decide ((([] : List AV).length + a0.length) ≤ 140737488355328)) then (ro (runW (R46_0 a0 (([] : List AV) ++ a0)) (((a0.length : Int) - 0).toNat + 1) (.inl 0)) none (sumE (fun _ => some (AV.agg [AV.fl [.int .i64] (([] : List AV) ++ a0), AV.fl [.int .i64] ([] : List AV), AV.fl [.int .i64, .int .i64] ([] : List AV)])) (fun p6 => some (AV.agg [AV.fl [.int .i64] (([] : List AV) ++ a0), AV.fl [.int .i64] p6, AV.fl [.int .i64, .int .i64] ([] : List AV)]))))
  else none))
  else none) := by kernel_rfl
theorem r46 (a0 : List AV) (h : q46 a0 = true) : funA c46 0 46 [AV.sl [.int .i64] a0] = some (AV.agg [AV.fl [.int .i64] (v46_0 a0), AV.fl [.int .i64] (v46_1 a0), AV.fl [.int .i64, .int .i64] (v46_2 a0)]) := (e46 a0).trans ((brL (br (fun b => some (AV.agg [AV.fl [.int .i64] (bif b then ([] : List AV) else ([] : List AV) ++ a0), AV.fl [.int .i64] (bif b then ([] : List AV) else (ro (runW (R46_0 a0 (([] : List AV) ++ a0)) (((a0.length : Int) - 0).toNat + 1) (.inl 0)) [] (sumE (fun _ => ([] : List AV)) (fun p6 => p6)))), AV.fl [.int .i64, .int .i64] ([] : List AV)])) (fun _ => rfl) (brL (brO (fun o : Option (Unit ⊕ ((List AV))) => some (AV.agg [AV.fl [.int .i64] (([] : List AV) ++ a0), AV.fl [.int .i64] (ro o [] (sumE (fun _ => ([] : List AV)) (fun p6 => p6))), AV.fl [.int .i64, .int .i64] ([] : List AV)])) (brS (fun o : Unit ⊕ ((List AV)) => some (AV.agg [AV.fl [.int .i64] (([] : List AV) ++ a0), AV.fl [.int .i64] ((sumE (fun _ => ([] : List AV)) (fun p6 => p6)) o), AV.fl [.int .i64, .int .i64] ([] : List AV)])) (fun _ => (fun _ => rfl)) (fun p6 => (fun _ => rfl))))))) h)
def m46 : TModel
  | [.sl g0 a0] => bif ctsEq g0 ([.int .i64]) then some (q46 a0, AV.agg [AV.fl [.int .i64] (v46_0 a0), AV.fl [.int .i64] (v46_1 a0), AV.fl [.int .i64, .int .i64] (v46_2 a0)]) else none
  | _ => none
theorem k46 : Known Try.prog 46 := ⟨Try.f46, Try.func46, by kernel_rfl, by kernel_rfl⟩
theorem meets46 : Meets Try.prog 46 m46 := by
  refine meet (f := Try.f46) (l := [(0, sub [1, 1, 1, 0, 1, 0, 0] (body Try.f46))]) (hs := [(46, 0, [0, 2, 3, 4]), (46, 999, [2]), (46, 1000, [2, 3]), (46, 1001, [0, 2, 3, 4])]) (ts := [(47, m47)]) (ws := []) (is := []) (ls := [(46, 0, l46_0)]) (lvl := 0) mixed k46 Try.func46 (by kernel_rfl) (loops_cons ok46_0 noLoop) (allT_cons meets47 allT_nil) allM_nil noI fun w xs us r hl hv h => ?_
  unfold m46 at h
  split at h
  · rename_i g0 a0
    obtain ⟨hg, h⟩ := bif_pair h
    have q0 := hg
    obtain rfl := ctsEq_eq _ _ q0
    obtain ⟨h1, rfl⟩ := pair_inj h
    exact r46 a0 h1
  · cases h

/-! ### 49 loop.example/g01984/spec.l4Has -/
def F49_0 (t0 : List AV) (t1 : Int) (t5 : Int) : Out (Int) (Unit ⊕ Unit) := (bif decide (t5 < (t0.length : Int)) then (bif (decide (0 ≤ t5) && decide (t5 < (t0.length : Int))) then (bif decide (fI (t0.getD t5.toNat .undef) 0 = t1) then .stop (.inr ())
  else .next (IntKind.i64.wrap (t5 + 1)))
  else .fail)
  else .stop (.inl ()))
def R49_0 (t0 : List AV) (t1 : Int) : (Int) → Out (Int) (Unit ⊕ Unit) := fun s : Int => F49_0 t0 t1 s
def l49_0 : LModel := fun _ _ st k => match st with
  | ⟨[(0, .sl g0 t0), (1, .int .i64 t1), (5, .int .i64 t5)], []⟩ => bif ctsEq g0 ([.int .i64]) then ro (runW (R49_0 t0 t1) (((t0.length : Int) - t5).toNat + 1) t5) none (sumE (fun _ : Unit => k (.exit 0) ⟨[], []⟩) (fun _ : Unit => k .ret ⟨[(4, AV.bool true)], []⟩)) else none
  | _ => none
noncomputable def c49 : Cfg := cfg Try.prog [(49, 0, [0, 1, 5]), (49, 999, [4]), (49, 1000, []), (49, 1001, [0, 1, 5])] [] [] [] [(49, 0, l49_0)]
theorem s49_0 (ce : CallE) (t0 : List AV) (t1 : Int) (t5 : Int) (next : St → Option AV) (k : Kont) : stepA (codeA c49 ce [] 49 0 (sub [1, 0, 1, 0, 0] (body Try.f49))) (normA [] [0, 1, 5]) next ⟨[(0, AV.sl [.int .i64] t0), (1, AV.int .i64 t1), (5, AV.int .i64 t5)], []⟩ k = (bif decide (t5 < (t0.length : Int)) then (bif (decide (0 ≤ t5) && decide (t5 < (t0.length : Int))) then (bif decide (fI (t0.getD t5.toNat .undef) 0 = t1) then k .ret ⟨[(4, AV.bool true)], []⟩
  else next ⟨[(0, AV.sl [.int .i64] t0), (1, AV.int .i64 t1), (5, AV.int .i64 (IntKind.i64.wrap (t5 + 1)))], []⟩)
  else none)
  else k (.exit 0) ⟨[], []⟩) := by kernel_rfl
theorem st49_0 (t0 : List AV) (t1 : Int) (ce : CallE) (k : Kont) (s : Int) (next : St → Option AV) : stepA (codeA c49 ce [] 49 0 (sub [1, 0, 1, 0, 0] (body Try.f49))) (normA [] [0, 1, 5]) next ((fun s : Int => ⟨[(0, AV.sl [.int .i64] t0), (1, AV.int .i64 t1), (5, AV.int .i64 s)], []⟩) s) k = (R49_0 t0 t1 s).el none (fun s => next ((fun s : Int => ⟨[(0, AV.sl [.int .i64] t0), (1, AV.int .i64 t1), (5, AV.int .i64 s)], []⟩) s)) (sumE (fun _ : Unit => k (.exit 0) ⟨[], []⟩) (fun _ : Unit => k .ret ⟨[(4, AV.bool true)], []⟩)) := (s49_0 ce t0 t1 s next k).trans (by unfold R49_0; unfold F49_0; simp only [el_cond, el_ro, el_sum, el_fail, el_next, el_stop] <;> rfl)
theorem ok49_0 {ce : CallE} : LoopOK c49 ce [] 49 0 (sub [1, 0, 1, 0, 0] (body Try.f49)) := by
  intro m hm st k r h
  obtain rfl : l49_0 = m := Option.some.inj hm
  unfold l49_0 at h
  split at h
  · rename_i g0 t0 t1 t5
    obtain ⟨hg, h⟩ := bif_some h
    have q0 := hg
    obtain rfl := ctsEq_eq _ _ q0
    refine ⟨(((t0.length : Int) - t5).toNat + 1), ?_⟩
    rw [← h]
    exact loop_run (fun s : Int => ⟨[(0, AV.sl [.int .i64] t0), (1, AV.int .i64 t1), (5, AV.int .i64 s)], []⟩) (sumE (fun _ : Unit => k (.exit 0) ⟨[], []⟩) (fun _ : Unit => k .ret ⟨[(4, AV.bool true)], []⟩)) (st49_0 t0 t1 ce k) _ t5
  · cases h
def q49 (a0 : List AV) (a1 : Int) : Bool := (ro (runW (R49_0 a0 a1) (((a0.length : Int) - 0).toNat + 1) 0) false (sumE (fun _ => true) (fun _ => true)))
def v49_0 (a0 : List AV) (a1 : Int) : Bool := (ro (runW (R49_0 a0 a1) (((a0.length : Int) - 0).toNat + 1) 0) false (sumE (fun _ => false) (fun _ => true)))
theorem e49 (a0 : List AV) (a1 : Int) : funA c49 0 49 [AV.sl [.int .i64] a0, AV.int .i64 a1] = (ro (runW (R49_0 a0 a1) (((a0.length : Int) - 0).toNat + 1) 0) none (sumE (fun _ => some (AV.bool false)) (fun _ => some (AV.bool true)))) := by kernel_rfl
theorem r49 (a0 : List AV) (a1 : Int) (h : q49 a0 a1 = true) : funA c49 0 49 [AV.sl [.int .i64] a0, AV.int .i64 a1] = some (AV.bool (v49_0 a0 a1)) := (e49 a0 a1).trans ((brO (fun o : Option (Unit ⊕ Unit) => some (AV.bool (ro o false (sumE (fun _ => false) (fun _ => true))))) (brS (fun o : Unit ⊕ Unit => some (AV.bool ((sumE (fun _ => false) (fun _ => true)) o))) (fun _ => (fun _ => rfl)) (fun _ => (fun _ => rfl)))) h)
def m49 : TModel
  | [.sl g0 a0, .int .i64 a1] => bif ctsEq g0 ([.int .i64]) then some (q49 a0 a1, AV.bool (v49_0 a0 a1)) else none
  | _ => none
theorem k49 : Known Try.prog 49 := ⟨Try.f49, Try.func49, by kernel_rfl, by kernel_rfl⟩
theorem meets49 : Meets Try.prog 49 m49 := by
  refine meet (f := Try.f49) (l := [(0, sub [1, 0, 1, 0, 0] (body Try.f49))]) (hs := [(49, 0, [0, 1, 5]), (49, 999, [4]), (49, 1000, []), (49, 1001, [0, 1, 5])]) (ts := []) (ws := []) (is := []) (ls := [(49, 0, l49_0)]) (lvl := 0) mixed k49 Try.func49 (by kernel_rfl) (loops_cons ok49_0 noLoop) allT_nil allM_nil noI fun w xs us r hl hv h => ?_
  unfold m49 at h
  split at h
  · rename_i g0 a0 a1
    obtain ⟨hg, h⟩ := bif_pair h
    have q0 := hg
    obtain rfl := ctsEq_eq _ _ q0
    obtain ⟨h1, rfl⟩ := pair_inj h
    exact r49 a0 a1 h1
  · cases h

/-! ### 50 loop.example/g01984/spec.l4Pivots -/
def F50_2 (t0 : List AV) (t1 : List AV) (t5 : Int) (h0_0 : Int) (h0_1 : Int) (t7 : Int) : Out (Int) (Unit ⊕ Unit) := (bif decide (t7 < (t0.length : Int)) then (bif (decide (0 ≤ t7) && decide (t7 < (t0.length : Int))) then (bif !(decide (fI (t0.getD t7.toNat .undef) 0 < h0_0) == decide (t7 < h0_1)) then .stop (.inr ())
  else .next (IntKind.i64.wrap (t7 + 1)))
  else .fail)
  else .stop (.inl ()))
def R50_2 (t0 : List AV) (t1 : List AV) (t5 : Int) (h0_0 : Int) (h0_1 : Int) : (Int) → Out (Int) (Unit ⊕ Unit) := fun s : Int => F50_2 t0 t1 t5 h0_0 h0_1 s
def l50_2 : LModel := fun _ _ st k => match st with
  | ⟨[(0, .sl g0 t0), (1, .sl g1 t1), (5, .int .i64 t5), (6, .ptr g2 g3 g4), (7, .int .i64 t7)], [(g5, ⟨true, [], [.agg [.int .i64 h0_0, .int .i64 h0_1]]⟩)]⟩ => bif ctsEq g0 ([.int .i64]) && ctsEq g1 ([.int .i64, .int .i64]) && nmEq g2 ([0, 6]) && Nat.beq g3 0 && Nat.beq g4 0 && nmEq g5 ([0, 6]) then ro (runW (R50_2 t0 t1 t5 h0_0 h0_1) (((t0.length : Int) - t7).toNat + 1) t7) none (sumE (fun _ : Unit => k (.exit 2) ⟨[(0, AV.sl [.int .i64] t0), (1, AV.sl [.int .i64, .int .i64] t1), (5, AV.int .i64 t5)], [([0, 6], ⟨true, [], [AV.agg [AV.int .i64 h0_0, AV.int .i64 h0_1]]⟩)]⟩) (fun _ : Unit => k .ret ⟨[(4, AV.bool false)], [([0, 6], ⟨true, [], [AV.agg [AV.int .i64 h0_0, AV.int .i64 h0_1]]⟩)]⟩)) else none
  | _ => none
def F50_0 (t0 : List AV) (t1 : List AV) (t5 : Int) : Out (Int) (Unit ⊕ (Int × Int) ⊕ (Int × Int)) := (bif decide (t5 < (t1.length : Int)) then (bif (decide (0 ≤ t5) && decide (t5 < (t1.length : Int))) then (bif !(v28_0 (fI (t1.getD t5.toNat .undef) 0) (-1000) 1000) then .stop (.inr (.inl (fI (t1.getD t5.toNat .undef) 0, fI (t1.getD t5.toNat .undef) 1)))
  else (bif !(v28_0 (fI (t1.getD t5.toNat .undef) 1) 0 (t0.length : Int)) then .stop (.inr (.inl (fI (t1.getD t5.toNat .undef) 0, fI (t1.getD t5.toNat .undef) 1)))
  else (bif decide (t5 > 0) then (bif (decide (0 ≤ IntKind.i64.wrap (t5 - 1)) && decide (IntKind.i64.wrap (t5 - 1) < (t1.length : Int))) then (bif decide (fI (t1.getD t5.toNat .undef) 0 ≤ fI (t1.getD (IntKind.i64.wrap (t5 - 1)).toNat .undef) 0) then .stop (.inr (.inl (fI (t1.getD t5.toNat .undef) 0, fI (t1.getD t5.toNat .undef) 1)))
  else (bif (decide (0 ≤ IntKind.i64.wrap (t5 - 1)) && decide (IntKind.i64.wrap (t5 - 1) < (t1.length : Int))) then (bif decide (fI (t1.getD t5.toNat .undef) 1 < fI (t1.getD (IntKind.i64.wrap (t5 - 1)).toNat .undef) 1) then .stop (.inr (.inl (fI (t1.getD t5.toNat .undef) 0, fI (t1.getD t5.toNat .undef) 1)))
  else (ro (runW (R50_2 t0 t1 t5 (fI (t1.getD t5.toNat .undef) 0) (fI (t1.getD t5.toNat .undef) 1)) (((t0.length : Int) - 0).toNat + 1) 0) .fail (sumE (fun _ => .next (IntKind.i64.wrap (t5 + 1))) (fun _ => .stop (.inr (.inr (fI (t1.getD t5.toNat .undef) 0, fI (t1.getD t5.toNat .undef) 1)))))))
  else .fail))
  else .fail)
  else (ro (runW (R50_2 t0 t1 t5 (fI (t1.getD t5.toNat .undef) 0) (fI (t1.getD t5.toNat .undef) 1)) (((t0.length : Int) - 0).toNat + 1) 0) .fail (sumE (fun _ => .next (IntKind.i64.wrap (t5 + 1))) (fun _ => .stop (.inr (.inr (fI (t1.getD t5.toNat .undef) 0, fI (t1.getD t5.toNat .undef) 1)))))))))
  else .fail)
  else .stop (.inl ()))
def R50_0 (t0 : List AV) (t1 : List AV) : (Int) → Out (Int) (Unit ⊕ (Int × Int) ⊕ (Int × Int)) := fun s : Int => F50_0 t0 t1 s
def l50_0 : LModel := fun _ _ st k => match st with
  | ⟨[(0, .sl g0 t0), (1, .sl g1 t1), (5, .int .i64 t5)], []⟩ => bif ctsEq g0 ([.int .i64]) && ctsEq g1 ([.int .i64, .int .i64]) then ro (runW (R50_0 t0 t1) (((t1.length : Int) - t5).toNat + 1) t5) none (sumE (fun _ : Unit => k (.exit 0) ⟨[], []⟩) (sumE (fun p : Int × Int => k .ret ⟨[(4, AV.bool false)], [([1, 6], ⟨true, [], [AV.agg [AV.int .i64 p.1, AV.int .i64 p.2]]⟩)]⟩) (fun p : Int × Int => k .ret ⟨[(4, AV.bool false)], [([0, 6], ⟨true, [], [AV.agg [AV.int .i64 p.1, AV.int .i64 p.2]]⟩)]⟩))) else none
  | _ => none
noncomputable def c50 : Cfg := cfg Try.prog [(50, 0, [0, 1, 5]), (50, 2, [0, 1, 5, 6, 7]), (50, 999, [4]), (50, 1000, []), (50, 1001, [0, 1, 5]), (50, 1002, [0, 1, 5]), (50, 1003, [0, 1, 5, 6, 7])] [(28, m28)] [] [] [(50, 0, l50_0), (50, 2, l50_2)]
theorem s50_2 (ce : CallE) (t0 : List AV) (t1 : List AV) (t5 : Int) (t7 : Int) (h0_0 : Int) (h0_1 : Int) (next : St → Option AV) (k : Kont) : stepA (codeA c50 ce [] 50 2 (sub [1, 0, 1, 0, 0, 1, 0, 0, 1, 1, 1, 0, 0] (body Try.f50))) (normA [] [0, 1, 5, 6, 7]) next ⟨[(0, AV.sl [.int .i64] t0), (1, AV.sl [.int .i64, .int .i64] t1), (5, AV.int .i64 t5), (6, AV.ptr [0, 6] 0 0), (7, AV.int .i64 t7)], [([0, 6], ⟨true, [], [AV.agg [AV.int .i64 h0_0, AV.int .i64 h0_1]]⟩)]⟩ k = (bif decide (t7 < (t0.length : Int)) then (bif (decide (0 ≤ t7) && decide (t7 < (t0.length : Int))) then (bif !(decide (fI (t0.getD t7.toNat .undef) 0 < h0_0) == decide (t7 < h0_1)) then k .ret ⟨[(4, AV.bool false)], [([0, 6], ⟨true, [], [AV.agg [AV.int .i64 h0_0, AV.int .i64 h0_1]]⟩)]⟩
  else next ⟨[(0, AV.sl [.int .i64] t0), (1, AV.sl [.int .i64, .int .i64] t1), (5, AV.int .i64 t5), (6, AV.ptr [0, 6] 0 0), (7, AV.int .i64 (IntKind.i64.wrap (t7 + 1)))], [([0, 6], ⟨true, [], [AV.agg [AV.int .i64 h0_0, AV.int .i64 h0_1]]⟩)]⟩)
  else none)
  else k (.exit 2) ⟨[(0, AV.sl [.int .i64] t0), (1, AV.sl [.int .i64, .int .i64] t1), (5, AV.int .i64 t5)], [([0, 6], ⟨true, [], [AV.agg [AV.int .i64 h0_0, AV.int .i64 h0_1]]⟩)]⟩) := by kernel_rfl
theorem st50_2 (t0 : List AV) (t1 : List AV) (t5 : Int) (h0_0 : Int) (h0_1 : Int) (ce : CallE) (k : Kont) (s : Int) (next : St → Option AV) : stepA (codeA c50 ce [] 50 2 (sub [1, 0, 1, 0, 0, 1, 0, 0, 1, 1, 1, 0, 0] (body Try.f50))) (normA [] [0, 1, 5, 6, 7]) next ((fun s : Int => ⟨[(0, AV.sl [.int .i64] t0), (1, AV.sl [.int .i64, .int .i64] t1), (5, AV.int .i64 t5), (6, AV.ptr [0, 6] 0 0), (7, AV.int .i64 s)], [([0, 6], ⟨true, [], [AV.agg [AV.int .i64 h0_0, AV.int .i64 h0_1]]⟩)]⟩) s) k = (R50_2 t0 t1 t5 h0_0 h0_1 s).el none (fun s => next ((fun s : Int => ⟨[(0, AV.sl [.int .i64] t0), (1, AV.sl [.int .i64, .int .i64] t1), (5, AV.int .i64 t5), (6, AV.ptr [0, 6] 0 0), (7, AV.int .i64 s)], [([0, 6], ⟨true, [], [AV.agg [AV.int .i64 h0_0, AV.int .i64 h0_1]]⟩)]⟩) s)) (sumE (fun _ : Unit => k (.exit 2) ⟨[(0, AV.sl [.int .i64] t0), (1, AV.sl [.int .i64, .int .i64] t1), (5, AV.int .i64 t5)], [([0, 6], ⟨true, [], [AV.agg [AV.int .i64 h0_0, AV.int .i64 h0_1]]⟩)]⟩) (fun _ : Unit => k .ret ⟨[(4, AV.bool false)], [([0, 6], ⟨true, [], [AV.agg [AV.int .i64 h0_0, AV.int .i64 h0_1]]⟩)]⟩)) := (s50_2 ce t0 t1 t5 s h0_0 h0_1 next k).trans (by unfold R50_2; unfold F50_2; simp only [el_cond, el_ro, el_sum, el_fail, el_next, el_stop] <;> rfl)
theorem ok50_2 {ce : CallE} : LoopOK c50 ce [] 50 2 (sub [1, 0, 1, 0, 0, 1, 0, 0, 1, 1, 1, 0, 0] (body Try.f50)) := by
  intro m hm st k r h
  obtain rfl : l50_2 = m := Option.some.inj hm
  unfold l50_2 at h
  split at h
  · rename_i g0 t0 g1 t1 t5 g2 g3 g4 t7 g5 h0_0 h0_1
    obtain ⟨hg, h⟩ := bif_some h
    simp only [Bool.and_eq_true] at hg
    obtain ⟨⟨⟨⟨⟨q0, q1⟩, q2⟩, q3⟩, q4⟩, q5⟩ := hg
    obtain rfl := ctsEq_eq _ _ q0
    obtain rfl := ctsEq_eq _ _ q1
    obtain rfl := (nmEq_iff _ _).1 q2
    obtain rfl := Nat.eq_of_beq_eq_true q3
    obtain rfl := Nat.eq_of_beq_eq_true q4
    obtain rfl := (nmEq_iff _ _).1 q5
    refine ⟨(((t0.length : Int) - t7).toNat + 1), ?_⟩
    rw [← h]
    exact loop_run (fun s : Int => ⟨[(0, AV.sl [.int .i64] t0), (1, AV.sl [.int .i64, .int .i64] t1), (5, AV.int .i64 t5), (6, AV.ptr [0, 6] 0 0), (7, AV.int .i64 s)], [([0, 6], ⟨true, [], [AV.agg [AV.int .i64 h0_0, AV.int .i64 h0_1]]⟩)]⟩) (sumE (fun _ : Unit => k (.exit 2) ⟨[(0, AV.sl [.int .i64] t0), (1, AV.sl [.int .i64, .int .i64] t1), (5, AV.int .i64 t5)], [([0, 6], ⟨true, [], [AV.agg [AV.int .i64 h0_0, AV.int .i64 h0_1]]⟩)]⟩) (fun _ : Unit => k .ret ⟨[(4, AV.bool false)], [([0, 6], ⟨true, [], [AV.agg [AV.int .i64 h0_0, AV.int .i64 h0_1]]⟩)]⟩)) (st50_2 t0 t1 t5 h0_0 h0_1 ce k) _ t7
  · cases h
theorem s50_0 (ce : CallE) (t0 : List AV) (t1 : List AV) (t5 : Int) (next : St → Option AV) (k : Kont) : stepA (codeA c50 ce [] 50 0 (sub [1, 0, 1, 0, 0] (body Try.f50))) (normA [] [0, 1, 5]) next ⟨[(0, AV.sl [.int .i64] t0), (1, AV.sl [.int .i64, .int .i64] t1), (5, AV.int .i64 t5)], []⟩ k = (bif decide (t5 < (t1.length : Int)) then (bif (decide (0 ≤ t5) && decide (t5 < (t1.length : Int))) then (bif !(v28_0 (fI (t1.getD t5.toNat .undef) 0) (-1000) 1000) then k .ret ⟨[(4, AV.bool false)], [([1, 6], ⟨true, [], [AV.agg [AV.int .i64 (fI (t1.getD t5.toNat .undef) 0), AV.int .i64 (fI (t1.getD t5.toNat .undef) 1)]]⟩)]⟩
  else (bif !(v28_0 (fI (t1.getD t5.toNat .undef) 1) 0 (t0.length : Int)) then k .ret ⟨[(4, AV.bool false)], [([1, 6], ⟨true, [], [AV.agg [AV.int .i64 (fI (t1.getD t5.toNat .undef) 0), AV.int .i64 (fI (t1.getD t5.toNat .undef) 1)]]⟩)]⟩
  else (bif decide (t5 > 0) then (bif (decide (0 ≤ IntKind.i64.wrap (t5 - 1)) && decide (IntKind.i64.wrap (t5 - 1) < (t1.length : Int))) then (bif decide (fI (t1.getD t5.toNat .undef) 0 ≤ fI (t1.getD (IntKind.i64.wrap (t5 - 1)).toNat .undef) 0) then k .ret ⟨[(4, AV.bool false)], [([1, 6], ⟨true, [], [AV.agg [AV.int .i64 (fI (t1.getD t5.toNat .undef) 0), AV.int .i64 (fI (t1.getD t5.toNat .undef) 1)]]⟩)]⟩
  else (bif (decide (0 ≤ IntKind.i64.wrap (t5 - 1)) && decide (IntKind.i64.wrap (t5 - 1) < (t1.length : Int))) then (bif decide (fI (t1.getD t5.toNat .undef) 1 < fI (t1.getD (IntKind.i64.wrap (t5 - 1)).toNat .undef) 1) then k .ret ⟨[(4, AV.bool false)], [([1, 6], ⟨true, [], [AV.agg [AV.int .i64 (fI (t1.getD t5.toNat .undef) 0), AV.int .i64 (fI (t1.getD t5.toNat .undef) 1)]]⟩)]⟩
  else (ro (runW (R50_2 t0 t1 t5 (fI (t1.getD t5.toNat .undef) 0) (fI (t1.getD t5.toNat .undef) 1)) (((t0.length : Int) - 0).toNat + 1) 0) none (sumE (fun _ => next ⟨[(0, AV.sl [.int .i64] t0), (1, AV.sl [.int .i64, .int .i64] t1), (5, AV.int .i64 (IntKind.i64.wrap (t5 + 1)))], []⟩) (fun _ => k .ret ⟨[(4, AV.bool false)], [([0, 6], ⟨true, [], [AV.agg [AV.int .i64 (fI (t1.getD t5.toNat .undef) 0), AV.int .i64 (fI (t1.getD t5.toNat .undef) 1)]]⟩)]⟩))))
  else none))
  else none)
  else (ro (runW (R50_2 t0 t1 t5 (fI (t1.getD t5.toNat .undef) 0) (fI (t1.getD t5.toNat .undef) 1)) (((t0.length : Int) - 0).toNat + 1) 0) none (sumE (fun _ => next ⟨[(0, AV.sl [.int .i64] t0), (1, AV.sl [.int .i64, .int .i64] t1), (5, AV.int .i64 (IntKind.i64.wrap (t5 + 1)))], []⟩) (fun _ => k .ret ⟨[(4, AV.bool false)], [([0, 6], ⟨true, [], [AV.agg [AV.int .i64 (fI (t1.getD t5.toNat .undef) 0), AV.int .i64 (fI (t1.getD t5.toNat .undef) 1)]]⟩)]⟩))))))
  else none)
  else k (.exit 0) ⟨[], []⟩) := by kernel_rfl
theorem st50_0 (t0 : List AV) (t1 : List AV) (ce : CallE) (k : Kont) (s : Int) (next : St → Option AV) : stepA (codeA c50 ce [] 50 0 (sub [1, 0, 1, 0, 0] (body Try.f50))) (normA [] [0, 1, 5]) next ((fun s : Int => ⟨[(0, AV.sl [.int .i64] t0), (1, AV.sl [.int .i64, .int .i64] t1), (5, AV.int .i64 s)], []⟩) s) k = (R50_0 t0 t1 s).el none (fun s => next ((fun s : Int => ⟨[(0, AV.sl [.int .i64] t0), (1, AV.sl [.int .i64, .int .i64] t1), (5, AV.int .i64 s)], []⟩) s)) (sumE (fun _ : Unit => k (.exit 0) ⟨[], []⟩) (sumE (fun p : Int × Int => k .ret ⟨[(4, AV.bool false)], [([1, 6], ⟨true, [], [AV.agg [AV.int .i64 p.1, AV.int .i64 p.2]]⟩)]⟩) (fun p : Int × Int => k .ret ⟨[(4, AV.bool false)], [([0, 6], ⟨true, [], [AV.agg [AV.int .i64 p.1, AV.int .i64 p.2]]⟩)]⟩))) := (s50_0 ce t0 t1 s next k).trans (by unfold R50_0; unfold F50_0; simp only [el_cond, el_ro, el_sum, el_fail, el_next, el_stop] <;> rfl)
theorem ok50_0 {ce : CallE} : LoopOK c50 ce [] 50 0 (sub [1, 0, 1, 0, 0] (body Try.f50)) := by
  intro m hm st k r h
  obtain rfl : l50_0 = m := Option.some.inj hm
  unfold l50_0 at h
  split at h
  · rename_i g0 t0 g1 t1 t5
    obtain ⟨hg, h⟩ := bif_some h
    simp only [Bool.and_eq_true] at hg
    obtain ⟨q0, q1⟩ := hg
    obtain rfl := ctsEq_eq _ _ q0
    obtain rfl := ctsEq_eq _ _ q1
    refine ⟨(((t1.length : Int) - t5).toNat + 1), ?_⟩
    rw [← h]
    exact loop_run (fun s : Int => ⟨[(0, AV.sl [.int .i64] t0), (1, AV.sl [.int .i64, .int .i64] t1), (5, AV.int .i64 s)], []⟩) (sumE (fun _ : Unit => k (.exit 0) ⟨[], []⟩) (sumE (fun p : Int × Int => k .ret ⟨[(4, AV.bool false)], [([1, 6], ⟨true, [], [AV.agg [AV.int .i64 p.1, AV.int .i64 p.2]]⟩)]⟩) (fun p : Int × Int => k .ret ⟨[(4, AV.bool false)], [([0, 6], ⟨true, [], [AV.agg [AV.int .i64 p.1, AV.int .i64 p.2]]⟩)]⟩))) (st50_0 t0 t1 ce k) _ t5
  · cases h
def q50 (a0 : List AV) (a1 : List AV) : Bool := (ro (runW (R50_0 a0 a1) (((a1.length : Int) - 0).toNat + 1) 0) false (sumE (fun _ => true) (sumE (fun p15 => true) (fun p16 => true))))
def v50_0 (a0 : List AV) (a1 : List AV) : Bool := (ro (runW (R50_0 a0 a1) (((a1.length : Int) - 0).toNat + 1) 0) false (sumE (fun _ => true) (sumE (fun p15 => false) (fun p16 => false))))
theorem e50 (a0 : List AV) (a1 : List AV) : funA c50 0 50 [AV.sl [.int .i64] a0, AV.sl [.int .i64, .int .i64] a1] = (ro (runW (R50_0 a0 a1) (((a1.length : Int) - 0).toNat + 1) 0) none (sumE (fun _ => some (AV.bool true)) (sumE (fun p15 => some (AV.bool false)) (fun p16 => some (AV.bool false))))) := by kernel_rfl
theorem r50 (a0 : List AV) (a1 : List AV) (h : q50 a0 a1 = true) : funA c50 0 50 [AV.sl [.int .i64] a0, AV.sl [.int .i64, .int .i64] a1] = some (AV.bool (v50_0 a0 a1)) := (e50 a0 a1).trans ((brO (fun o : Option (Unit ⊕ (Int × Int) ⊕ (Int × Int)) => some (AV.bool (ro o false (sumE (fun _ => true) (sumE (fun p15 => false) (fun p16 => false)))))) (brS (fun o : Unit ⊕ (Int × Int) ⊕ (Int × Int) => some (AV.bool ((sumE (fun _ => true) (sumE (fun p15 => false) (fun p16 => false))) o))) (fun _ => (fun _ => rfl)) (brS (fun o : (Int × Int) ⊕ (Int × Int) => some (AV.bool ((sumE (fun p15 => false) (fun p16 => false)) o))) (fun p15 => (fun _ => rfl)) (fun p16 => (fun _ => rfl))))) h)
def m50 : TModel
  | [.sl g0 a0, .sl g1 a1] => bif ctsEq g0 ([.int .i64]) && ctsEq g1 ([.int .i64, .int .i64]) then some (q50 a0 a1, AV.bool (v50_0 a0 a1)) else none
  | _ => none
theorem k50 : Known Try.prog 50 := ⟨Try.f50, Try.func50, by kernel_rfl, by kernel_rfl⟩
theorem meets50 : Meets Try.prog 50 m50 := by
  refine meet (f := Try.f50) (l := [(0, sub [1, 0, 1, 0, 0] (body Try.f50)), (2, sub [1, 0, 1, 0, 0, 1, 0, 0, 1, 1, 1, 0, 0] (body Try.f50))]) (hs := [(50, 0, [0, 1, 5]), (50, 2, [0, 1, 5, 6, 7]), (50, 999, [4]), (50, 1000, []), (50, 1001, [0, 1, 5]), (50, 1002, [0, 1, 5]), (50, 1003, [0, 1, 5, 6, 7])]) (ts := [(28, m28)]) (ws := []) (is := []) (ls := [(50, 0, l50_0), (50, 2, l50_2)]) (lvl := 0) mixed k50 Try.func50 (by kernel_rfl) (loops_cons ok50_0 (loops_cons ok50_2 noLoop)) (allT_cons meets28 allT_nil) allM_nil noI fun w xs us r hl hv h => ?_
  unfold m50 at h
  split at h
  · rename_i g0 a0 g1 a1
    obtain ⟨hg, h⟩ := bif_pair h
    simp only [Bool.and_eq_true] at hg
    obtain ⟨q0, q1⟩ := hg
    obtain rfl := ctsEq_eq _ _ q0
    obtain rfl := ctsEq_eq _ _ q1
    obtain ⟨h1, rfl⟩ := pair_inj h
    exact r50 a0 a1 h1
  · cases h

/-! ### 30 loop.example/g01984/spec.IsCracker -/
def F30_0 (h0_0 : List AV) (h0_1 : List AV) (h0_2 : List AV) (t3 : Int) : Out (Int) (Unit ⊕ Unit) := (bif decide (t3 < (h0_1.length : Int)) then (bif (decide (0 ≤ t3) && decide (t3 < (h0_1.length : Int))) then (bif !(v28_0 (fI (h0_1.getD t3.toNat .undef) 0) 0 999) then .stop (.inr ())
  else (bif (decide (0 ≤ 0) && decide (0 ≤ t3) && decide (t3 ≤ (h0_1.length : Int))) then (bif (decide (0 ≤ t3) && decide (t3 < (h0_1.length : Int))) then (bif q49 ((h0_1.take (Int.toNat t3)).drop (Int.toNat 0)) (fI (h0_1.getD t3.toNat .undef) 0) then (bif (v49_0 ((h0_1.take (Int.toNat t3)).drop (Int.toNat 0)) (fI (h0_1.getD t3.toNat .undef) 0)) then .stop (.inr ())
  else .next (IntKind.i64.wrap (t3 + 1)))
  else .fail)
  else .fail)
  else .fail))
  else .fail)
  else .stop (.inl ()))
def R30_0 (h0_0 : List AV) (h0_1 : List AV) (h0_2 : List AV) : (Int) → Out (Int) (Unit ⊕ Unit) := fun s : Int => F30_0 h0_0 h0_1 h0_2 s
def l30_0 : LModel := fun _ _ st k => match st with
  | ⟨[(1, .ptr g0 g1 g2), (3, .int .i64 t3)], [(g3, ⟨true, [], [.agg [.sl g4 h0_0, .sl g5 h0_1, .sl g6 h0_2]]⟩)]⟩ => bif nmEq g0 ([0, 1]) && Nat.beq g1 0 && Nat.beq g2 0 && nmEq g3 ([0, 1]) && ctsEq g4 ([.int .i64]) && ctsEq g5 ([.int .i64]) && ctsEq g6 ([.int .i64, .int .i64]) then ro (runW (R30_0 h0_0 h0_1 h0_2) (((h0_1.length : Int) - t3).toNat + 1) t3) none (sumE (fun _ : Unit => k (.exit 0) ⟨[(1, AV.ptr [0, 1] 0 0)], [([0, 1], ⟨true, [], [AV.agg [AV.sl [.int .i64] h0_0, AV.sl [.int .i64] h0_1, AV.sl [.int .i64, .int .i64] h0_2]]⟩)]⟩) (fun _ : Unit => k .ret ⟨[(2, AV.bool false)], [([0, 1], ⟨true, [], [AV.agg [AV.sl [.int .i64] h0_0, AV.sl [.int .i64] h0_1, AV.sl [.int .i64, .int .i64] h0_2]]⟩)]⟩)) else none
  | _ => none
noncomputable def c30 : Cfg := cfg Try.prog [(30, 0, [1, 3]), (30, 999, [2]), (30, 1000, [1]), (30, 1001, [1, 3])] [(28, m28), (47, m47), (49, m49), (50, m50)] [] [] [(30, 0, l30_0)]
theorem s30_0 (ce : CallE) (t3 : Int) (h0_0 : List AV) (h0_1 : List AV) (h0_2 : List AV) (next : St → Option AV) (k : Kont) : stepA (codeA c30 ce [] 30 0 (sub [1, 1, 0, 1, 0, 0] (body Try.f30))) (normA [] [1, 3]) next ⟨[(1, AV.ptr [0, 1] 0 0), (3, AV.int .i64 t3)], [([0, 1], ⟨true, [], [AV.agg [AV.sl [.int .i64] h0_0, AV.sl [.int .i64] h0_1, AV.sl [.int .i64, .int .i64] h0_2]]⟩)]⟩ k = (bif decide (t3 < (h0_1.length : Int)) then (bif (decide (0 ≤ t3) && decide (t3 < (h0_1.length : Int))) then (bif !(v28_0 (fI (h0_1.getD t3.toNat .undef) 0) 0 999) then k .ret ⟨[(2, AV.bool false)], [([0, 1], ⟨true, [], [AV.agg [AV.sl [.int .i64] h0_0, AV.sl [.int .i64] h0_1, AV.sl [.int .i64, .int .i64] h0_2]]⟩)]⟩
  else (bif (decide (0 ≤ 0) && decide (0 ≤ t3) && decide (t3 ≤ (h0_1.length : Int))) then (bif (decide (0 ≤ t3) && decide (t3 < (h0_1.length : Int))) then (bif q49 ((h0_1.take (Int.toNat t3)).drop (Int.toNat 0)) (fI (h0_1.getD t3.toNat .undef) 0) then (bif (v49_0 ((h0_1.take (Int.toNat t3)).drop (Int.toNat 0)) (fI (h0_1.getD t3.toNat .undef) 0)) then k .ret ⟨[(2, AV.bool false)], [([0, 1], ⟨true, [], [AV.agg [AV.sl [.int .i64] h0_0, AV.sl [.int .i64] h0_1, AV.sl [.int .i64, .int .i64] h0_2]]⟩)]⟩
  else next ⟨[(1, AV.ptr [0, 1] 0 0), (3, AV.int .i64 (IntKind.i64.wrap (t3 + 1)))], [([0, 1], ⟨true, [], [AV.agg [AV.sl [.int .i64] h0_0, AV.sl [.int .i64] h0_1, AV.sl [.int .i64, .int .i64] h0_2]]⟩)]⟩)
  else none)
  else none)
  else none))
  else none)
  else k (.exit 0) ⟨[(1, AV.ptr [0, 1] 0 0)], [([0, 1], ⟨true, [], [AV.agg [AV.sl [.int .i64] h0_0, AV.sl [.int .i64] h0_1, AV.sl [.int .i64, .int .i64] h0_2]]⟩)]⟩) := by kernel_rfl
theorem st30_0 (h0_0 : List AV) (h0_1 : List AV) (h0_2 : List AV) (ce : CallE) (k : Kont) (s : Int) (next : St → Option AV) : stepA (codeA c30 ce [] 30 0 (sub [1, 1, 0, 1, 0, 0] (body Try.f30))) (normA [] [1, 3]) next ((fun s : Int => ⟨[(1, AV.ptr [0, 1] 0 0), (3, AV.int .i64 s)], [([0, 1], ⟨true, [], [AV.agg [AV.sl [.int .i64] h0_0, AV.sl [.int .i64] h0_1, AV.sl [.int .i64, .int .i64] h0_2]]⟩)]⟩) s) k = (R30_0 h0_0 h0_1 h0_2 s).el none (fun s => next ((fun s : Int => ⟨[(1, AV.ptr [0, 1] 0 0), (3, AV.int .i64 s)], [([0, 1], ⟨true, [], [AV.agg [AV.sl [.int .i64] h0_0, AV.sl [.int .i64] h0_1, AV.sl [.int .i64, .int .i64] h0_2]]⟩)]⟩) s)) (sumE (fun _ : Unit => k (.exit 0) ⟨[(1, AV.ptr [0, 1] 0 0)], [([0, 1], ⟨true, [], [AV.agg [AV.sl [.int .i64] h0_0, AV.sl [.int .i64] h0_1, AV.sl [.int .i64, .int .i64] h0_2]]⟩)]⟩) (fun _ : Unit => k .ret ⟨[(2, AV.bool false)], [([0, 1], ⟨true, [], [AV.agg [AV.sl [.int .i64] h0_0, AV.sl [.int .i64] h0_1, AV.sl [.int .i64, .int .i64] h0_2]]⟩)]⟩)) := (s30_0 ce s h0_0 h0_1 h0_2 next k).trans (by unfold R30_0; unfold F30_0; simp only [el_cond, el_ro, el_sum, el_fail, el_next, el_stop] <;> rfl)
theorem ok30_0 {ce : CallE} : LoopOK c30 ce [] 30 0 (sub [1, 1, 0, 1, 0, 0] (body Try.f30)) := by
  intro m hm st k r h
  obtain rfl : l30_0 = m := Option.some.inj hm
  unfold l30_0 at h
  split at h
  · rename_i g0 g1 g2 t3 g3 g4 h0_0 g5 h0_1 g6 h0_2
    obtain ⟨hg, h⟩ := bif_some h
    simp only [Bool.and_eq_true] at hg
    obtain ⟨⟨⟨⟨⟨⟨q0, q1⟩, q2⟩, q3⟩, q4⟩, q5⟩, q6⟩ := hg
    obtain rfl := (nmEq_iff _ _).1 q0
    obtain rfl := Nat.eq_of_beq_eq_true q1
    obtain rfl := Nat.eq_of_beq_eq_true q2
    obtain rfl := (nmEq_iff _ _).1 q3
    obtain rfl := ctsEq_eq _ _ q4
    obtain rfl := ctsEq_eq _ _ q5
    obtain rfl := ctsEq_eq _ _ q6
    refine ⟨(((h0_1.length : Int) - t3).toNat + 1), ?_⟩
    rw [← h]
    exact loop_run (fun s : Int => ⟨[(1, AV.ptr [0, 1] 0 0), (3, AV.int .i64 s)], [([0, 1], ⟨true, [], [AV.agg [AV.sl [.int .i64] h0_0, AV.sl [.int .i64] h0_1, AV.sl [.int .i64, .int .i64] h0_2]]⟩)]⟩) (sumE (fun _ : Unit => k (.exit 0) ⟨[(1, AV.ptr [0, 1] 0 0)], [([0, 1], ⟨true, [], [AV.agg [AV.sl [.int .i64] h0_0, AV.sl [.int .i64] h0_1, AV.sl [.int .i64, .int .i64] h0_2]]⟩)]⟩) (fun _ : Unit => k .ret ⟨[(2, AV.bool false)], [([0, 1], ⟨true, [], [AV.agg [AV.sl [.int .i64] h0_0, AV.sl [.int .i64] h0_1, AV.sl [.int .i64, .int .i64] h0_2]]⟩)]⟩)) (st30_0 h0_0 h0_1 h0_2 ce k) _ t3
  · cases h
def q30 (xa : List AV) (xb : List AV) (xc : List AV) : Bool := (q47 xa && (bif !(v47_0 xa) then true else (bif !decide ((xb.length : Int) = (xa.length : Int)) then true else (ro (runW (R30_0 xa xb xc) (((xb.length : Int) - 0).toNat + 1) 0) false (sumE (fun _ => q50 xa xc) (fun _ => true))))))
def v30_0 (xa : List AV) (xb : List AV) (xc : List AV) : Bool := (bif !(v47_0 xa) then false else (bif !decide ((xb.length : Int) = (xa.length : Int)) then false else (ro (runW (R30_0 xa xb xc) (((xb.length : Int) - 0).toNat + 1) 0) false (sumE (fun _ => (v50_0 xa xc)) (fun _ => false)))))
theorem e30 (xa : List AV) (xb : List AV) (xc : List AV) : funA c30 0 30 [AV.agg [AV.sl [.int .i64] xa, AV.sl [.int .i64] xb, AV.sl [.int .i64, .int .i64] xc]] = (bif q47 xa then (bif !(v47_0 xa) then some (AV.bool false)
  else (bif !decide ((xb.length : Int) = (xa.length : Int)) then some (AV.bool false)
  else (ro (runW (R30_0 xa xb xc) (((xb.length : Int) - 0).toNat + 1) 0) none (sumE (fun _ => (bif q50 xa xc then some (AV.bool (v50_0 xa xc))
  else none)) (fun _ => some (AV.bool false))))))
  else none) := by kernel_rfl
theorem r30 (xa : List AV) (xb : List AV) (xc : List AV) (h : q30 xa xb xc = true) : funA c30 0 30 [AV.agg [AV.sl [.int .i64] xa, AV.sl [.int .i64] xb, AV.sl [.int .i64, .int .i64] xc]] = some (AV.bool (v30_0 xa xb xc)) := (e30 xa xb xc).trans ((brL (br (fun b => some (AV.bool (bif b then false else (bif !decide ((xb.length : Int) = (xa.length : Int)) then false else (ro (runW (R30_0 xa xb xc) (((xb.length : Int) - 0).toNat + 1) 0) false (sumE (fun _ => (v50_0 xa xc)) (fun _ => false))))))) (fun _ => rfl) (br (fun b => some (AV.bool (bif b then false else (ro (runW (R30_0 xa xb xc) (((xb.length : Int) - 0).toNat + 1) 0) false (sumE (fun _ => (v50_0 xa xc)) (fun _ => false)))))) (fun _ => rfl) (brO (fun o : Option (Unit ⊕ Unit) => some (AV.bool (ro o false (sumE (fun _ => (v50_0 xa xc)) (fun _ => false))))) (brS (fun o : Unit ⊕ Unit => some (AV.bool ((sumE (fun _ => (v50_0 xa xc)) (fun _ => false)) o))) (fun _ => (brL1 (fun _ => rfl))) (fun _ => (fun _ => rfl))))))) h)
def m30 : TModel
  | [.agg [.sl g0 xa, .sl g1 xb, .sl g2 xc]] => bif ctsEq g0 ([.int .i64]) && ctsEq g1 ([.int .i64]) && ctsEq g2 ([.int .i64, .int .i64]) then some (q30 xa xb xc, AV.bool (v30_0 xa xb xc)) else none
  | _ => none
theorem k30 : Known Try.prog 30 := ⟨Try.f30, Try.func30, by kernel_rfl, by kernel_rfl⟩
theorem meets30 : Meets Try.prog 30 m30 := by
  refine meet (f := Try.f30) (l := [(0, sub [1, 1, 0, 1, 0, 0] (body Try.f30))]) (hs := [(30, 0, [1, 3]), (30, 999, [2]), (30, 1000, [1]), (30, 1001, [1, 3])]) (ts := [(28, m28), (47, m47), (49, m49), (50, m50)]) (ws := []) (is := []) (ls := [(30, 0, l30_0)]) (lvl := 0) mixed k30 Try.func30 (by kernel_rfl) (loops_cons ok30_0 noLoop) (allT_cons meets28 (allT_cons meets47 (allT_cons meets49 (allT_cons meets50 allT_nil)))) allM_nil noI fun w xs us r hl hv h => ?_
  unfold m30 at h
  split at h
  · rename_i g0 xa g1 xb g2 xc
    obtain ⟨hg, h⟩ := bif_pair h
    simp only [Bool.and_eq_true] at hg
    obtain ⟨⟨q0, q1⟩, q2⟩ := hg
    obtain rfl := ctsEq_eq _ _ q0
    obtain rfl := ctsEq_eq _ _ q1
    obtain rfl := ctsEq_eq _ _ q2
    obtain ⟨h1, rfl⟩ := pair_inj h
    exact r30 xa xb xc h1
  · cases h

/-! ### 51 loop.example/g01984/spec.l4Piece -/
def F51_2 (t1 : List AV) (t2 : Int) (t8 : Int) (t9 : Int) (t11 : Int) : Out ((Int × Int)) (Int) := (bif decide (t11 ≥ 0) then (bif (decide (0 ≤ t11) && decide (t11 < (t1.length : Int))) then (bif decide (fI (t1.getD t11.toNat .undef) 0 ≥ t2) then (bif (decide (0 ≤ t11) && decide (t11 < (t1.length : Int))) then .next (fI (t1.getD t11.toNat .undef) 1, IntKind.i64.wrap (t11 - 1))
  else .fail)
  else .next (t9, IntKind.i64.wrap (t11 - 1)))
  else .fail)
  else .stop t9)
def R51_2 (t1 : List AV) (t2 : Int) (t8 : Int) : ((Int × Int)) → Out ((Int × Int)) (Int) := fun s : Int × Int => F51_2 t1 t2 t8 s.1 s.2
def l51_2 : LModel := fun _ _ st k => match st with
  | ⟨[(1, .sl g0 t1), (2, .int .i64 t2), (8, .int .i64 t8), (9, .int .i64 t9), (11, .int .i64 t11)], []⟩ => bif ctsEq g0 ([.int .i64, .int .i64]) then ro (runW (R51_2 t1 t2 t8) ((t11 - 0 + 1).toNat + 1) (t9, t11)) none (fun p : Int => k (.exit 2) ⟨[(8, AV.int .i64 t8), (9, AV.int .i64 p)], []⟩) else none
  | _ => none
def F51_0 (t1 : List AV) (t2 : Int) (t9 : Int) (t8 : Int) (t10 : Int) : Out ((Int × Int)) (Int) := (bif decide (t10 < (t1.length : Int)) then (bif (decide (0 ≤ t10) && decide (t10 < (t1.length : Int))) then (bif decide (fI (t1.getD t10.toNat .undef) 0 ≤ t2) then (bif (decide (0 ≤ t10) && decide (t10 < (t1.length : Int))) then .next (fI (t1.getD t10.toNat .undef) 1, IntKind.i64.wrap (t10 + 1))
  else .fail)
  else .next (t8, IntKind.i64.wrap (t10 + 1)))
  else .fail)
  else .stop t8)
def R51_0 (t1 : List AV) (t2 : Int) (t9 : Int) : ((Int × Int)) → Out ((Int × Int)) (Int) := fun s : Int × Int => F51_0 t1 t2 t9 s.1 s.2
def l51_0 : LModel := fun _ _ st k => match st with
  | ⟨[(1, .sl g0 t1), (2, .int .i64 t2), (8, .int .i64 t8), (9, .int .i64 t9), (10, .int .i64 t10)], []⟩ => bif ctsEq g0 ([.int .i64, .int .i64]) then ro (runW (R51_0 t1 t2 t9) (((t1.length : Int) - t10).toNat + 1) (t8, t10)) none (fun p : Int => k (.exit 0) ⟨[(1, AV.sl [.int .i64, .int .i64] t1), (2, AV.int .i64 t2), (8, AV.int .i64 p), (9, AV.int .i64 t9)], []⟩) else none
  | _ => none
noncomputable def c51 : Cfg := cfg Try.prog [(51, 0, [1, 2, 8, 9, 10]), (51, 2, [1, 2, 8, 9, 11]), (51, 999, [6, 7]), (51, 1000, [1, 2, 8, 9]), (51, 1001, [1, 2, 8, 9, 10]), (51, 1002, [8, 9]), (51, 1003, [1, 2, 8, 9, 11])] [] [] [] [(51, 0, l51_0), (51, 2, l51_2)]
theorem s51_2 (ce : CallE) (t1 : List AV) (t2 : Int) (t8 : Int) (t9 : Int) (t11 : Int) (next : St → Option AV) (k : Kont) : stepA (codeA c51 ce [] 51 2 (sub [1, 1, 1, 1, 0, 1, 0, 0] (body Try.f51))) (normA [] [1, 2, 8, 9, 11]) next ⟨[(1, AV.sl [.int .i64, .int .i64] t1), (2, AV.int .i64 t2), (8, AV.int .i64 t8), (9, AV.int .i64 t9), (11, AV.int .i64 t11)], []⟩ k = (bif decide (t11 ≥ 0) then (bif (decide (0 ≤ t11) && decide (t11 < (t1.length : Int))) then (bif decide (fI (t1.getD t11.toNat .undef) 0 ≥ t2) then (bif (decide (0 ≤ t11) && decide (t11 < (t1.length : Int))) then next ⟨[(1, AV.sl [.int .i64, .int .i64] t1), (2, AV.int .i64 t2), (8, AV.int .i64 t8), (9, AV.int .i64 (fI (t1.getD t11.toNat .undef) 1)), (11, AV.int .i64 (IntKind.i64.wrap (t11 - 1)))], []⟩
  else none)
  else next ⟨[(1, AV.sl [.int .i64, .int .i64] t1), (2, AV.int .i64 t2), (8, AV.int .i64 t8), (9, AV.int .i64 t9), (11, AV.int .i64 (IntKind.i64.wrap (t11 - 1)))], []⟩)
  else none)
  else k (.exit 2) ⟨[(8, AV.int .i64 t8), (9, AV.int .i64 t9)], []⟩) := by kernel_rfl
theorem st51_2 (t1 : List AV) (t2 : Int) (t8 : Int) (ce : CallE) (k : Kont) (s : (Int × Int)) (next : St → Option AV) : stepA (codeA c51 ce [] 51 2 (sub [1, 1, 1, 1, 0, 1, 0, 0] (body Try.f51))) (normA [] [1, 2, 8, 9, 11]) next ((fun s : Int × Int => ⟨[(1, AV.sl [.int .i64, .int .i64] t1), (2, AV.int .i64 t2), (8, AV.int .i64 t8), (9, AV.int .i64 s.1), (11, AV.int .i64 s.2)], []⟩) s) k = (R51_2 t1 t2 t8 s).el none (fun s => next ((fun s : Int × Int => ⟨[(1, AV.sl [.int .i64, .int .i64] t1), (2, AV.int .i64 t2), (8, AV.int .i64 t8), (9, AV.int .i64 s.1), (11, AV.int .i64 s.2)], []⟩) s)) (fun p : Int => k (.exit 2) ⟨[(8, AV.int .i64 t8), (9, AV.int .i64 p)], []⟩) := (s51_2 ce t1 t2 t8 s.1 s.2 next k).trans (by unfold R51_2; unfold F51_2; simp only [el_cond, el_ro, el_sum, el_fail, el_next, el_stop] <;> rfl)
theorem ok51_2 {ce : CallE} : LoopOK c51 ce [] 51 2 (sub [1, 1, 1, 1, 0, 1, 0, 0] (body Try.f51)) := by
  intro m hm st k r h
  obtain rfl : l51_2 = m := Option.some.inj hm
  unfold l51_2 at h
  split at h
  · rename_i g0 t1 t2 t8 t9 t11
    obtain ⟨hg, h⟩ := bif_some h
    have q0 := hg
    obtain rfl := ctsEq_eq _ _ q0
    refine ⟨((t11 - 0 + 1).toNat + 1), ?_⟩
    rw [← h]
    exact loop_run (fun s : Int × Int => ⟨[(1, AV.sl [.int .i64, .int .i64] t1), (2, AV.int .i64 t2), (8, AV.int .i64 t8), (9, AV.int .i64 s.1), (11, AV.int .i64 s.2)], []⟩) (fun p : Int => k (.exit 2) ⟨[(8, AV.int .i64 t8), (9, AV.int .i64 p)], []⟩) (st51_2 t1 t2 t8 ce k) _ (t9, t11)
  · cases h
theorem s51_0 (ce : CallE) (t1 : List AV) (t2 : Int) (t8 : Int) (t9 : Int) (t10 : Int) (next : St → Option AV) (k : Kont) : stepA (codeA c51 ce [] 51 0 (sub [1, 1, 1, 0, 1, 0, 0] (body Try.f51))) (normA [] [1, 2, 8, 9, 10]) next ⟨[(1, AV.sl [.int .i64, .int .i64] t1), (2, AV.int .i64 t2), (8, AV.int .i64 t8), (9, AV.int .i64 t9), (10, AV.int .i64 t10)], []⟩ k = (bif decide (t10 < (t1.length : Int)) then (bif (decide (0 ≤ t10) && decide (t10 < (t1.length : Int))) then (bif decide (fI (t1.getD t10.toNat .undef) 0 ≤ t2) then (bif (decide (0 ≤ t10) && decide (t10 < (t1.length : Int))) then next ⟨[(1, AV.sl [.int .i64, .int .i64] t1), (2, AV.int .i64 t2), (8, AV.int .i64 (fI (t1.getD t10.toNat .undef) 1)), (9, AV.int .i64 t9), (10, AV.int .i64 (IntKind.i64.wrap (t10 + 1)))], []⟩
  else none)
  else next ⟨[(1, AV.sl [.int .i64, .int .i64] t1), (2, AV.int .i64 t2), (8, AV.int .i64 t8), (9, AV.int .i64 t9), (10, AV.int .i64 (IntKind.i64.wrap (t10 + 1)))], []⟩)
  else none)
  else k (.exit 0) ⟨[(1, AV.sl [.int .i64, .int .i64] t1), (2, AV.int .i64 t2), (8, AV.int .i64 t8), (9, AV.int .i64 t9)], []⟩) := by kernel_rfl
theorem st51_0 (t1 : List AV) (t2 : Int) (t9 : Int) (ce : CallE) (k : Kont) (s : (Int × Int)) (next : St → Option AV) : stepA (codeA c51 ce [] 51 0 (sub [1, 1, 1, 0, 1, 0, 0] (body Try.f51))) (normA [] [1, 2, 8, 9, 10]) next ((fun s : Int × Int => ⟨[(1, AV.sl [.int .i64, .int .i64] t1), (2, AV.int .i64 t2), (8, AV.int .i64 s.1), (9, AV.int .i64 t9), (10, AV.int .i64 s.2)], []⟩) s) k = (R51_0 t1 t2 t9 s).el none (fun s => next ((fun s : Int × Int => ⟨[(1, AV.sl [.int .i64, .int .i64] t1), (2, AV.int .i64 t2), (8, AV.int .i64 s.1), (9, AV.int .i64 t9), (10, AV.int .i64 s.2)], []⟩) s)) (fun p : Int => k (.exit 0) ⟨[(1, AV.sl [.int .i64, .int .i64] t1), (2, AV.int .i64 t2), (8, AV.int .i64 p), (9, AV.int .i64 t9)], []⟩) := (s51_0 ce t1 t2 s.1 t9 s.2 next k).trans (by unfold R51_0; unfold F51_0; simp only [el_cond, el_ro, el_sum, el_fail, el_next, el_stop] <;> rfl)
theorem ok51_0 {ce : CallE} : LoopOK c51 ce [] 51 0 (sub [1, 1, 1, 0, 1, 0, 0] (body Try.f51)) := by
  intro m hm st k r h
  obtain rfl : l51_0 = m := Option.some.inj hm
  unfold l51_0 at h
  split at h
  · rename_i g0 t1 t2 t8 t9 t10
    obtain ⟨hg, h⟩ := bif_some h
    have q0 := hg
    obtain rfl := ctsEq_eq _ _ q0
    refine ⟨(((t1.length : Int) - t10).toNat + 1), ?_⟩
    rw [← h]
    exact loop_run (fun s : Int × Int => ⟨[(1, AV.sl [.int .i64, .int .i64] t1), (2, AV.int .i64 t2), (8, AV.int .i64 s.1), (9, AV.int .i64 t9), (10, AV.int .i64 s.2)], []⟩) (fun p : Int => k (.exit 0) ⟨[(1, AV.sl [.int .i64, .int .i64] t1), (2, AV.int .i64 t2), (8, AV.int .i64 p), (9, AV.int .i64 t9)], []⟩) (st51_0 t1 t2 t9 ce k) _ (t8, t10)
  · cases h
def q51 (a0 : Int) (a1 : List AV) (a2 : Int) : Bool := (ro (runW (R51_0 a1 a2 a0) (((a1.length : Int) - 0).toNat + 1) (0, 0)) false (fun p18 => (ro (runW (R51_2 a1 a2 p18) (((IntKind.i64.wrap ((a1.length : Int) - 1)) - 0 + 1).toNat + 1) (a0, IntKind.i64.wrap ((a1.length : Int) - 1))) false (fun p19 => true))))
def v51_0 (a0 : Int) (a1 : List AV) (a2 : Int) : Int := (ro (runW (R51_0 a1 a2 a0) (((a1.length : Int) - 0).toNat + 1) (0, 0)) 0 (fun p18 => p18))
def v51_1 (a0 : Int) (a1 : List AV) (a2 : Int) : Int := (ro (runW (R51_0 a1 a2 a0) (((a1.length : Int) - 0).toNat + 1) (0, 0)) 0 (fun p18 => (ro (runW (R51_2 a1 a2 p18) (((IntKind.i64.wrap ((a1.length : Int) - 1)) - 0 + 1).toNat + 1) (a0, IntKind.i64.wrap ((a1.length : Int) - 1))) 0 (fun p19 => p19))))
theorem e51 (a0 : Int) (a1 : List AV) (a2 : Int) : funA c51 0 51 [AV.int .i64 a0, AV.sl [.int .i64, .int .i64] a1, AV.int .i64 a2] = (ro (runW (R51_0 a1 a2 a0) (((a1.length : Int) - 0).toNat + 1) (0, 0)) none (fun p18 => (ro (runW (R51_2 a1 a2 p18) (((IntKind.i64.wrap ((a1.length : Int) - 1)) - 0 + 1).toNat + 1) (a0, IntKind.i64.wrap ((a1.length : Int) - 1))) none (fun p19 => some (AV.tup [AV.int .i64 p18, AV.int .i64 p19]))))) := by kernel_rfl
theorem r51 (a0 : Int) (a1 : List AV) (a2 : Int) (h : q51 a0 a1 a2 = true) : funA c51 0 51 [AV.int .i64 a0, AV.sl [.int .i64, .int .i64] a1, AV.int .i64 a2] = some (AV.tup [AV.int .i64 (v51_0 a0 a1 a2), AV.int .i64 (v51_1 a0 a1 a2)]) := (e51 a0 a1 a2).trans ((brO (fun o : Option (Int) => some (AV.tup [AV.int .i64 (ro o 0 (fun p18 => p18)), AV.int .i64 (ro o 0 (fun p18 => (ro (runW (R51_2 a1 a2 p18) (((IntKind.i64.wrap ((a1.length : Int) - 1)) - 0 + 1).toNat + 1) (a0, IntKind.i64.wrap ((a1.length : Int) - 1))) 0 (fun p19 => p19))))])) (fun p18 => (brO (fun o : Option (Int) => some (AV.tup [AV.int .i64 p18, AV.int .i64 (ro o 0 (fun p19 => p19))])) (fun p19 => (fun _ => rfl))))) h)
def m51 : TModel
  | [.int .i64 a0, .sl g0 a1, .int .i64 a2] => bif ctsEq g0 ([.int .i64, .int .i64]) then some (q51 a0 a1 a2, AV.tup [AV.int .i64 (v51_0 a0 a1 a2), AV.int .i64 (v51_1 a0 a1 a2)]) else none
  | _ => none
theorem k51 : Known Try.prog 51 := ⟨Try.f51, Try.func51, by kernel_rfl, by kernel_rfl⟩
theorem meets51 : Meets Try.prog 51 m51 := by
  refine meet (f := Try.f51) (l := [(0, sub [1, 1, 1, 0, 1, 0, 0] (body Try.f51)), (2, sub [1, 1, 1, 1, 0, 1, 0, 0] (body Try.f51))]) (hs := [(51, 0, [1, 2, 8, 9, 10]), (51, 2, [1, 2, 8, 9, 11]), (51, 999, [6, 7]), (51, 1000, [1, 2, 8, 9]), (51, 1001, [1, 2, 8, 9, 10]), (51, 1002, [8, 9]), (51, 1003, [1, 2, 8, 9, 11])]) (ts := []) (ws := []) (is := []) (ls := [(51, 0, l51_0), (51, 2, l51_2)]) (lvl := 0) mixed k51 Try.func51 (by kernel_rfl) (loops_cons ok51_0 (loops_cons ok51_2 noLoop)) allT_nil allM_nil noI fun w xs us r hl hv h => ?_
  unfold m51 at h
  split at h
  · rename_i a0 g0 a1 a2
    obtain ⟨hg, h⟩ := bif_pair h
    have q0 := hg
    obtain rfl := ctsEq_eq _ _ q0
    obtain ⟨h1, rfl⟩ := pair_inj h
    exact r51 a0 a1 a2 h1
  · cases h

/-! ### 33 loop.example/g01984/spec.PieceOf -/
noncomputable def c33 : Cfg := cfg Try.prog [(33, 999, [4, 5])] [(28, m28), (30, m30), (51, m51)] [] [] []
def q33 (xa : List AV) (xb : List AV) (xc : List AV) (a1 : Int) : Bool := (q30 xa xb xc && (bif !(v30_0 xa xb xc) then true else (bif !(v28_0 a1 (-1000) 1000) then true else q51 (xa.length : Int) xc a1)))
def v33_0 (xa : List AV) (xb : List AV) (xc : List AV) (a1 : Int) : Int := (bif !(v30_0 xa xb xc) then 0 else (bif !(v28_0 a1 (-1000) 1000) then 0 else (v51_0 (xa.length : Int) xc a1)))
def v33_1 (xa : List AV) (xb : List AV) (xc : List AV) (a1 : Int) : Int := (bif !(v30_0 xa xb xc) then 0 else (bif !(v28_0 a1 (-1000) 1000) then 0 else (v51_1 (xa.length : Int) xc a1)))
theorem e33 (xa : List AV) (xb : List AV) (xc : List AV) (a1 : Int) : funA c33 0 33 [AV.agg [AV.sl [.int .i64] xa, AV.sl [.int .i64] xb, AV.sl [.int .i64, .int .i64] xc], AV.int .i64 a1] = (bif q30 xa xb xc then (bif !(v30_0 xa xb xc) then some (AV.tup [AV.int .i64 0, AV.int .i64 0])
  else (bif !(v28_0 a1 (-1000) 1000) then some (AV.tup [AV.int .i64 0, AV.int .i64 0])
  else (bif q51 (xa.length : Int) xc a1 then some (AV.tup [AV.int .i64 (v51_0 (xa.length : Int) xc a1), AV.int .i64 (v51_1 (xa.length : Int) xc a1)])
  else none)))
  else none) := by kernel_rfl
theorem r33 (xa : List AV) (xb : List AV) (xc : List AV) (a1 : Int) (h : q33 xa xb xc a1 = true) : funA c33 0 33 [AV.agg [AV.sl [.int .i64] xa, AV.sl [.int .i64] xb, AV.sl [.int .i64, .int .i64] xc], AV.int .i64 a1] = some (AV.tup [AV.int .i64 (v33_0 xa xb xc a1), AV.int .i64 (v33_1 xa xb xc a1)]) := (e33 xa xb xc a1).trans ((brL (br (fun b => some (AV.tup [AV.int .i64 (bif b then 0 else (bif !(v28_0 a1 (-1000) 1000) then 0 else (v51_0 (xa.length : Int) xc a1))), AV.int .i64 (bif b then 0 else (bif !(v28_0 a1 (-1000) 1000) then 0 else (v51_1 (xa.length : Int) xc a1)))])) (fun _ => rfl) (br (fun b => some (AV.tup [AV.int .i64 (bif b then 0 else (v51_0 (xa.length : Int) xc a1)), AV.int .i64 (bif b then 0 else (v51_1 (xa.length : Int) xc a1))])) (fun _ => rfl) (brL1 (fun _ => rfl))))) h)
def m33 : TModel
  | [.agg [.sl g0 xa, .sl g1 xb, .sl g2 xc], .int .i64 a1] => bif ctsEq g0 ([.int .i64]) && ctsEq g1 ([.int .i64]) && ctsEq g2 ([.int .i64, .int .i64]) then some (q33 xa xb xc a1, AV.tup [AV.int .i64 (v33_0 xa xb xc a1), AV.int .i64 (v33_1 xa xb xc a1)]) else none
  | _ => none
theorem k33 : Known Try.prog 33 := ⟨Try.f33, Try.func33, by kernel_rfl, by kernel_rfl⟩
theorem meets33 : Meets Try.prog 33 m33 := by
  refine meet (f := Try.f33) (l := []) (hs := [(33, 999, [4, 5])]) (ts := [(28, m28), (30, m30), (51, m51)]) (ws := []) (is := []) (ls := []) (lvl := 0) mixed k33 Try.func33 (by kernel_rfl) noLoop (allT_cons meets28 (allT_cons meets30 (allT_cons meets51 allT_nil))) allM_nil noI fun w xs us r hl hv h => ?_
  unfold m33 at h
  split at h
  · rename_i g0 xa g1 xb g2 xc a1
    obtain ⟨hg, h⟩ := bif_pair h
    simp only [Bool.and_eq_true] at hg
    obtain ⟨⟨q0, q1⟩, q2⟩ := hg
    obtain rfl := ctsEq_eq _ _ q0
    obtain rfl := ctsEq_eq _ _ q1
    obtain rfl := ctsEq_eq _ _ q2
    obtain ⟨h1, rfl⟩ := pair_inj h
    exact r33 xa xb xc a1 h1
  · cases h

/-! ### 32 loop.example/g01984/spec.FindPivot -/
def F32_0 (t1 : Int) (h0_0 : List AV) (h0_1 : List AV) (h0_2 : List AV) (t6 : Int) : Out (Int) (Unit ⊕ Int) := (bif decide (t6 < (h0_2.length : Int)) then (bif (decide (0 ≤ t6) && decide (t6 < (h0_2.length : Int))) then (bif decide (fI (h0_2.getD t6.toNat .undef) 0 = t1) then (bif (decide (0 ≤ t6) && decide (t6 < (h0_2.length : Int))) then .stop (.inr (fI (h0_2.getD t6.toNat .undef) 1))
  else .fail)
  else .next (IntKind.i64.wrap (t6 + 1)))
  else .fail)
  else .stop (.inl ()))
def R32_0 (t1 : Int) (h0_0 : List AV) (h0_1 : List AV) (h0_2 : List AV) : (Int) → Out (Int) (Unit ⊕ Int) := fun s : Int => F32_0 t1 h0_0 h0_1 h0_2 s
def l32_0 : LModel := fun _ _ st k => match st with
  | ⟨[(1, .int .i64 t1), (2, .ptr g0 g1 g2), (6, .int .i64 t6)], [(g3, ⟨true, [], [.agg [.sl g4 h0_0, .sl g5 h0_1, .sl g6 h0_2]]⟩)]⟩ => bif nmEq g0 ([0, 2]) && Nat.beq g1 0 && Nat.beq g2 0 && nmEq g3 ([0, 2]) && ctsEq g4 ([.int .i64]) && ctsEq g5 ([.int .i64]) && ctsEq g6 ([.int .i64, .int .i64]) then ro (runW (R32_0 t1 h0_0 h0_1 h0_2) (((h0_2.length : Int) - t6).toNat + 1) t6) none (sumE (fun _ : Unit => k (.exit 0) ⟨[], [([0, 2], ⟨true, [], [AV.agg [AV.sl [.int .i64] h0_0, AV.sl [.int .i64] h0_1, AV.sl [.int .i64, .int .i64] h0_2]]⟩)]⟩) (fun p : Int => k .ret ⟨[(4, AV.int .i64 p), (5, AV.bool true)], [([0, 2], ⟨true, [], [AV.agg [AV.sl [.int .i64] h0_0, AV.sl [.int .i64] h0_1, AV.sl [.int .i64, .int .i64] h0_2]]⟩)]⟩)) else none
  | _ => none
noncomputable def c32 : Cfg := cfg Try.prog [(32, 0, [1, 2, 6]), (32, 999, [4, 5]), (32, 1000, []), (32, 1001, [1, 2, 6])] [] [] [] [(32, 0, l32_0)]
theorem s32_0 (ce : CallE) (t1 : Int) (t6 : Int) (h0_0 : List AV) (h0_1 : List AV) (h0_2 : List AV) (next : St → Option AV) (k : Kont) : stepA (codeA c32 ce [] 32 0 (sub [1, 0, 1, 0, 0] (body Try.f32))) (normA [] [1, 2, 6]) next ⟨[(1, AV.int .i64 t1), (2, AV.ptr [0, 2] 0 0), (6, AV.int .i64 t6)], [([0, 2], ⟨true, [], [AV.agg [AV.sl [.int .i64] h0_0, AV.sl [.int .i64] h0_1, AV.sl [.int .i64, .int .i64] h0_2]]⟩)]⟩ k = (bif decide (t6 < (h0_2.length : Int)) then (bif (decide (0 ≤ t6) && decide (t6 < (h0_2.length : Int))) then (bif decide (fI (h0_2.getD t6.toNat .undef) 0 = t1) then (bif (decide (0 ≤ t6) && decide (t6 < (h0_2.length : Int))) then k .ret ⟨[(4, AV.int .i64 (fI (h0_2.getD t6.toNat .undef) 1)), (5, AV.bool true)], [([0, 2], ⟨true, [], [AV.agg [AV.sl [.int .i64] h0_0, AV.sl [.int .i64] h0_1, AV.sl [.int .i64, .int .i64] h0_2]]⟩)]⟩
  else none)
  else next ⟨[(1, AV.int .i64 t1), (2, AV.ptr [0, 2] 0 0), (6, AV.int .i64 (IntKind.i64.wrap (t6 + 1)))], [([0, 2], ⟨true, [], [AV.agg [AV.sl [.int .i64] h0_0, AV.sl [.int .i64] h0_1, AV.sl [.int .i64, .int .i64] h0_2]]⟩)]⟩)
  else none)
  else k (.exit 0) ⟨[], [([0, 2], ⟨true, [], [AV.agg [AV.sl [.int .i64] h0_0, AV.sl [.int .i64] h0_1, AV.sl [.int .i64, .int .i64] h0_2]]⟩)]⟩) := by kernel_rfl
theorem st32_0 (t1 : Int) (h0_0 : List AV) (h0_1 : List AV) (h0_2 : List AV) (ce : CallE) (k : Kont) (s : Int) (next : St → Option AV) : stepA (codeA c32 ce [] 32 0 (sub [1, 0, 1, 0, 0] (body Try.f32))) (normA [] [1, 2, 6]) next ((fun s : Int => ⟨[(1, AV.int .i64 t1), (2, AV.ptr [0, 2] 0 0), (6, AV.int .i64 s)], [([0, 2], ⟨true, [], [AV.agg [AV.sl [.int .i64] h0_0, AV.sl [.int .i64] h0_1, AV.sl [.int .i64, .int .i64] h0_2]]⟩)]⟩) s) k = (R32_0 t1 h0_0 h0_1 h0_2 s).el none (fun s => next ((fun s : Int => ⟨[(1, AV.int .i64 t1), (2, AV.ptr [0, 2] 0 0), (6, AV.int .i64 s)], [([0, 2], ⟨true, [], [AV.agg [AV.sl [.int .i64] h0_0, AV.sl [.int .i64] h0_1, AV.sl [.int .i64, .int .i64] h0_2]]⟩)]⟩) s)) (sumE (fun _ : Unit => k (.exit 0) ⟨[], [([0, 2], ⟨true, [], [AV.agg [AV.sl [.int .i64] h0_0, AV.sl [.int .i64] h0_1, AV.sl [.int .i64, .int .i64] h0_2]]⟩)]⟩) (fun p : Int => k .ret ⟨[(4, AV.int .i64 p), (5, AV.bool true)], [([0, 2], ⟨true, [], [AV.agg [AV.sl [.int .i64] h0_0, AV.sl [.int .i64] h0_1, AV.sl [.int .i64, .int .i64] h0_2]]⟩)]⟩)) := (s32_0 ce t1 s h0_0 h0_1 h0_2 next k).trans (by unfold R32_0; unfold F32_0; simp only [el_cond, el_ro, el_sum, el_fail, el_next, el_stop] <;> rfl)
theorem ok32_0 {ce : CallE} : LoopOK c32 ce [] 32 0 (sub [1, 0, 1, 0, 0] (body Try.f32)) := by
  intro m hm st k r h
  obtain rfl : l32_0 = m := Option.some.inj hm
  unfold l32_0 at h
  split at h
  · rename_i t1 g0 g1 g2 t6 g3 g4 h0_0 g5 h0_1 g6 h0_2
    obtain ⟨hg, h⟩ := bif_some h
    simp only [Bool.and_eq_true] at hg
    obtain ⟨⟨⟨⟨⟨⟨q0, q1⟩, q2⟩, q3⟩, q4⟩, q5⟩, q6⟩ := hg
    obtain rfl := (nmEq_iff _ _).1 q0
    obtain rfl := Nat.eq_of_beq_eq_true q1
    obtain rfl := Nat.eq_of_beq_eq_true q2
    obtain rfl := (nmEq_iff _ _).1 q3
    obtain rfl := ctsEq_eq _ _ q4
    obtain rfl := ctsEq_eq _ _ q5
    obtain rfl := ctsEq_eq _ _ q6
    refine ⟨(((h0_2.length : Int) - t6).toNat + 1), ?_⟩
    rw [← h]
    exact loop_run (fun s : Int => ⟨[(1, AV.int .i64 t1), (2, AV.ptr [0, 2] 0 0), (6, AV.int .i64 s)], [([0, 2], ⟨true, [], [AV.agg [AV.sl [.int .i64] h0_0, AV.sl [.int .i64] h0_1, AV.sl [.int .i64, .int .i64] h0_2]]⟩)]⟩) (sumE (fun _ : Unit => k (.exit 0) ⟨[], [([0, 2], ⟨true, [], [AV.agg [AV.sl [.int .i64] h0_0, AV.sl [.int .i64] h0_1, AV.sl [.int .i64, .int .i64] h0_2]]⟩)]⟩) (fun p : Int => k .ret ⟨[(4, AV.int .i64 p), (5, AV.bool true)], [([0, 2], ⟨true, [], [AV.agg [AV.sl [.int .i64] h0_0, AV.sl [.int .i64] h0_1, AV.sl [.int .i64, .int .i64] h0_2]]⟩)]⟩)) (st32_0 t1 h0_0 h0_1 h0_2 ce k) _ t6
  · cases h
def q32 (xa : List AV) (xb : List AV) (xc : List AV) (a1 : Int) : Bool := (ro (runW (R32_0 a1 xa xb xc) (((xc.length : Int) - 0).toNat + 1) 0) false (sumE (fun _ => true) (fun p21 => true)))
def v32_0 (xa : List AV) (xb : List AV) (xc : List AV) (a1 : Int) : Int := (ro (runW (R32_0 a1 xa xb xc) (((xc.length : Int) - 0).toNat + 1) 0) 0 (sumE (fun _ => 0) (fun p21 => p21)))
def v32_1 (xa : List AV) (xb : List AV) (xc : List AV) (a1 : Int) : Bool := (ro (runW (R32_0 a1 xa xb xc) (((xc.length : Int) - 0).toNat + 1) 0) false (sumE (fun _ => false) (fun p21 => true)))
theorem e32 (xa : List AV) (xb : List AV) (xc : List AV) (a1 : Int) : funA c32 0 32 [AV.agg [AV.sl [.int .i64] xa, AV.sl [.int .i64] xb, AV.sl [.int .i64, .int .i64] xc], AV.int .i64 a1] = (ro (runW (R32_0 a1 xa xb xc) (((xc.length : Int) - 0).toNat + 1) 0) none (sumE (fun _ => some (AV.tup [AV.int .i64 0, AV.bool false])) (fun p21 => some (AV.tup [AV.int .i64 p21, AV.bool true])))) := by kernel_rfl
theorem r32 (xa : List AV) (xb : List AV) (xc : List AV) (a1 : Int) (h : q32 xa xb xc a1 = true) : funA c32 0 32 [AV.agg [AV.sl [.int .i64] xa, AV.sl [.int .i64] xb, AV.sl [.int .i64, .int .i64] xc], AV.int .i64 a1] = some (AV.tup [AV.int .i64 (v32_0 xa xb xc a1), AV.bool (v32_1 xa xb xc a1)]) := (e32 xa xb xc a1).trans ((brO (fun o : Option (Unit ⊕ Int) => some (AV.tup [AV.int .i64 (ro o 0 (sumE (fun _ => 0) (fun p21 => p21))), AV.bool (ro o false (sumE (fun _ => false) (fun p21 => true)))])) (brS (fun o : Unit ⊕ Int => some (AV.tup [AV.int .i64 ((sumE (fun _ => 0) (fun p21 => p21)) o), AV.bool ((sumE (fun _ => false) (fun p21 => true)) o)])) (fun _ => (fun _ => rfl)) (fun p21 => (fun _ => rfl)))) h)
def m32 : TModel
  | [.agg [.sl g0 xa, .sl g1 xb, .sl g2 xc], .int .i64 a1] => bif ctsEq g0 ([.int .i64]) && ctsEq g1 ([.int .i64]) && ctsEq g2 ([.int .i64, .int .i64]) then some (q32 xa xb xc a1, AV.tup [AV.int .i64 (v32_0 xa xb xc a1), AV.bool (v32_1 xa xb xc a1)]) else none
  | _ => none
theorem k32 : Known Try.prog 32 := ⟨Try.f32, Try.func32, by kernel_rfl, by kernel_rfl⟩
theorem meets32 : Meets Try.prog 32 m32 := by
  refine meet (f := Try.f32) (l := [(0, sub [1, 0, 1, 0, 0] (body Try.f32))]) (hs := [(32, 0, [1, 2, 6]), (32, 999, [4, 5]), (32, 1000, []), (32, 1001, [1, 2, 6])]) (ts := []) (ws := []) (is := []) (ls := [(32, 0, l32_0)]) (lvl := 0) mixed k32 Try.func32 (by kernel_rfl) (loops_cons ok32_0 noLoop) allT_nil allM_nil noI fun w xs us r hl hv h => ?_
  unfold m32 at h
  split at h
  · rename_i g0 xa g1 xb g2 xc a1
    obtain ⟨hg, h⟩ := bif_pair h
    simp only [Bool.and_eq_true] at hg
    obtain ⟨⟨q0, q1⟩, q2⟩ := hg
    obtain rfl := ctsEq_eq _ _ q0
    obtain rfl := ctsEq_eq _ _ q1
    obtain rfl := ctsEq_eq _ _ q2
    obtain ⟨h1, rfl⟩ := pair_inj h
    exact r32 xa xb xc a1 h1
  · cases h

/-! ### 31 loop.example/g01984/spec.l4Copy -/
noncomputable def c31 : Cfg := cfg Try.prog [(31, 999, [2])] [] [] [] []
def q31 (xa : List AV) (xb : List AV) (xc : List AV) : Bool := ((decide ((([] : List AV).length + xa.length) * 8 ≤ 140737488355328) && decide ((([] : List AV).length + xa.length) ≤ 140737488355328)) && ((decide ((([] : List AV).length + xb.length) * 8 ≤ 140737488355328) && decide ((([] : List AV).length + xb.length) ≤ 140737488355328)) && (decide ((([] : List AV).length + xc.length) * 16 ≤ 140737488355328) && decide ((([] : List AV).length + xc.length) ≤ 140737488355328))))
def v31_0 (xa : List AV) (xb : List AV) (xc : List AV) : List AV := ([] : List AV) ++ xa
def v31_1 (xa : List AV) (xb : List AV) (xc : List AV) : List AV := ([] : List AV) ++ xb
def v31_2 (xa : List AV) (xb : List AV) (xc : List AV) : List AV := ([] : List AV) ++ xc
theorem e31 (xa : List AV) (xb : List AV) (xc : List AV) : funA c31 0 31 [AV.agg [AV.sl [.int .i64] xa, AV.sl [.int .i64] xb, AV.sl [.int .i64, .int .i64] xc]] = (bif (decide ((([] : List AV).length + xa.length) * 8 ≤ 140737488355328) && decide ((([] : List AV).length + xa.length) ≤ 140737488355328)) then (bif (decide ((([] : List AV).length + xb.length) * 8 ≤ 140737488355328) && decide ((([] : List AV).length + xb.length) ≤ 140737488355328)) then (bif (decide ((([] : List AV).length + xc.length) * 16 ≤ 140737488355328) && decide ((([] : List AV).length + xc.length) ≤ 140737488355328)) then some (AV.agg [AV.fl [.int .i64] (([] : List AV) ++ xa), AV.fl [.int .i64] (([] : List AV) ++ xb), AV.fl [.int .i64, .int .i64] (([] : List AV) ++ xc)])
  else none)
  else none)
  else none) := by kernel_rfl
theorem r31 (xa : List AV) (xb : List AV) (xc : List AV) (h : q31 xa xb xc = true) : funA c31 0 31 [AV.agg [AV.sl [.int .i64] xa, AV.sl [.int .i64] xb, AV.sl [.int .i64, .int .i64] xc]] = some (AV.agg [AV.fl [.int .i64] (v31_0 xa xb xc), AV.fl [.int .i64] (v31_1 xa xb xc), AV.fl [.int .i64, .int .i64] (v31_2 xa xb xc)]) := (e31 xa xb xc).trans ((brL (brL (brL1 (fun _ => rfl)))) h)
def m31 : TModel
  | [.agg [.sl g0 xa, .sl g1 xb, .sl g2 xc]] => bif ctsEq g0 ([.int .i64]) && ctsEq g1 ([.int .i64]) && ctsEq g2 ([.int .i64, .int .i64]) then some (q31 xa xb xc, AV.agg [AV.fl [.int .i64] (v31_0 xa xb xc), AV.fl [.int .i64] (v31_1 xa xb xc), AV.fl [.int .i64, .int .i64] (v31_2 xa xb xc)]) else none
  | _ => none
theorem k31 : Known Try.prog 31 := ⟨Try.f31, Try.func31, by kernel_rfl, by kernel_rfl⟩
theorem meets31 : Meets Try.prog 31 m31 := by
  refine meet (f := Try.f31) (l := []) (hs := [(31, 999, [2])]) (ts := []) (ws := []) (is := []) (ls := []) (lvl := 0) mixed k31 Try.func31 (by kernel_rfl) noLoop allT_nil allM_nil noI fun w xs us r hl hv h => ?_
  unfold m31 at h
  split at h
  · rename_i g0 xa g1 xb g2 xc
    obtain ⟨hg, h⟩ := bif_pair h
    simp only [Bool.and_eq_true] at hg
    obtain ⟨⟨q0, q1⟩, q2⟩ := hg
    obtain rfl := ctsEq_eq _ _ q0
    obtain rfl := ctsEq_eq _ _ q1
    obtain rfl := ctsEq_eq _ _ q2
    obtain ⟨h1, rfl⟩ := pair_inj h
    exact r31 xa xb xc h1
  · cases h

/-! ### 52 loop.example/g01984/spec.l5Swap -/
noncomputable def c52 : Cfg := cfg Try.prog [(52, 999, [])] [] [] [] []
def q52 (a1 : Int) (a2 : Int) (b0 : List AV) : Bool := ((decide (0 ≤ a1) && decide (a1 < (b0.length : Int))) && ((decide (0 ≤ a2) && decide (a2 < (b0.length : Int))) && ((decide (0 ≤ a1) && decide (a1 < (b0.length : Int))) && (decide (0 ≤ a2) && decide (a2 < ((b0.set a1.toNat (AV.agg [AV.int .i64 (fI (b0.getD a2.toNat .undef) 0)])).length : Int))))))
def v52_0 (a1 : Int) (a2 : Int) (b0 : List AV) : List AV := (b0.set a1.toNat (AV.agg [AV.int .i64 (fI (b0.getD a2.toNat .undef) 0)])).set a2.toNat (AV.agg [AV.int .i64 (fI (b0.getD a1.toNat .undef) 0)])
theorem e52 (a1 : Int) (a2 : Int) (b0 : List AV) (K : AV → List Blk → Option AV) : inlA c52 1 52 [AV.own [1], AV.int .i64 a1, AV.int .i64 a2] [0] (canH 1 [⟨false, [.int .i64], b0⟩]) (keepB 1 K) = (bif (decide (0 ≤ a1) && decide (a1 < (b0.length : Int))) then (bif (decide (0 ≤ a2) && decide (a2 < (b0.length : Int))) then (bif (decide (0 ≤ a1) && decide (a1 < (b0.length : Int))) then (bif (decide (0 ≤ a2) && decide (a2 < ((b0.set a1.toNat (AV.agg [AV.int .i64 (fI (b0.getD a2.toNat .undef) 0)])).length : Int))) then K (AV.tup []) [⟨false, [.int .i64], (b0.set a1.toNat (AV.agg [AV.int .i64 (fI (b0.getD a2.toNat .undef) 0)])).set a2.toNat (AV.agg [AV.int .i64 (fI (b0.getD a1.toNat .undef) 0)])⟩]
  else none)
  else none)
  else none)
  else none) := by kernel_rfl
theorem r52 (a1 : Int) (a2 : Int) (b0 : List AV) (K : AV → List Blk → Option AV) (h : q52 a1 a2 b0 = true) : inlA c52 1 52 [AV.own [1], AV.int .i64 a1, AV.int .i64 a2] [0] (canH 1 [⟨false, [.int .i64], b0⟩]) (keepB 1 K) = K (AV.tup []) [⟨false, [.int .i64], (v52_0 a1 a2 b0)⟩] := (e52 a1 a2 b0 K).trans ((brL (brL (brL (brL1 (fun _ => rfl))))) h)
def m52 : WModel
  | [.own g0, .int .i64 a1, .int .i64 a2], [⟨false, g1, b0⟩] => bif nmEq g0 ([1]) && ctsEq g1 ([.int .i64]) then some (q52 a1 a2 b0, AV.tup [], [⟨false, [.int .i64], (v52_0 a1 a2 b0)⟩]) else none
  | _, _ => none
theorem k52 : Known Try.prog 52 := ⟨Try.f52, Try.func52, by kernel_rfl, by kernel_rfl⟩
theorem meets52 : MeetsM Try.prog 52 m52 := by
  refine meetM (f := Try.f52) (l := []) (hs := [(52, 999, [])]) (ts := []) (ws := []) (is := []) (ls := []) (lvl := 0) mixed k52 Try.func52 (by kernel_rfl) noLoop allT_nil allM_nil noI fun C w xs us bs r bs' hl hv hh h K => ?_
  unfold m52 at h
  split at h
  · rename_i g0 a1 a2 g1 b0
    obtain ⟨hg, h⟩ := bif_pair h
    simp only [Bool.and_eq_true] at hg
    obtain ⟨q0, q1⟩ := hg
    obtain rfl := (nmEq_iff _ _).1 q0
    obtain rfl := ctsEq_eq _ _ q1
    obtain ⟨h1, rfl, rfl⟩ := trip_inj h
    exact r52 a1 a2 b0 K h1
  · cases h

/-! ### 35 loop.example/g01984/spec.ApplySwaps -/
def F35_0 (t1 : List AV) (h2_0 : List AV) (h2_1 : List AV) (h2_2 : List AV) (h3 : List AV) (t7 : Int) (h0 : List AV) (h1 : List AV) : Out ((Int × (List AV) × (List AV))) (((List AV) × (List AV)) ⊕ ((List AV) × (List AV) × (List AV) × (List AV) × (List AV))) := (bif decide (t7 < (t1.length : Int)) then (bif (decide (0 ≤ t7) && decide (t7 < (t1.length : Int))) then (bif (decide (0 ≤ t7) && decide (t7 < (t1.length : Int))) then (bif !(v28_0 (fI (t1.getD t7.toNat .undef) 0) 0 (IntKind.i64.wrap ((h0.length : Int) - 1))) then (bif q31 h2_0 h2_1 h2_2 then .stop (.inr (h0, h1, (v31_0 h2_0 h2_1 h2_2), (v31_1 h2_0 h2_1 h2_2), (v31_2 h2_0 h2_1 h2_2)))
  else .fail)
  else (bif !(v28_0 (fI (t1.getD t7.toNat .undef) 1) 0 (IntKind.i64.wrap ((h0.length : Int) - 1))) then (bif q31 h2_0 h2_1 h2_2 then .stop (.inr (h0, h1, (v31_0 h2_0 h2_1 h2_2), (v31_1 h2_0 h2_1 h2_2), (v31_2 h2_0 h2_1 h2_2)))
  else .fail)
  else (bif q52 (fI (t1.getD t7.toNat .undef) 0) (fI (t1.getD t7.toNat .undef) 1) h0 then (bif q52 (fI (t1.getD t7.toNat .undef) 0) (fI (t1.getD t7.toNat .undef) 1) h1 then .next (IntKind.i64.wrap (t7 + 1), (v52_0 (fI (t1.getD t7.toNat .undef) 0) (fI (t1.getD t7.toNat .undef) 1) h0), (v52_0 (fI (t1.getD t7.toNat .undef) 0) (fI (t1.getD t7.toNat .undef) 1) h1))
  else .fail)
  else .fail)))
  else .fail)
  else .fail)
  else .stop (.inl (h0, h1)))
def R35_0 (t1 : List AV) (h2_0 : List AV) (h2_1 : List AV) (h2_2 : List AV) (h3 : List AV) : ((Int × (List AV) × (List AV))) → Out ((Int × (List AV) × (List AV))) (((List AV) × (List AV)) ⊕ ((List AV) × (List AV) × (List AV) × (List AV) × (List AV))) := fun s : Int × (List AV) × (List AV) => F35_0 t1 h2_0 h2_1 h2_2 h3 s.1 s.2.1 s.2.2
def l35_0 : LModel := fun _ _ st k => match st with
  | ⟨[(1, .sl g0 t1), (2, .ptr g1 g2 g3), (4, .ptr g4 g5 g6), (6, .ptr g7 g8 g9), (7, .int .i64 t7)], [(g10, ⟨false, g11, h0⟩), (g12, ⟨false, g13, h1⟩), (g14, ⟨true, [], [.agg [.sl g15 h2_0, .sl g16 h2_1, .sl g17 h2_2]]⟩), (g18, ⟨false, g19, h3⟩), (g20, ⟨true, [], [.agg [.snil, .snil, .snil]]⟩), (g21, ⟨true, [], [.agg [.own g22, .own g23, .own g24]]⟩)]⟩ => bif ctsEq g0 ([.int .i64, .int .i64]) && nmEq g1 ([0, 2]) && Nat.beq g2 0 && Nat.beq g3 0 && nmEq g4 ([0, 4]) && Nat.beq g5 0 && Nat.beq g6 0 && nmEq g7 ([0, 6]) && Nat.beq g8 0 && Nat.beq g9 0 && nmEq g10 ([0, 0, 6]) && ctsEq g11 ([.int .i64]) && nmEq g12 ([0, 1, 6]) && ctsEq g13 ([.int .i64]) && nmEq g14 ([0, 2]) && ctsEq g15 ([.int .i64]) && ctsEq g16 ([.int .i64]) && ctsEq g17 ([.int .i64, .int .i64]) && nmEq g18 ([0, 2, 6]) && ctsEq g19 ([.int .i64, .int .i64]) && nmEq g20 ([0, 4]) && nmEq g21 ([0, 6]) && nmEq g22 ([0, 0, 6]) && nmEq g23 ([0, 1, 6]) && nmEq g24 ([0, 2, 6]) then ro (runW (R35_0 t1 h2_0 h2_1 h2_2 h3) (((t1.length : Int) - t7).toNat + 1) (t7, h0, h1)) none (sumE (fun p : (List AV) × (List AV) => k (.exit 0) ⟨[(4, AV.ptr [0, 4] 0 0), (6, AV.ptr [0, 6] 0 0)], [([0, 0, 6], ⟨false, [.int .i64], p.1⟩), ([0, 1, 6], ⟨false, [.int .i64], p.2⟩), ([0, 2], ⟨true, [], [AV.agg [AV.sl [.int .i64] h2_0, AV.sl [.int .i64] h2_1, AV.sl [.int .i64, .int .i64] h2_2]]⟩), ([0, 2, 6], ⟨false, [.int .i64, .int .i64], h3⟩), ([0, 4], ⟨true, [], [AV.agg [AV.snil, AV.snil, AV.snil]]⟩), ([0, 6], ⟨true, [], [AV.agg [AV.own [0, 0, 6], AV.own [0, 1, 6], AV.own [0, 2, 6]]]⟩)]⟩) (fun p : (List AV) × (List AV) × (List AV) × (List AV) × (List AV) => k .ret ⟨[(4, AV.ptr [0, 4] 0 0), (5, AV.bool false)], [([0, 0, 6], ⟨false, [.int .i64], p.1⟩), ([0, 1, 6], ⟨false, [.int .i64], p.2.1⟩), ([0, 1, 53], ⟨false, [.int .i64], p.2.2.1⟩), ([0, 2], ⟨true, [], [AV.agg [AV.sl [.int .i64] h2_0, AV.sl [.int .i64] h2_1, AV.sl [.int .i64, .int .i64] h2_2]]⟩), ([0, 2, 6], ⟨false, [.int .i64, .int .i64], h3⟩), ([0, 4], ⟨true, [], [AV.agg [AV.own [0, 1, 53], AV.own [1, 1, 53], AV.own [2, 1, 53]]]⟩), ([0, 6], ⟨true, [], [AV.agg [AV.own [0, 0, 6], AV.own [0, 1, 6], AV.own [0, 2, 6]]]⟩), ([1, 1, 53], ⟨false, [.int .i64], p.2.2.2.1⟩), ([2, 1, 53], ⟨false, [.int .i64, .int .i64], p.2.2.2.2⟩)]⟩)) else none
  | _ => none
noncomputable def c35 : Cfg := cfg Try.prog [(35, 0, [1, 2, 4, 6, 7]), (35, 999, [4, 5]), (35, 1000, [4, 6]), (35, 1001, [1, 2, 4, 6, 7])] [(28, m28), (31, m31)] [(52, m52)] [] [(35, 0, l35_0)]
theorem s35_0 (ce : CallE) (t1 : List AV) (t7 : Int) (h0 : List AV) (h1 : List AV) (h2_0 : List AV) (h2_1 : List AV) (h2_2 : List AV) (h3 : List AV) (next : St → Option AV) (k : Kont) : stepA (codeA c35 ce [] 35 0 (sub [1, 1, 1, 0, 1, 0, 0] (body Try.f35))) (normA [] [1, 2, 4, 6, 7]) next ⟨[(1, AV.sl [.int .i64, .int .i64] t1), (2, AV.ptr [0, 2] 0 0), (4, AV.ptr [0, 4] 0 0), (6, AV.ptr [0, 6] 0 0), (7, AV.int .i64 t7)], [([0, 0, 6], ⟨false, [.int .i64], h0⟩), ([0, 1, 6], ⟨false, [.int .i64], h1⟩), ([0, 2], ⟨true, [], [AV.agg [AV.sl [.int .i64] h2_0, AV.sl [.int .i64] h2_1, AV.sl [.int .i64, .int .i64] h2_2]]⟩), ([0, 2, 6], ⟨false, [.int .i64, .int .i64], h3⟩), ([0, 4], ⟨true, [], [AV.agg [AV.snil, AV.snil, AV.snil]]⟩), ([0, 6], ⟨true, [], [AV.agg [AV.own [0, 0, 6], AV.own [0, 1, 6], AV.own [0, 2, 6]]]⟩)]⟩ k = (bif decide (t7 < (t1.length : Int)) then (bif (decide (0 ≤ t7) && decide (t7 < (t1.length : Int))) then (bif (decide (0 ≤ t7) && decide (t7 < (t1.length : Int))) then (bif !(v28_0 (fI (t1.getD t7.toNat .undef) 0) 0 (IntKind.i64.wrap ((h0.length : Int) - 1))) then (bif q31 h2_0 h2_1 h2_2 then k .ret ⟨[(4, AV.ptr [0, 4] 0 0), (5, AV.bool false)], [([0, 0, 6], ⟨false, [.int .i64], h0⟩), ([0, 1, 6], ⟨false, [.int .i64], h1⟩), ([0, 1, 53], ⟨false, [.int .i64], (v31_0 h2_0 h2_1 h2_2)⟩), ([0, 2], ⟨true, [], [AV.agg [AV.sl [.int .i64] h2_0, AV.sl [.int .i64] h2_1, AV.sl [.int .i64, .int .i64] h2_2]]⟩), ([0, 2, 6], ⟨false, [.int .i64, .int .i64], h3⟩), ([0, 4], ⟨true, [], [AV.agg [AV.own [0, 1, 53], AV.own [1, 1, 53], AV.own [2, 1, 53]]]⟩), ([0, 6], ⟨true, [], [AV.agg [AV.own [0, 0, 6], AV.own [0, 1, 6], AV.own [0, 2, 6]]]⟩), ([1, 1, 53], ⟨false, [.int .i64], (v31_1 h2_0 h2_1 h2_2)⟩), ([2, 1, 53], ⟨false, [.int .i64, .int .i64], (v31_2 h2_0 h2_1 h2_2)⟩)]⟩
  else none)
  else (bif !(v28_0 (fI (t1.getD t7.toNat .undef) 1) 0 (IntKind.i64.wrap ((h0.length : Int) - 1))) then (bif q31 h2_0 h2_1 h2_2 then k .ret ⟨[(4, AV.ptr [0, 4] 0 0), (5, AV.bool false)], [([0, 0, 6], ⟨false, [.int .i64], h0⟩), ([0, 1, 6], ⟨false, [.int .i64], h1⟩), ([0, 1, 53], ⟨false, [.int .i64], (v31_0 h2_0 h2_1 h2_2)⟩), ([0, 2], ⟨true, [], [AV.agg [AV.sl [.int .i64] h2_0, AV.sl [.int .i64] h2_1, AV.sl [.int .i64, .int .i64] h2_2]]⟩), ([0, 2, 6], ⟨false, [.int .i64, .int .i64], h3⟩), ([0, 4], ⟨true, [], [AV.agg [AV.own [0, 1, 53], AV.own [1, 1, 53], AV.own [2, 1, 53]]]⟩), ([0, 6], ⟨true, [], [AV.agg [AV.own [0, 0, 6], AV.own [0, 1, 6], AV.own [0, 2, 6]]]⟩), ([1, 1, 53], ⟨false, [.int .i64], (v31_1 h2_0 h2_1 h2_2)⟩), ([2, 1, 53], ⟨false, [.int .i64, .int .i64], (v31_2 h2_0 h2_1 h2_2)⟩)]⟩
  else none)
  else (bif q52 (fI (t1.getD t7.toNat .undef) 0) (fI (t1.getD t7.toNat .undef) 1) h0 then (bif q52 (fI (t1.getD t7.toNat .undef) 0) (fI (t1.getD t7.toNat .undef) 1) h1 then next ⟨[(1, AV.sl [.int .i64, .int .i64] t1), (2, AV.ptr [0, 2] 0 0), (4, AV.ptr [0, 4] 0 0), (6, AV.ptr [0, 6] 0 0), (7, AV.int .i64 (IntKind.i64.wrap (t7 + 1)))], [([0, 0, 6], ⟨false, [.int .i64], (v52_0 (fI (t1.getD t7.toNat .undef) 0) (fI (t1.getD t7.toNat .undef) 1) h0)⟩), ([0, 1, 6], ⟨false, [.int .i64], (v52_0 (fI (t1.getD t7.toNat .undef) 0) (fI (t1.getD t7.toNat .undef) 1) h1)⟩), ([0, 2], ⟨true, [], [AV.agg [AV.sl [.int .i64] h2_0, AV.sl [.int .i64] h2_1, AV.sl [.int .i64, .int .i64] h2_2]]⟩), ([0, 2, 6], ⟨false, [.int .i64, .int .i64], h3⟩), ([0, 4], ⟨true, [], [AV.agg [AV.snil, AV.snil, AV.snil]]⟩), ([0, 6], ⟨true, [], [AV.agg [AV.own [0, 0, 6], AV.own [0, 1, 6], AV.own [0, 2, 6]]]⟩)]⟩
  else none)
  else none)))
  else none)
  else none)
  else k (.exit 0) ⟨[(4, AV.ptr [0, 4] 0 0), (6, AV.ptr [0, 6] 0 0)], [([0, 0, 6], ⟨false, [.int .i64], h0⟩), ([0, 1, 6], ⟨false, [.int .i64], h1⟩), ([0, 2], ⟨true, [], [AV.agg [AV.sl [.int .i64] h2_0, AV.sl [.int .i64] h2_1, AV.sl [.int .i64, .int .i64] h2_2]]⟩), ([0, 2, 6], ⟨false, [.int .i64, .int .i64], h3⟩), ([0, 4], ⟨true, [], [AV.agg [AV.snil, AV.snil, AV.snil]]⟩), ([0, 6], ⟨true, [], [AV.agg [AV.own [0, 0, 6], AV.own [0, 1, 6], AV.own [0, 2, 6]]]⟩)]⟩) := by kernel_rfl
theorem st35_0 (t1 : List AV) (h2_0 : List AV) (h2_1 : List AV) (h2_2 : List AV) (h3 : List AV) (ce : CallE) (k : Kont) (s : (Int × (List AV) × (List AV))) (next : St → Option AV) : stepA (codeA c35 ce [] 35 0 (sub [1, 1, 1, 0, 1, 0, 0] (body Try.f35))) (normA [] [1, 2, 4, 6, 7]) next ((fun s : Int × (List AV) × (List AV) => ⟨[(1, AV.sl [.int .i64, .int .i64] t1), (2, AV.ptr [0, 2] 0 0), (4, AV.ptr [0, 4] 0 0), (6, AV.ptr [0, 6] 0 0), (7, AV.int .i64 s.1)], [([0, 0, 6], ⟨false, [.int .i64], s.2.1⟩), ([0, 1, 6], ⟨false, [.int .i64], s.2.2⟩), ([0, 2], ⟨true, [], [AV.agg [AV.sl [.int .i64] h2_0, AV.sl [.int .i64] h2_1, AV.sl [.int .i64, .int .i64] h2_2]]⟩), ([0, 2, 6], ⟨false, [.int .i64, .int .i64], h3⟩), ([0, 4], ⟨true, [], [AV.agg [AV.snil, AV.snil, AV.snil]]⟩), ([0, 6], ⟨true, [], [AV.agg [AV.own [0, 0, 6], AV.own [0, 1, 6], AV.own [0, 2, 6]]]⟩)]⟩) s) k = (R35_0 t1 h2_0 h2_1 h2_2 h3 s).el none (fun s => next ((fun s : Int × (List AV) × (List AV) => ⟨[(1, AV.sl [.int .i64, .int .i64] t1), (2, AV.ptr [0, 2] 0 0), (4, AV.ptr [0, 4] 0 0), (6, AV.ptr [0, 6] 0 0), (7, AV.int .i64 s.1)], [([0, 0, 6], ⟨false, [.int .i64], s.2.1⟩), ([0, 1, 6], ⟨false, [.int .i64], s.2.2⟩), ([0, 2], ⟨true, [], [AV.agg [AV.sl [.int .i64] h2_0, AV.sl [.int .i64] h2_1, AV.sl [.int .i64, .int .i64] h2_2]]⟩), ([0, 2, 6], ⟨false, [.int .i64, .int .i64], h3⟩), ([0, 4], ⟨true, [], [AV.agg [AV.snil, AV.snil, AV.snil]]⟩), ([0, 6], ⟨true, [], [AV.agg [AV.own [0, 0, 6], AV.own [0, 1, 6], AV.own [0, 2, 6]]]⟩)]⟩) s)) (sumE (fun p : (List AV) × (List AV) => k (.exit 0) ⟨[(4, AV.ptr [0, 4] 0 0), (6, AV.ptr [0, 6] 0 0)], [([0, 0, 6], ⟨false, [.int .i64], p.1⟩), ([0, 1, 6], ⟨false, [.int .i64], p.2⟩), ([0, 2], ⟨true, [], [AV.agg [AV.sl [.int .i64] h2_0, AV.sl [.int .i64] h2_1, AV.sl [.int .i64, .int .i64] h2_2]]⟩), ([0, 2, 6], ⟨false, [.int .i64, .int .i64], h3⟩), ([0, 4], ⟨true, [], [AV.agg [AV.snil, AV.snil, AV.snil]]⟩), ([0, 6], ⟨true, [], [AV.agg [AV.own [0, 0, 6], AV.own [0, 1, 6], AV.own [0, 2, 6]]]⟩)]⟩) (fun p : (List AV) × (List AV) × (List AV) × (List AV) × (List AV) => k .ret ⟨[(4, AV.ptr [0, 4] 0 0), (5, AV.bool false)], [([0, 0, 6], ⟨false, [.int .i64], p.1⟩), ([0, 1, 6], ⟨false, [.int .i64], p.2.1⟩), ([0, 1, 53], ⟨false, [.int .i64], p.2.2.1⟩), ([0, 2], ⟨true, [], [AV.agg [AV.sl [.int .i64] h2_0, AV.sl [.int .i64] h2_1, AV.sl [.int .i64, .int .i64] h2_2]]⟩), ([0, 2, 6], ⟨false, [.int .i64, .int .i64], h3⟩), ([0, 4], ⟨true, [], [AV.agg [AV.own [0, 1, 53], AV.own [1, 1, 53], AV.own [2, 1, 53]]]⟩), ([0, 6], ⟨true, [], [AV.agg [AV.own [0, 0, 6], AV.own [0, 1, 6], AV.own [0, 2, 6]]]⟩), ([1, 1, 53], ⟨false, [.int .i64], p.2.2.2.1⟩), ([2, 1, 53], ⟨false, [.int .i64, .int .i64], p.2.2.2.2⟩)]⟩)) := (s35_0 ce t1 s.1 s.2.1 s.2.2 h2_0 h2_1 h2_2 h3 next k).trans (by unfold R35_0; unfold F35_0; simp only [el_cond, el_ro, el_sum, el_fail, el_next, el_stop] <;> rfl)
theorem ok35_0 {ce : CallE} : LoopOK c35 ce [] 35 0 (sub [1, 1, 1, 0, 1, 0, 0] (body Try.f35)) := by
  intro m hm st k r h
  obtain rfl : l35_0 = m := Option.some.inj hm
  unfold l35_0 at h
  split at h
  · rename_i g0 t1 g1 g2 g3 g4 g5 g6 g7 g8 g9 t7 g10 g11 h0 g12 g13 h1 g14 g15 h2_0 g16 h2_1 g17 h2_2 g18 g19 h3 g20 g21 g22 g23 g24
    obtain ⟨hg, h⟩ := bif_some h
    simp only [Bool.and_eq_true] at hg
    obtain ⟨⟨⟨⟨⟨⟨⟨⟨⟨⟨⟨⟨⟨⟨⟨⟨⟨⟨⟨⟨⟨⟨⟨⟨q0, q1⟩, q2⟩, q3⟩, q4⟩, q5⟩, q6⟩, q7⟩, q8⟩, q9⟩, q10⟩, q11⟩, q12⟩, q13⟩, q14⟩, q15⟩, q16⟩, q17⟩, q18⟩, q19⟩, q20⟩, q21⟩, q22⟩, q23⟩, q24⟩ := hg
    obtain rfl := ctsEq_eq _ _ q0
    obtain rfl := (nmEq_iff _ _).1 q1
    obtain rfl := Nat.eq_of_beq_eq_true q2
    obtain rfl := Nat.eq_of_beq_eq_true q3
    obtain rfl := (nmEq_iff _ _).1 q4
    obtain rfl := Nat.eq_of_beq_eq_true q5
    obtain rfl := Nat.eq_of_beq_eq_true q6
    obtain rfl := (nmEq_iff _ _).1 q7
    obtain rfl := Nat.eq_of_beq_eq_true q8
    obtain rfl := Nat.eq_of_beq_eq_true q9
    obtain rfl := (nmEq_iff _ _).1 q10
    obtain rfl := ctsEq_eq _ _ q11
    obtain rfl := (nmEq_iff _ _).1 q12
    obtain rfl := ctsEq_eq _ _ q13
    obtain rfl := (nmEq_iff _ _).1 q14
    obtain rfl := ctsEq_eq _ _ q15
    obtain rfl := ctsEq_eq _ _ q16
    obtain rfl := ctsEq_eq _ _ q17
    obtain rfl := (nmEq_iff _ _).1 q18
    obtain rfl := ctsEq_eq _ _ q19
    obtain rfl := (nmEq_iff _ _).1 q20
    obtain rfl := (nmEq_iff _ _).1 q21
    obtain rfl := (nmEq_iff _ _).1 q22
    obtain rfl := (nmEq_iff _ _).1 q23
    obtain rfl := (nmEq_iff _ _).1 q24
    refine ⟨(((t1.length : Int) - t7).toNat + 1), ?_⟩
    rw [← h]
    exact loop_run (fun s : Int × (List AV) × (List AV) => ⟨[(1, AV.sl [.int .i64, .int .i64] t1), (2, AV.ptr [0, 2] 0 0), (4, AV.ptr [0, 4] 0 0), (6, AV.ptr [0, 6] 0 0), (7, AV.int .i64 s.1)], [([0, 0, 6], ⟨false, [.int .i64], s.2.1⟩), ([0, 1, 6], ⟨false, [.int .i64], s.2.2⟩), ([0, 2], ⟨true, [], [AV.agg [AV.sl [.int .i64] h2_0, AV.sl [.int .i64] h2_1, AV.sl [.int .i64, .int .i64] h2_2]]⟩), ([0, 2, 6], ⟨false, [.int .i64, .int .i64], h3⟩), ([0, 4], ⟨true, [], [AV.agg [AV.snil, AV.snil, AV.snil]]⟩), ([0, 6], ⟨true, [], [AV.agg [AV.own [0, 0, 6], AV.own [0, 1, 6], AV.own [0, 2, 6]]]⟩)]⟩) (sumE (fun p : (List AV) × (List AV) => k (.exit 0) ⟨[(4, AV.ptr [0, 4] 0 0), (6, AV.ptr [0, 6] 0 0)], [([0, 0, 6], ⟨false, [.int .i64], p.1⟩), ([0, 1, 6], ⟨false, [.int .i64], p.2⟩), ([0, 2], ⟨true, [], [AV.agg [AV.sl [.int .i64] h2_0, AV.sl [.int .i64] h2_1, AV.sl [.int .i64, .int .i64] h2_2]]⟩), ([0, 2, 6], ⟨false, [.int .i64, .int .i64], h3⟩), ([0, 4], ⟨true, [], [AV.agg [AV.snil, AV.snil, AV.snil]]⟩), ([0, 6], ⟨true, [], [AV.agg [AV.own [0, 0, 6], AV.own [0, 1, 6], AV.own [0, 2, 6]]]⟩)]⟩) (fun p : (List AV) × (List AV) × (List AV) × (List AV) × (List AV) => k .ret ⟨[(4, AV.ptr [0, 4] 0 0), (5, AV.bool false)], [([0, 0, 6], ⟨false, [.int .i64], p.1⟩), ([0, 1, 6], ⟨false, [.int .i64], p.2.1⟩), ([0, 1, 53], ⟨false, [.int .i64], p.2.2.1⟩), ([0, 2], ⟨true, [], [AV.agg [AV.sl [.int .i64] h2_0, AV.sl [.int .i64] h2_1, AV.sl [.int .i64, .int .i64] h2_2]]⟩), ([0, 2, 6], ⟨false, [.int .i64, .int .i64], h3⟩), ([0, 4], ⟨true, [], [AV.agg [AV.own [0, 1, 53], AV.own [1, 1, 53], AV.own [2, 1, 53]]]⟩), ([0, 6], ⟨true, [], [AV.agg [AV.own [0, 0, 6], AV.own [0, 1, 6], AV.own [0, 2, 6]]]⟩), ([1, 1, 53], ⟨false, [.int .i64], p.2.2.2.1⟩), ([2, 1, 53], ⟨false, [.int .i64, .int .i64], p.2.2.2.2⟩)]⟩)) (st35_0 t1 h2_0 h2_1 h2_2 h3 ce k) _ (t7, h0, h1)
  · cases h
def q35 (xa : List AV) (xb : List AV) (xc : List AV) (a1 : List AV) : Bool := (q31 xa xb xc && (bif !decide (((v31_1 xa xb xc).length : Int) = ((v31_0 xa xb xc).length : Int)) then true else (ro (runW (R35_0 a1 xa xb xc (v31_2 xa xb xc)) (((a1.length : Int) - 0).toNat + 1) (0, (v31_0 xa xb xc), (v31_1 xa xb xc))) false (sumE (fun p22 => true) (fun p23 => true)))))
def v35_0 (xa : List AV) (xb : List AV) (xc : List AV) (a1 : List AV) : List AV := (bif !decide (((v31_1 xa xb xc).length : Int) = ((v31_0 xa xb xc).length : Int)) then (v31_0 xa xb xc) else (ro (runW (R35_0 a1 xa xb xc (v31_2 xa xb xc)) (((a1.length : Int) - 0).toNat + 1) (0, (v31_0 xa xb xc), (v31_1 xa xb xc))) [] (sumE (fun p22 => p22.1) (fun p23 => p23.2.2.1))))
def v35_1 (xa : List AV) (xb : List AV) (xc : List AV) (a1 : List AV) : List AV := (bif !decide (((v31_1 xa xb xc).length : Int) = ((v31_0 xa xb xc).length : Int)) then (v31_1 xa xb xc) else (ro (runW (R35_0 a1 xa xb xc (v31_2 xa xb xc)) (((a1.length : Int) - 0).toNat + 1) (0, (v31_0 xa xb xc), (v31_1 xa xb xc))) [] (sumE (fun p22 => p22.2) (fun p23 => p23.2.2.2.1))))
def v35_2 (xa : List AV) (xb : List AV) (xc : List AV) (a1 : List AV) : List AV := (bif !decide (((v31_1 xa xb xc).length : Int) = ((v31_0 xa xb xc).length : Int)) then (v31_2 xa xb xc) else (ro (runW (R35_0 a1 xa xb xc (v31_2 xa xb xc)) (((a1.length : Int) - 0).toNat + 1) (0, (v31_0 xa xb xc), (v31_1 xa xb xc))) [] (sumE (fun p22 => (v31_2 xa xb xc)) (fun p23 => p23.2.2.2.2))))
def v35_3 (xa : List AV) (xb : List AV) (xc : List AV) (a1 : List AV) : Bool := (bif !decide (((v31_1 xa xb xc).length : Int) = ((v31_0 xa xb xc).length : Int)) then false else (ro (runW (R35_0 a1 xa xb xc (v31_2 xa xb xc)) (((a1.length : Int) - 0).toNat + 1) (0, (v31_0 xa xb xc), (v31_1 xa xb xc))) false (sumE (fun p22 => true) (fun p23 => false))))
theorem e35 (xa : List AV) (xb : List AV) (xc : List AV) (a1 : List AV) : funA c35 0 35 [AV.agg [AV.sl [.int .i64] xa, AV.sl [.int .i64] xb, AV.sl [.int .i64, .int .i64] xc], AV.sl [.int .i64, .int .i64] a1] = (bif q31 xa xb xc then (bif !decide (((v31_1 xa xb xc).length : Int) = ((v31_0 xa xb xc).length : Int)) then some (AV.tup [AV.agg [AV.fl [.int .i64] (v31_0 xa xb xc), AV.fl [.int .i64] (v31_1 xa xb xc), AV.fl [.int .i64, .int .i64] (v31_2 xa xb xc)], AV.bool false])
  else (ro (runW (R35_0 a1 xa xb xc (v31_2 xa xb xc)) (((a1.length : Int) - 0).toNat + 1) (0, (v31_0 xa xb xc), (v31_1 xa xb xc))) none (sumE (fun p22 => some (AV.tup [AV.agg [AV.fl [.int .i64] p22.1, AV.fl [.int .i64] p22.2, AV.fl [.int .i64, .int .i64] (v31_2 xa xb xc)], AV.bool true])) (fun p23 => some (AV.tup [AV.agg [AV.fl [.int .i64] p23.2.2.1, AV.fl [.int .i64] p23.2.2.2.1, AV.fl [.int .i64, .int .i64] p23.2.2.2.2], AV.bool false])))))
  else none) := by kernel_rfl
theorem r35 (xa : List AV) (xb : List AV) (xc : List AV) (a1 : List AV) (h : q35 xa xb xc a1 = true) : funA c35 0 35 [AV.agg [AV.sl [.int .i64] xa, AV.sl [.int .i64] xb, AV.sl [.int .i64, .int .i64] xc], AV.sl [.int .i64, .int .i64] a1] = some (AV.tup [AV.agg [AV.fl [.int .i64] (v35_0 xa xb xc a1), AV.fl [.int .i64] (v35_1 xa xb xc a1), AV.fl [.int .i64, .int .i64] (v35_2 xa xb xc a1)], AV.bool (v35_3 xa xb xc a1)]) := (e35 xa xb xc a1).trans ((brL (br (fun b => some (AV.tup [AV.agg [AV.fl [.int .i64] (bif b then (v31_0 xa xb xc) else (ro (runW (R35_0 a1 xa xb xc (v31_2 xa xb xc)) (((a1.length : Int) - 0).toNat + 1) (0, (v31_0 xa xb xc), (v31_1 xa xb xc))) [] (sumE (fun p22 => p22.1) (fun p23 => p23.2.2.1)))), AV.fl [.int .i64] (bif b then (v31_1 xa xb xc) else (ro (runW (R35_0 a1 xa xb xc (v31_2 xa xb xc)) (((a1.length : Int) - 0).toNat + 1) (0, (v31_0 xa xb xc), (v31_1 xa xb xc))) [] (sumE (fun p22 => p22.2) (fun p23 => p23.2.2.2.1)))), AV.fl [.int .i64, .int .i64] (bif b then (v31_2 xa xb xc) else (ro (runW (R35_0 a1 xa xb xc (v31_2 xa xb xc)) (((a1.length : Int) - 0).toNat + 1) (0, (v31_0 xa xb xc), (v31_1 xa xb xc))) [] (sumE (fun p22 => (v31_2 xa xb xc)) (fun p23 => p23.2.2.2.2))))], AV.bool (bif b then false else (ro (runW (R35_0 a1 xa xb xc (v31_2 xa xb xc)) (((a1.length : Int) - 0).toNat + 1) (0, (v31_0 xa xb xc), (v31_1 xa xb xc))) false (sumE (fun p22 => true) (fun p23 => false))))])) (fun _ => rfl) (brO (fun o : Option (((List AV) × (List AV)) ⊕ ((List AV) × (List AV) × (List AV) × (List AV) × (List AV))) => some (AV.tup [AV.agg [AV.fl [.int .i64] (ro o [] (sumE (fun p22 => p22.1) (fun p23 => p23.2.2.1))), AV.fl [.int .i64] (ro o [] (sumE (fun p22 => p22.2) (fun p23 => p23.2.2.2.1))), AV.fl [.int .i64, .int .i64] (ro o [] (sumE (fun p22 => (v31_2 xa xb xc)) (fun p23 => p23.2.2.2.2)))], AV.bool (ro o false (sumE (fun p22 => true) (fun p23 => false)))])) (brS (fun o : ((List AV) × (List AV)) ⊕ ((List AV) × (List AV) × (List AV) × (List AV) × (List AV)) => some (AV.tup [AV.agg [AV.fl [.int .i64] ((sumE (fun p22 => p22.1) (fun p23 => p23.2.2.1)) o), AV.fl [.int .i64] ((sumE (fun p22 => p22.2) (fun p23 => p23.2.2.2.1)) o), AV.fl [.int .i64, .int .i64] ((sumE (fun p22 => (v31_2 xa xb xc)) (fun p23 => p23.2.2.2.2)) o)], AV.bool ((sumE (fun p22 => true) (fun p23 => false)) o)])) (fun p22 => (fun _ => rfl)) (fun p23 => (fun _ => rfl)))))) h)
def m35 : TModel
  | [.agg [.sl g0 xa, .sl g1 xb, .sl g2 xc], .sl g3 a1] => bif ctsEq g0 ([.int .i64]) && ctsEq g1 ([.int .i64]) && ctsEq g2 ([.int .i64, .int .i64]) && ctsEq g3 ([.int .i64, .int .i64]) then some (q35 xa xb xc a1, AV.tup [AV.agg [AV.fl [.int .i64] (v35_0 xa xb xc a1), AV.fl [.int .i64] (v35_1 xa xb xc a1), AV.fl [.int .i64, .int .i64] (v35_2 xa xb xc a1)], AV.bool (v35_3 xa xb xc a1)]) else none
  | _ => none
theorem k35 : Known Try.prog 35 := ⟨Try.f35, Try.func35, by kernel_rfl, by kernel_rfl⟩
theorem meets35 : Meets Try.prog 35 m35 := by
  refine meet (f := Try.f35) (l := [(0, sub [1, 1, 1, 0, 1, 0, 0] (body Try.f35))]) (hs := [(35, 0, [1, 2, 4, 6, 7]), (35, 999, [4, 5]), (35, 1000, [4, 6]), (35, 1001, [1, 2, 4, 6, 7])]) (ts := [(28, m28), (31, m31)]) (ws := [(52, m52)]) (is := []) (ls := [(35, 0, l35_0)]) (lvl := 0) mixed k35 Try.func35 (by kernel_rfl) (loops_cons ok35_0 noLoop) (allT_cons meets28 (allT_cons meets31 allT_nil)) (allM_cons meets52 allM_nil) noI fun w xs us r hl hv h => ?_
  unfold m35 at h
  split at h
  · rename_i g0 xa g1 xb g2 xc g3 a1
    obtain ⟨hg, h⟩ := bif_pair h
    simp only [Bool.and_eq_true] at hg
    obtain ⟨⟨⟨q0, q1⟩, q2⟩, q3⟩ := hg
    obtain rfl := ctsEq_eq _ _ q0
    obtain rfl := ctsEq_eq _ _ q1
    obtain rfl := ctsEq_eq _ _ q2
    obtain rfl := ctsEq_eq _ _ q3
    obtain ⟨h1, rfl⟩ := pair_inj h
    exact r35 xa xb xc a1 h1
  · cases h

/-! ### 36 loop.example/g01984/spec.AddPivot -/
def F36_0 (h0 : List AV) (h1 : List AV) (h2_0 : List AV) (h2_1 : List AV) (h2_2 : List AV) (h4_0 : Int) (h4_1 : Int) (t7 : Bool) (t8 : Int) (h3 : List AV) : Out ((Bool × Int × (List AV))) ((Bool × (List AV))) := (bif decide (t8 < (h2_2.length : Int)) then (bif !t7 then (bif (decide (0 ≤ t8) && decide (t8 < (h2_2.length : Int))) then (bif decide (fI (h2_2.getD t8.toNat .undef) 0 > h4_0) then (bif (decide ((h3.length + ([AV.agg [AV.int .i64 h4_0, AV.int .i64 h4_1]]).length) * 16 ≤ 140737488355328) && decide ((h3.length + ([AV.agg [AV.int .i64 h4_0, AV.int .i64 h4_1]]).length) ≤ 140737488355328)) then (bif (decide (0 ≤ t8) && decide (t8 < (h2_2.length : Int))) then (bif (decide (((h3 ++ ([AV.agg [AV.int .i64 h4_0, AV.int .i64 h4_1]])).length + ([AV.agg [AV.int .i64 (fI (h2_2.getD t8.toNat .undef) 0), AV.int .i64 (fI (h2_2.getD t8.toNat .undef) 1)]]).length) * 16 ≤ 140737488355328) && decide (((h3 ++ ([AV.agg [AV.int .i64 h4_0, AV.int .i64 h4_1]])).length + ([AV.agg [AV.int .i64 (fI (h2_2.getD t8.toNat .undef) 0), AV.int .i64 (fI (h2_2.getD t8.toNat .undef) 1)]]).length) ≤ 140737488355328)) then .next (true, IntKind.i64.wrap (t8 + 1), (h3 ++ ([AV.agg [AV.int .i64 h4_0, AV.int .i64 h4_1]])) ++ ([AV.agg [AV.int .i64 (fI (h2_2.getD t8.toNat .undef) 0), AV.int .i64 (fI (h2_2.getD t8.toNat .undef) 1)]]))
  else .fail)
  else .fail)
  else .fail)
  else (bif (decide (0 ≤ t8) && decide (t8 < (h2_2.length : Int))) then (bif (decide ((h3.length + ([AV.agg [AV.int .i64 (fI (h2_2.getD t8.toNat .undef) 0), AV.int .i64 (fI (h2_2.getD t8.toNat .undef) 1)]]).length) * 16 ≤ 140737488355328) && decide ((h3.length + ([AV.agg [AV.int .i64 (fI (h2_2.getD t8.toNat .undef) 0), AV.int .i64 (fI (h2_2.getD t8.toNat .undef) 1)]]).length) ≤ 140737488355328)) then .next (t7, IntKind.i64.wrap (t8 + 1), h3 ++ ([AV.agg [AV.int .i64 (fI (h2_2.getD t8.toNat .undef) 0), AV.int .i64 (fI (h2_2.getD t8.toNat .undef) 1)]]))
  else .fail)
  else .fail))
  else .fail)
  else (bif (decide (0 ≤ t8) && decide (t8 < (h2_2.length : Int))) then (bif (decide ((h3.length + ([AV.agg [AV.int .i64 (fI (h2_2.getD t8.toNat .undef) 0), AV.int .i64 (fI (h2_2.getD t8.toNat .undef) 1)]]).length) * 16 ≤ 140737488355328) && decide ((h3.length + ([AV.agg [AV.int .i64 (fI (h2_2.getD t8.toNat .undef) 0), AV.int .i64 (fI (h2_2.getD t8.toNat .undef) 1)]]).length) ≤ 140737488355328)) then .next (t7, IntKind.i64.wrap (t8 + 1), h3 ++ ([AV.agg [AV.int .i64 (fI (h2_2.getD t8.toNat .undef) 0), AV.int .i64 (fI (h2_2.getD t8.toNat .undef) 1)]]))
  else .fail)
  else .fail))
  else .stop (t7, h3))
def R36_0 (h0 : List AV) (h1 : List AV) (h2_0 : List AV) (h2_1 : List AV) (h2_2 : List AV) (h4_0 : Int) (h4_1 : Int) : ((Bool × Int × (List AV))) → Out ((Bool × Int × (List AV))) ((Bool × (List AV))) := fun s : Bool × Int × (List AV) => F36_0 h0 h1 h2_0 h2_1 h2_2 h4_0 h4_1 s.1 s.2.1 s.2.2
def l36_0 : LModel := fun _ _ st k => match st with
  | ⟨[(2, .ptr g0 g1 g2), (3, .ptr g3 g4 g5), (4, .ptr g6 g7 g8), (6, .ptr g9 g10 g11), (7, .bool t7), (8, .int .i64 t8)], [(g12, ⟨false, g13, h0⟩), (g14, ⟨false, g15, h1⟩), (g16, ⟨true, [], [.agg [.sl g17 h2_0, .sl g18 h2_1, .sl g19 h2_2]]⟩), (g20, ⟨false, g21, h3⟩), (g22, ⟨true, [], [.agg [.int .i64 h4_0, .int .i64 h4_1]]⟩), (g23, ⟨true, [], [.agg [.snil, .snil, .snil]]⟩), (g24, ⟨true, [], [.agg [.own g25, .own g26, .own g27]]⟩)]⟩ => bif nmEq g0 ([0, 2]) && Nat.beq g1 0 && Nat.beq g2 0 && nmEq g3 ([0, 3]) && Nat.beq g4 0 && Nat.beq g5 0 && nmEq g6 ([0, 4]) && Nat.beq g7 0 && Nat.beq g8 0 && nmEq g9 ([0, 6]) && Nat.beq g10 0 && Nat.beq g11 0 && nmEq g12 ([0, 0, 6]) && ctsEq g13 ([.int .i64]) && nmEq g14 ([0, 1, 6]) && ctsEq g15 ([.int .i64]) && nmEq g16 ([0, 2]) && ctsEq g17 ([.int .i64]) && ctsEq g18 ([.int .i64]) && ctsEq g19 ([.int .i64, .int .i64]) && nmEq g20 ([0, 2, 6]) && ctsEq g21 ([.int .i64, .int .i64]) && nmEq g22 ([0, 3]) && nmEq g23 ([0, 4]) && nmEq g24 ([0, 6]) && nmEq g25 ([0, 0, 6]) && nmEq g26 ([0, 1, 6]) && nmEq g27 ([0, 2, 6]) then ro (runW (R36_0 h0 h1 h2_0 h2_1 h2_2 h4_0 h4_1) (((h2_2.length : Int) - t8).toNat + 1) (t7, t8, h3)) none (fun p : Bool × (List AV) => k (.exit 0) ⟨[(2, AV.ptr [0, 2] 0 0), (3, AV.ptr [0, 3] 0 0), (4, AV.ptr [0, 4] 0 0), (6, AV.ptr [0, 6] 0 0), (7, AV.bool p.1)], [([0, 0, 6], ⟨false, [.int .i64], h0⟩), ([0, 1, 6], ⟨false, [.int .i64], h1⟩), ([0, 2], ⟨true, [], [AV.agg [AV.sl [.int .i64] h2_0, AV.sl [.int .i64] h2_1, AV.sl [.int .i64, .int .i64] h2_2]]⟩), ([0, 2, 6], ⟨false, [.int .i64, .int .i64], p.2⟩), ([0, 3], ⟨true, [], [AV.agg [AV.int .i64 h4_0, AV.int .i64 h4_1]]⟩), ([0, 4], ⟨true, [], [AV.agg [AV.snil, AV.snil, AV.snil]]⟩), ([0, 6], ⟨true, [], [AV.agg [AV.own [0, 0, 6], AV.own [0, 1, 6], AV.own [0, 2, 6]]]⟩)]⟩) else none
  | _ => none
noncomputable def c36 : Cfg := cfg Try.prog [(36, 0, [2, 3, 4, 6, 7, 8]), (36, 999, [4, 5]), (36, 1000, [2, 3, 4, 6, 7]), (36, 1001, [2, 3, 4, 6, 7, 8])] [(30, m30), (31, m31)] [] [] [(36, 0, l36_0)]
theorem s36_0 (ce : CallE) (t7 : Bool) (t8 : Int) (h0 : List AV) (h1 : List AV) (h2_0 : List AV) (h2_1 : List AV) (h2_2 : List AV) (h3 : List AV) (h4_0 : Int) (h4_1 : Int) (next : St → Option AV) (k : Kont) : stepA (codeA c36 ce [] 36 0 (sub [1, 1, 1, 1, 0, 1, 0, 0] (body Try.f36))) (normA [] [2, 3, 4, 6, 7, 8]) next ⟨[(2, AV.ptr [0, 2] 0 0), (3, AV.ptr [0, 3] 0 0), (4, AV.ptr [0, 4] 0 0), (6, AV.ptr [0, 6] 0 0), (7, AV.bool t7), (8, AV.int .i64 t8)], [([0, 0, 6], ⟨false, [.int .i64], h0⟩), ([0, 1, 6], ⟨false, [.int .i64], h1⟩), ([0, 2], ⟨true, [], [AV.agg [AV.sl [.int .i64] h2_0, AV.sl [.int .i64] h2_1, AV.sl [.int .i64, .int .i64] h2_2]]⟩), ([0, 2, 6], ⟨false, [.int .i64, .int .i64], h3⟩), ([0, 3], ⟨true, [], [AV.agg [AV.int .i64 h4_0, AV.int .i64 h4_1]]⟩), ([0, 4], ⟨true, [], [AV.agg [AV.snil, AV.snil, AV.snil]]⟩), ([0, 6], ⟨true, [], [AV.agg [AV.own [0, 0, 6], AV.own [0, 1, 6], AV.own [0, 2, 6]]]⟩)]⟩ k = (bif decide (t8 < (h2_2.length : Int)) then (bif !t7 then (bif (decide (0 ≤ t8) && decide (t8 < (h2_2.length : Int))) then (bif decide (fI (h2_2.getD t8.toNat .undef) 0 > h4_0) then (bif (decide ((h3.length + ([AV.agg [AV.int .i64 h4_0, AV.int .i64 h4_1]]).length) * 16 ≤ 140737488355328) && decide ((h3.length + ([AV.agg [AV.int .i64 h4_0, AV.int .i64 h4_1]]).length) ≤ 140737488355328)) then (bif (decide (0 ≤ t8) && decide (t8 < (h2_2.length : Int))) then (bif (decide (((h3 ++ ([AV.agg [AV.int .i64 h4_0, AV.int .i64 h4_1]])).length + ([AV.agg [AV.int .i64 (fI (h2_2.getD t8.toNat .undef) 0), AV.int .i64 (fI (h2_2.getD t8.toNat .undef) 1)]]).length) * 16 ≤ 140737488355328) && decide (((h3 ++ ([AV.agg [AV.int .i64 h4_0, AV.int .i64 h4_1]])).length + ([AV.agg [AV.int .i64 (fI (h2_2.getD t8.toNat .undef) 0), AV.int .i64 (fI (h2_2.getD t8.toNat .undef) 1)]]).length) ≤ 140737488355328)) then next ⟨[(2, AV.ptr [0, 2] 0 0), (3, AV.ptr [0, 3] 0 0), (4, AV.ptr [0, 4] 0 0), (6, AV.ptr [0, 6] 0 0), (7, AV.bool true), (8, AV.int .i64 (IntKind.i64.wrap (t8 + 1)))], [([0, 0, 6], ⟨false, [.int .i64], h0⟩), ([0, 1, 6], ⟨false, [.int .i64], h1⟩), ([0, 2], ⟨true, [], [AV.agg [AV.sl [.int .i64] h2_0, AV.sl [.int .i64] h2_1, AV.sl [.int .i64, .int .i64] h2_2]]⟩), ([0, 2, 6], ⟨false, [.int .i64, .int .i64], (h3 ++ ([AV.agg [AV.int .i64 h4_0, AV.int .i64 h4_1]])) ++ ([AV.agg [AV.int .i64 (fI (h2_2.getD t8.toNat .undef) 0), AV.int .i64 (fI (h2_2.getD t8.toNat .undef) 1)]])⟩), ([0, 3], ⟨true, [], [AV.agg [AV.int .i64 h4_0, AV.int .i64 h4_1]]⟩), ([0, 4], ⟨true, [], [AV.agg [AV.snil, AV.snil, AV.snil]]⟩), ([0, 6], ⟨true, [], [AV.agg [AV.own [0, 0, 6], AV.own [0, 1, 6], AV.own [0, 2, 6]]]⟩)]⟩
  else none)
  else none)
  else none)
  else (bif (decide (0 ≤ t8) && decide (t8 < (h2_2.length : Int))) then (bif (decide ((h3.length + ([AV.agg [AV.int .i64 (fI (h2_2.getD t8.toNat .undef) 0), AV.int .i64 (fI (h2_2.getD t8.toNat .undef) 1)]]).length) * 16 ≤ 140737488355328) && decide ((h3.length + ([AV.agg [AV.int .i64 (fI (h2_2.getD t8.toNat .undef) 0), AV.int .i64 (fI (h2_2.getD t8.toNat .undef) 1)]]).length) ≤ 140737488355328)) then next ⟨[(2, AV.ptr [0, 2] 0 0), (3, AV.ptr [0, 3] 0 0), (4, AV.ptr [0, 4] 0 0), (6, AV.ptr [0, 6] 0 0), (7, AV.bool t7), (8, AV.int .i64 (IntKind.i64.wrap (t8 + 1)))], [([0, 0, 6], ⟨false, [.int .i64], h0⟩), ([0, 1, 6], ⟨false, [.int .i64], h1⟩), ([0, 2], ⟨true, [], [AV.agg [AV.sl [.int .i64] h2_0, AV.sl [.int .i64] h2_1, AV.sl [.int .i64, .int .i64] h2_2]]⟩), ([0, 2, 6], ⟨false, [.int .i64, .int .i64], h3 ++ ([AV.agg [AV.int .i64 (fI (h2_2.getD t8.toNat .undef) 0), AV.int .i64 (fI (h2_2.getD t8.toNat .undef) 1)]])⟩), ([0, 3], ⟨true, [], [AV.agg [AV.int .i64 h4_0, AV.int .i64 h4_1]]⟩), ([0, 4], ⟨true, [], [AV.agg [AV.snil, AV.snil, AV.snil]]⟩), ([0, 6], ⟨true, [], [AV.agg [AV.own [0, 0, 6], AV.own [0, 1, 6], AV.own [0, 2, 6]]]⟩)]⟩
  else none)
  else none))
  else none)
  else (bif (decide (0 ≤ t8) && decide (t8 < (h2_2.length : Int))) then (bif (decide ((h3.length + ([AV.agg [AV.int .i64 (fI (h2_2.getD t8.toNat .undef) 0), AV.int .i64 (fI (h2_2.getD t8.toNat .undef) 1)]]).length) * 16 ≤ 140737488355328) && decide ((h3.length + ([AV.agg [AV.int .i64 (fI (h2_2.getD t8.toNat .undef) 0), AV.int .i64 (fI (h2_2.getD t8.toNat .undef) 1)]]).length) ≤ 140737488355328)) then next ⟨[(2, AV.ptr [0, 2] 0 0), (3, AV.ptr [0, 3] 0 0), (4, AV.ptr [0, 4] 0 0), (6, AV.ptr [0, 6] 0 0), (7, AV.bool t7), (8, AV.int .i64 (IntKind.i64.wrap (t8 + 1)))], [([0, 0, 6], ⟨false, [.int .i64], h0⟩), ([0, 1, 6], ⟨false, [.int .i64], h1⟩), ([0, 2], ⟨true, [], [AV.agg [AV.sl [.int .i64] h2_0, AV.sl [.int .i64] h2_1, AV.sl [.int .i64, .int .i64] h2_2]]⟩), ([0, 2, 6], ⟨false, [.int .i64, .int .i64], h3 ++ ([AV.agg [AV.int .i64 (fI (h2_2.getD t8.toNat .undef) 0), AV.int .i64 (fI (h2_2.getD t8.toNat .undef) 1)]])⟩), ([0, 3], ⟨true, [], [AV.agg [AV.int .i64 h4_0, AV.int .i64 h4_1]]⟩), ([0, 4], ⟨true, [], [AV.agg [AV.snil, AV.snil, AV.snil]]⟩), ([0, 6], ⟨true, [], [AV.agg [AV.own [0, 0, 6], AV.own [0, 1, 6], AV.own [0, 2, 6]]]⟩)]⟩
  else none)
  else none))
  else k (.exit 0) ⟨[(2, AV.ptr [0, 2] 0 0), (3, AV.ptr [0, 3] 0 0), (4, AV.ptr [0, 4] 0 0), (6, AV.ptr [0, 6] 0 0), (7, AV.bool t7)], [([0, 0, 6], ⟨false, [.int .i64], h0⟩), ([0, 1, 6], ⟨false, [.int .i64], h1⟩), ([0, 2], ⟨true, [], [AV.agg [AV.sl [.int .i64] h2_0, AV.sl [.int .i64] h2_1, AV.sl [.int .i64, .int .i64] h2_2]]⟩), ([0, 2, 6], ⟨false, [.int .i64, .int .i64], h3⟩), ([0, 3], ⟨true, [], [AV.agg [AV.int .i64 h4_0, AV.int .i64 h4_1]]⟩), ([0, 4], ⟨true, [], [AV.agg [AV.snil, AV.snil, AV.snil]]⟩), ([0, 6], ⟨true, [], [AV.agg [AV.own [0, 0, 6], AV.own [0, 1, 6], AV.own [0, 2, 6]]]⟩)]⟩) := by kernel_rfl
theorem st36_0 (h0 : List AV) (h1 : List AV) (h2_0 : List AV) (h2_1 : List AV) (h2_2 : List AV) (h4_0 : Int) (h4_1 : Int) (ce : CallE) (k : Kont) (s : (Bool × Int × (List AV))) (next : St → Option AV) : stepA (codeA c36 ce [] 36 0 (sub [1, 1, 1, 1, 0, 1, 0, 0] (body Try.f36))) (normA [] [2, 3, 4, 6, 7, 8]) next ((fun s : Bool × Int × (List AV) => ⟨[(2, AV.ptr [0, 2] 0 0), (3, AV.ptr [0, 3] 0 0), (4, AV.ptr [0, 4] 0 0), (6, AV.ptr [0, 6] 0 0), (7, AV.bool s.1), (8, AV.int .i64 s.2.1)], [([0, 0, 6], ⟨false, [.int .i64], h0⟩), ([0, 1, 6], ⟨false, [.int .i64], h1⟩), ([0, 2], ⟨true, [], [AV.agg [AV.sl [.int .i64] h2_0, AV.sl [.int .i64] h2_1, AV.sl [.int .i64, .int .i64] h2_2]]⟩), ([0, 2, 6], ⟨false, [.int .i64, .int .i64], s.2.2⟩), ([0, 3], ⟨true, [], [AV.agg [AV.int .i64 h4_0, AV.int .i64 h4_1]]⟩), ([0, 4], ⟨true, [], [AV.agg [AV.snil, AV.snil, AV.snil]]⟩), ([0, 6], ⟨true, [], [AV.agg [AV.own [0, 0, 6], AV.own [0, 1, 6], AV.own [0, 2, 6]]]⟩)]⟩) s) k = (R36_0 h0 h1 h2_0 h2_1 h2_2 h4_0 h4_1 s).el none (fun s => next ((fun s : Bool × Int × (List AV) => ⟨[(2, AV.ptr [0, 2] 0 0), (3, AV.ptr [0, 3] 0 0), (4, AV.ptr [0, 4] 0 0), (6, AV.ptr [0, 6] 0 0), (7, AV.bool s.1), (8, AV.int .i64 s.2.1)], [([0, 0, 6], ⟨false, [.int .i64], h0⟩), ([0, 1, 6], ⟨false, [.int .i64], h1⟩), ([0, 2], ⟨true, [], [AV.agg [AV.sl [.int .i64] h2_0, AV.sl [.int .i64] h2_1, AV.sl [.int .i64, .int .i64] h2_2]]⟩), ([0, 2, 6], ⟨false, [.int .i64, .int .i64], s.2.2⟩), ([0, 3], ⟨true, [], [AV.agg [AV.int .i64 h4_0, AV.int .i64 h4_1]]⟩), ([0, 4], ⟨true, [], [AV.agg [AV.snil, AV.snil, AV.snil]]⟩), ([0, 6], ⟨true, [], [AV.agg [AV.own [0, 0, 6], AV.own [0, 1, 6], AV.own [0, 2, 6]]]⟩)]⟩) s)) (fun p : Bool × (List AV) => k (.exit 0) ⟨[(2, AV.ptr [0, 2] 0 0), (3, AV.ptr [0, 3] 0 0), (4, AV.ptr [0, 4] 0 0), (6, AV.ptr [0, 6] 0 0), (7, AV.bool p.1)], [([0, 0, 6], ⟨false, [.int .i64], h0⟩), ([0, 1, 6], ⟨false, [.int .i64], h1⟩), ([0, 2], ⟨true, [], [AV.agg [AV.sl [.int .i64] h2_0, AV.sl [.int .i64] h2_1, AV.sl [.int .i64, .int .i64] h2_2]]⟩), ([0, 2, 6], ⟨false, [.int .i64, .int .i64], p.2⟩), ([0, 3], ⟨true, [], [AV.agg [AV.int .i64 h4_0, AV.int .i64 h4_1]]⟩), ([0, 4], ⟨true, [], [AV.agg [AV.snil, AV.snil, AV.snil]]⟩), ([0, 6], ⟨true, [], [AV.agg [AV.own [0, 0, 6], AV.own [0, 1, 6], AV.own [0, 2, 6]]]⟩)]⟩) := (s36_0 ce s.1 s.2.1 h0 h1 h2_0 h2_1 h2_2 s.2.2 h4_0 h4_1 next k).trans (by unfold R36_0; unfold F36_0; simp only [el_cond, el_ro, el_sum, el_fail, el_next, el_stop] <;> rfl)
theorem ok36_0 {ce : CallE} : LoopOK c36 ce [] 36 0 (sub [1, 1, 1, 1, 0, 1, 0, 0] (body Try.f36)) := by
  intro m hm st k r h
  obtain rfl : l36_0 = m := Option.some.inj hm
  unfold l36_0 at h
  split at h
  · rename_i g0 g1 g2 g3 g4 g5 g6 g7 g8 g9 g10 g11 t7 t8 g12 g13 h0 g14 g15 h1 g16 g17 h2_0 g18 h2_1 g19 h2_2 g20 g21 h3 g22 h4_0 h4_1 g23 g24 g25 g26 g27
    obtain ⟨hg, h⟩ := bif_some h
    simp only [Bool.and_eq_true] at hg
    obtain ⟨⟨⟨⟨⟨⟨⟨⟨⟨⟨⟨⟨⟨⟨⟨⟨⟨⟨⟨⟨⟨⟨⟨⟨⟨⟨⟨q0, q1⟩, q2⟩, q3⟩, q4⟩, q5⟩, q6⟩, q7⟩, q8⟩, q9⟩, q10⟩, q11⟩, q12⟩, q13⟩, q14⟩, q15⟩, q16⟩, q17⟩, q18⟩, q19⟩, q20⟩, q21⟩, q22⟩, q23⟩, q24⟩, q25⟩, q26⟩, q27⟩ := hg
    obtain rfl := (nmEq_iff _ _).1 q0
    obtain rfl := Nat.eq_of_beq_eq_true q1
    obtain rfl := Nat.eq_of_beq_eq_true q2
    obtain rfl := (nmEq_iff _ _).1 q3
    obtain rfl := Nat.eq_of_beq_eq_true q4
    obtain rfl := Nat.eq_of_beq_eq_true q5
    obtain rfl := (nmEq_iff _ _).1 q6
    obtain rfl := Nat.eq_of_beq_eq_true q7
    obtain rfl := Nat.eq_of_beq_eq_true q8
    obtain rfl := (nmEq_iff _ _).1 q9
    obtain rfl := Nat.eq_of_beq_eq_true q10
    obtain rfl := Nat.eq_of_beq_eq_true q11
    obtain rfl := (nmEq_iff _ _).1 q12
    obtain rfl := ctsEq_eq _ _ q13
    obtain rfl := (nmEq_iff _ _).1 q14
    obtain rfl := ctsEq_eq _ _ q15
    obtain rfl := (nmEq_iff _ _).1 q16
    obtain rfl := ctsEq_eq _ _ q17
    obtain rfl := ctsEq_eq _ _ q18
    obtain rfl := ctsEq_eq _ _ q19
    obtain rfl := (nmEq_iff _ _).1 q20
    obtain rfl := ctsEq_eq _ _ q21
    obtain rfl := (nmEq_iff _ _).1 q22
    obtain rfl := (nmEq_iff _ _).1 q23
    obtain rfl := (nmEq_iff _ _).1 q24
    obtain rfl := (nmEq_iff _ _).1 q25
    obtain rfl := (nmEq_iff _ _).1 q26
    obtain rfl := (nmEq_iff _ _).1 q27
    refine ⟨(((h2_2.length : Int) - t8).toNat + 1), ?_⟩
    rw [← h]
    exact loop_run (fun s : Bool × Int × (List AV) => ⟨[(2, AV.ptr [0, 2] 0 0), (3, AV.ptr [0, 3] 0 0), (4, AV.ptr [0, 4] 0 0), (6, AV.ptr [0, 6] 0 0), (7, AV.bool s.1), (8, AV.int .i64 s.2.1)], [([0, 0, 6], ⟨false, [.int .i64], h0⟩), ([0, 1, 6], ⟨false, [.int .i64], h1⟩), ([0, 2], ⟨true, [], [AV.agg [AV.sl [.int .i64] h2_0, AV.sl [.int .i64] h2_1, AV.sl [.int .i64, .int .i64] h2_2]]⟩), ([0, 2, 6], ⟨false, [.int .i64, .int .i64], s.2.2⟩), ([0, 3], ⟨true, [], [AV.agg [AV.int .i64 h4_0, AV.int .i64 h4_1]]⟩), ([0, 4], ⟨true, [], [AV.agg [AV.snil, AV.snil, AV.snil]]⟩), ([0, 6], ⟨true, [], [AV.agg [AV.own [0, 0, 6], AV.own [0, 1, 6], AV.own [0, 2, 6]]]⟩)]⟩) (fun p : Bool × (List AV) => k (.exit 0) ⟨[(2, AV.ptr [0, 2] 0 0), (3, AV.ptr [0, 3] 0 0), (4, AV.ptr [0, 4] 0 0), (6, AV.ptr [0, 6] 0 0), (7, AV.bool p.1)], [([0, 0, 6], ⟨false, [.int .i64], h0⟩), ([0, 1, 6], ⟨false, [.int .i64], h1⟩), ([0, 2], ⟨true, [], [AV.agg [AV.sl [.int .i64] h2_0, AV.sl [.int .i64] h2_1, AV.sl [.int .i64, .int .i64] h2_2]]⟩), ([0, 2, 6], ⟨false, [.int .i64, .int .i64], p.2⟩), ([0, 3], ⟨true, [], [AV.agg [AV.int .i64 h4_0, AV.int .i64 h4_1]]⟩), ([0, 4], ⟨true, [], [AV.agg [AV.snil, AV.snil, AV.snil]]⟩), ([0, 6], ⟨true, [], [AV.agg [AV.own [0, 0, 6], AV.own [0, 1, 6], AV.own [0, 2, 6]]]⟩)]⟩) (st36_0 h0 h1 h2_0 h2_1 h2_2 h4_0 h4_1 ce k) _ (t7, t8, h3)
  · cases h
def q36 (xa : List AV) (xb : List AV) (xc : List AV) (ya : Int) (yb : Int) : Bool := (q31 xa xb xc && (ro (runW (R36_0 (v31_0 xa xb xc) (v31_1 xa xb xc) xa xb xc ya yb) (((xc.length : Int) - 0).toNat + 1) (false, 0, ([] : List AV))) false (fun p24 => (bif !p24.1 then ((decide ((p24.2.length + ([AV.agg [AV.int .i64 ya, AV.int .i64 yb]]).length) * 16 ≤ 140737488355328) && decide ((p24.2.length + ([AV.agg [AV.int .i64 ya, AV.int .i64 yb]]).length) ≤ 140737488355328)) && (q30 xa xb xc && (bif !(v30_0 xa xb xc) then q31 xa xb xc else (q30 (v31_0 xa xb xc) (v31_1 xa xb xc) (p24.2 ++ ([AV.agg [AV.int .i64 ya, AV.int .i64 yb]])) && (bif !(v30_0 (v31_0 xa xb xc) (v31_1 xa xb xc) (p24.2 ++ ([AV.agg [AV.int .i64 ya, AV.int .i64 yb]]))) then q31 xa xb xc else true))))) else (q30 xa xb xc && (bif !(v30_0 xa xb xc) then q31 xa xb xc else (q30 (v31_0 xa xb xc) (v31_1 xa xb xc) p24.2 && (bif !(v30_0 (v31_0 xa xb xc) (v31_1 xa xb xc) p24.2) then q31 xa xb xc else true))))))))
def v36_0 (xa : List AV) (xb : List AV) (xc : List AV) (ya : Int) (yb : Int) : List AV := (v31_0 xa xb xc)
def v36_1 (xa : List AV) (xb : List AV) (xc : List AV) (ya : Int) (yb : Int) : List AV := (v31_1 xa xb xc)
def v36_2 (xa : List AV) (xb : List AV) (xc : List AV) (ya : Int) (yb : Int) : List AV := (ro (runW (R36_0 (v31_0 xa xb xc) (v31_1 xa xb xc) xa xb xc ya yb) (((xc.length : Int) - 0).toNat + 1) (false, 0, ([] : List AV))) [] (fun p24 => (bif !p24.1 then (bif !(v30_0 xa xb xc) then (v31_2 xa xb xc) else (bif !(v30_0 (v31_0 xa xb xc) (v31_1 xa xb xc) (p24.2 ++ ([AV.agg [AV.int .i64 ya, AV.int .i64 yb]]))) then (v31_2 xa xb xc) else p24.2 ++ ([AV.agg [AV.int .i64 ya, AV.int .i64 yb]]))) else (bif !(v30_0 xa xb xc) then (v31_2 xa xb xc) else (bif !(v30_0 (v31_0 xa xb xc) (v31_1 xa xb xc) p24.2) then (v31_2 xa xb xc) else p24.2)))))
def v36_3 (xa : List AV) (xb : List AV) (xc : List AV) (ya : Int) (yb : Int) : Bool := (ro (runW (R36_0 (v31_0 xa xb xc) (v31_1 xa xb xc) xa xb xc ya yb) (((xc.length : Int) - 0).toNat + 1) (false, 0, ([] : List AV))) false (fun p24 => (bif !p24.1 then (bif !(v30_0 xa xb xc) then false else (bif !(v30_0 (v31_0 xa xb xc) (v31_1 xa xb xc) (p24.2 ++ ([AV.agg [AV.int .i64 ya, AV.int .i64 yb]]))) then false else true)) else (bif !(v30_0 xa xb xc) then false else (bif !(v30_0 (v31_0 xa xb xc) (v31_1 xa xb xc) p24.2) then false else true)))))
theorem e36 (xa : List AV) (xb : List AV) (xc : List AV) (ya : Int) (yb : Int) : funA c36 0 36 [AV.agg [AV.sl [.int .i64] xa, AV.sl [.int .i64] xb, AV.sl [.int .i64, .int .i64] xc], AV.agg [AV.int .i64 ya, AV.int .i64 yb]] = (bif q31 xa xb xc then (ro (runW (R36_0 (v31_0 xa xb xc) (v31_1 xa xb xc) xa xb xc ya yb) (((xc.length : Int) - 0).toNat + 1) (false, 0, ([] : List AV))) none (fun p24 => (bif !p24.1 then (bif (decide ((p24.2.length + ([AV.agg [AV.int .i64 ya, AV.int .i64 yb]]).length) * 16 ≤ 140737488355328) && decide ((p24.2.length + ([AV.agg [AV.int .i64 ya, AV.int .i64 yb]]).length) ≤ 140737488355328)) then (bif q30 xa xb xc then (bif !(v30_0 xa xb xc) then (bif q31 xa xb xc then some (AV.tup [AV.agg [AV.fl [.int .i64] (v31_0 xa xb xc), AV.fl [.int .i64] (v31_1 xa xb xc), AV.fl [.int .i64, .int .i64] (v31_2 xa xb xc)], AV.bool false])
  else none)
  else (bif q30 (v31_0 xa xb xc) (v31_1 xa xb xc) (p24.2 ++ ([AV.agg [AV.int .i64 ya, AV.int .i64 yb]])) then (bif !(v30_0 (v31_0 xa xb xc) (v31_1 xa xb xc) (p24.2 ++ ([AV.agg [AV.int .i64 ya, AV.int .i64 yb]]))) then (bif q31 xa xb xc then some (AV.tup [AV.agg [AV.fl [.int .i64] (v31_0 xa xb xc), AV.fl [.int .i64] (v31_1 xa xb xc), AV.fl [.int .i64, .int .i64] (v31_2 xa xb xc)], AV.bool false])
  else none)
  else some (AV.tup [AV.agg [AV.fl [.int .i64] (v31_0 xa xb xc), AV.fl [.int .i64] (v31_1 xa xb xc), AV.fl [.int .i64, .int .i64] (p24.2 ++ ([AV.agg [AV.int .i64 ya, AV.int .i64 yb]]))], AV.bool true]))
  else none))
  else none)
  else none)
  else (bif q30 xa xb xc then (bif !(v30_0 xa xb xc) then (bif q31 xa xb xc then some (AV.tup [AV.agg [AV.fl [.int .i64] (v31_0 xa xb xc), AV.fl [.int .i64] (v31_1 xa xb xc), AV.fl [.int .i64, .int .i64] (v31_2 xa xb xc)], AV.bool false])
  else none)
  else (bif q30 (v31_0 xa xb xc) (v31_1 xa xb xc) p24.2 then (bif !(v30_0 (v31_0 xa xb xc) (v31_1 xa xb xc) p24.2) then (bif q31 xa xb xc then some (AV.tup [AV.agg [AV.fl [.int .i64] (v31_0 xa xb xc), AV.fl [.int .i64] (v31_1 xa xb xc), AV.fl [.int .i64, .int .i64] (v31_2 xa xb xc)], AV.bool false])
  else none)
  else some (AV.tup [AV.agg [AV.fl [.int .i64] (v31_0 xa xb xc), AV.fl [.int .i64] (v31_1 xa xb xc), AV.fl [.int .i64, .int .i64] p24.2], AV.bool true]))
  else none))
  else none))))
  else none) := by kernel_rfl
theorem r36 (xa : List AV) (xb : List AV) (xc : List AV) (ya : Int) (yb : Int) (h : q36 xa xb xc ya yb = true) : funA c36 0 36 [AV.agg [AV.sl [.int .i64] xa, AV.sl [.int .i64] xb, AV.sl [.int .i64, .int .i64] xc], AV.agg [AV.int .i64 ya, AV.int .i64 yb]] = some (AV.tup [AV.agg [AV.fl [.int .i64] (v36_0 xa xb xc ya yb), AV.fl [.int .i64] (v36_1 xa xb xc ya yb), AV.fl [.int .i64, .int .i64] (v36_2 xa xb xc ya yb)], AV.bool (v36_3 xa xb xc ya yb)]) := (e36 xa xb xc ya yb).trans ((brL (brO (fun o : Option ((Bool × (List AV))) => some (AV.tup [AV.agg [AV.fl [.int .i64] (v31_0 xa xb xc), AV.fl [.int .i64] (v31_1 xa xb xc), AV.fl [.int .i64, .int .i64] (ro o [] (fun p24 => (bif !p24.1 then (bif !(v30_0 xa xb xc) then (v31_2 xa xb xc) else (bif !(v30_0 (v31_0 xa xb xc) (v31_1 xa xb xc) (p24.2 ++ ([AV.agg [AV.int .i64 ya, AV.int .i64 yb]]))) then (v31_2 xa xb xc) else p24.2 ++ ([AV.agg [AV.int .i64 ya, AV.int .i64 yb]]))) else (bif !(v30_0 xa xb xc) then (v31_2 xa xb xc) else (bif !(v30_0 (v31_0 xa xb xc) (v31_1 xa xb xc) p24.2) then (v31_2 xa xb xc) else p24.2)))))], AV.bool (ro o false (fun p24 => (bif !p24.1 then (bif !(v30_0 xa xb xc) then false else (bif !(v30_0 (v31_0 xa xb xc) (v31_1 xa xb xc) (p24.2 ++ ([AV.agg [AV.int .i64 ya, AV.int .i64 yb]]))) then false else true)) else (bif !(v30_0 xa xb xc) then false else (bif !(v30_0 (v31_0 xa xb xc) (v31_1 xa xb xc) p24.2) then false else true)))))])) (fun p24 => (br (fun b => some (AV.tup [AV.agg [AV.fl [.int .i64] (v31_0 xa xb xc), AV.fl [.int .i64] (v31_1 xa xb xc), AV.fl [.int .i64, .int .i64] (bif b then (bif !(v30_0 xa xb xc) then (v31_2 xa xb xc) else (bif !(v30_0 (v31_0 xa xb xc) (v31_1 xa xb xc) (p24.2 ++ ([AV.agg [AV.int .i64 ya, AV.int .i64 yb]]))) then (v31_2 xa xb xc) else p24.2 ++ ([AV.agg [AV.int .i64 ya, AV.int .i64 yb]]))) else (bif !(v30_0 xa xb xc) then (v31_2 xa xb xc) else (bif !(v30_0 (v31_0 xa xb xc) (v31_1 xa xb xc) p24.2) then (v31_2 xa xb xc) else p24.2)))], AV.bool (bif b then (bif !(v30_0 xa xb xc) then false else (bif !(v30_0 (v31_0 xa xb xc) (v31_1 xa xb xc) (p24.2 ++ ([AV.agg [AV.int .i64 ya, AV.int .i64 yb]]))) then false else true)) else (bif !(v30_0 xa xb xc) then false else (bif !(v30_0 (v31_0 xa xb xc) (v31_1 xa xb xc) p24.2) then false else true)))])) (brL (brL (br (fun b => some (AV.tup [AV.agg [AV.fl [.int .i64] (v31_0 xa xb xc), AV.fl [.int .i64] (v31_1 xa xb xc), AV.fl [.int .i64, .int .i64] (bif b then (v31_2 xa xb xc) else (bif !(v30_0 (v31_0 xa xb xc) (v31_1 xa xb xc) (p24.2 ++ ([AV.agg [AV.int .i64 ya, AV.int .i64 yb]]))) then (v31_2 xa xb xc) else p24.2 ++ ([AV.agg [AV.int .i64 ya, AV.int .i64 yb]])))], AV.bool (bif b then false else (bif !(v30_0 (v31_0 xa xb xc) (v31_1 xa xb xc) (p24.2 ++ ([AV.agg [AV.int .i64 ya, AV.int .i64 yb]]))) then false else true))])) (brL1 (fun _ => rfl)) (brL (br (fun b => some (AV.tup [AV.agg [AV.fl [.int .i64] (v31_0 xa xb xc), AV.fl [.int .i64] (v31_1 xa xb xc), AV.fl [.int .i64, .int .i64] (bif b then (v31_2 xa xb xc) else p24.2 ++ ([AV.agg [AV.int .i64 ya, AV.int .i64 yb]]))], AV.bool (bif b then false else true)])) (brL1 (fun _ => rfl)) (fun _ => rfl)))))) (brL (br (fun b => some (AV.tup [AV.agg [AV.fl [.int .i64] (v31_0 xa xb xc), AV.fl [.int .i64] (v31_1 xa xb xc), AV.fl [.int .i64, .int .i64] (bif b then (v31_2 xa xb xc) else (bif !(v30_0 (v31_0 xa xb xc) (v31_1 xa xb xc) p24.2) then (v31_2 xa xb xc) else p24.2))], AV.bool (bif b then false else (bif !(v30_0 (v31_0 xa xb xc) (v31_1 xa xb xc) p24.2) then false else true))])) (brL1 (fun _ => rfl)) (brL (br (fun b => some (AV.tup [AV.agg [AV.fl [.int .i64] (v31_0 xa xb xc), AV.fl [.int .i64] (v31_1 xa xb xc), AV.fl [.int .i64, .int .i64] (bif b then (v31_2 xa xb xc) else p24.2)], AV.bool (bif b then false else true)])) (brL1 (fun _ => rfl)) (fun _ => rfl))))))))) h)
def m36 : TModel
  | [.agg [.sl g0 xa, .sl g1 xb, .sl g2 xc], .agg [.int .i64 ya, .int .i64 yb]] => bif ctsEq g0 ([.int .i64]) && ctsEq g1 ([.int .i64]) && ctsEq g2 ([.int .i64, .int .i64]) then some (q36 xa xb xc ya yb, AV.tup [AV.agg [AV.fl [.int .i64] (v36_0 xa xb xc ya yb), AV.fl [.int .i64] (v36_1 xa xb xc ya yb), AV.fl [.int .i64, .int .i64] (v36_2 xa xb xc ya yb)], AV.bool (v36_3 xa xb xc ya yb)]) else none
  | _ => none
theorem k36 : Known Try.prog 36 := ⟨Try.f36, Try.func36, by kernel_rfl, by kernel_rfl⟩
theorem meets36 : Meets Try.prog 36 m36 := by
  refine meet (f := Try.f36) (l := [(0, sub [1, 1, 1, 1, 0, 1, 0, 0] (body Try.f36))]) (hs := [(36, 0, [2, 3, 4, 6, 7, 8]), (36, 999, [4, 5]), (36, 1000, [2, 3, 4, 6, 7]), (36, 1001, [2, 3, 4, 6, 7, 8])]) (ts := [(30, m30), (31, m31)]) (ws := []) (is := []) (ls := [(36, 0, l36_0)]) (lvl := 0) mixed k36 Try.func36 (by kernel_rfl) (loops_cons ok36_0 noLoop) (allT_cons meets30 (allT_cons meets31 allT_nil)) allM_nil noI fun w xs us r hl hv h => ?_
  unfold m36 at h
  split at h
  · rename_i g0 xa g1 xb g2 xc ya yb
    obtain ⟨hg, h⟩ := bif_pair h
    simp only [Bool.and_eq_true] at hg
    obtain ⟨⟨q0, q1⟩, q2⟩ := hg
    obtain rfl := ctsEq_eq _ _ q0
    obtain rfl := ctsEq_eq _ _ q1
    obtain rfl := ctsEq_eq _ _ q2
    obtain ⟨h1, rfl⟩ := pair_inj h
    exact r36 xa xb xc ya yb h1
  · cases h

/-! ### 48 loop.example/g01984/spec.UndoSwaps -/
def F48_0 (t1 : List AV) (h0_0 : List AV) (h0_1 : List AV) (h0_2 : List AV) (t7 : Int) (h2 : List AV) : Out ((Int × (List AV))) (((List AV))) := (bif decide (t7 ≥ 0) then (bif (decide (0 ≤ t7) && decide (t7 < (t1.length : Int))) then (bif (decide ((h2.length + ([AV.agg [AV.int .i64 (fI (t1.getD t7.toNat .undef) 0), AV.int .i64 (fI (t1.getD t7.toNat .undef) 1)]]).length) * 16 ≤ 140737488355328) && decide ((h2.length + ([AV.agg [AV.int .i64 (fI (t1.getD t7.toNat .undef) 0), AV.int .i64 (fI (t1.getD t7.toNat .undef) 1)]]).length) ≤ 140737488355328)) then .next (IntKind.i64.wrap (t7 - 1), h2 ++ ([AV.agg [AV.int .i64 (fI (t1.getD t7.toNat .undef) 0), AV.int .i64 (fI (t1.getD t7.toNat .undef) 1)]]))
  else .fail)
  else .fail)
  else .stop h2)
def R48_0 (t1 : List AV) (h0_0 : List AV) (h0_1 : List AV) (h0_2 : List AV) : ((Int × (List AV))) → Out ((Int × (List AV))) (((List AV))) := fun s : Int × (List AV) => F48_0 t1 h0_0 h0_1 h0_2 s.1 s.2
def l48_0 : LModel := fun _ _ st k => match st with
  | ⟨[(1, .sl g0 t1), (2, .ptr g1 g2 g3), (4, .ptr g4 g5 g6), (6, .own g7), (7, .int .i64 t7)], [(g8, ⟨true, [], [.agg [.sl g9 h0_0, .sl g10 h0_1, .sl g11 h0_2]]⟩), (g12, ⟨true, [], [.agg [.snil, .snil, .snil]]⟩), (g13, ⟨false, g14, h2⟩)]⟩ => bif ctsEq g0 ([.int .i64, .int .i64]) && nmEq g1 ([0, 2]) && Nat.beq g2 0 && Nat.beq g3 0 && nmEq g4 ([0, 4]) && Nat.beq g5 0 && Nat.beq g6 0 && nmEq g7 ([0, 6]) && nmEq g8 ([0, 2]) && ctsEq g9 ([.int .i64]) && ctsEq g10 ([.int .i64]) && ctsEq g11 ([.int .i64, .int .i64]) && nmEq g12 ([0, 4]) && nmEq g13 ([0, 6]) && ctsEq g14 ([.int .i64, .int .i64]) then ro (runW (R48_0 t1 h0_0 h0_1 h0_2) ((t7 - 0 + 1).toNat + 1) (t7, h2)) none (fun p : (List AV) => k (.exit 0) ⟨[(2, AV.ptr [0, 2] 0 0), (4, AV.ptr [0, 4] 0 0), (6, AV.own [0, 6])], [([0, 2], ⟨true, [], [AV.agg [AV.sl [.int .i64] h0_0, AV.sl [.int .i64] h0_1, AV.sl [.int .i64, .int .i64] h0_2]]⟩), ([0, 4], ⟨true, [], [AV.agg [AV.snil, AV.snil, AV.snil]]⟩), ([0, 6], ⟨false, [.int .i64, .int .i64], p⟩)]⟩) else none
  | _ => none
noncomputable def c48 : Cfg := cfg Try.prog [(48, 0, [1, 2, 4, 6, 7]), (48, 999, [4, 5]), (48, 1000, [2, 4, 6]), (48, 1001, [1, 2, 4, 6, 7])] [(35, m35)] [] [] [(48, 0, l48_0)]
theorem s48_0 (ce : CallE) (t1 : List AV) (t7 : Int) (h0_0 : List AV) (h0_1 : List AV) (h0_2 : List AV) (h2 : List AV) (next : St → Option AV) (k : Kont) : stepA (codeA c48 ce [] 48 0 (sub [1, 1, 0, 1, 0, 0] (body Try.f48))) (normA [] [1, 2, 4, 6, 7]) next ⟨[(1, AV.sl [.int .i64, .int .i64] t1), (2, AV.ptr [0, 2] 0 0), (4, AV.ptr [0, 4] 0 0), (6, AV.own [0, 6]), (7, AV.int .i64 t7)], [([0, 2], ⟨true, [], [AV.agg [AV.sl [.int .i64] h0_0, AV.sl [.int .i64] h0_1, AV.sl [.int .i64, .int .i64] h0_2]]⟩), ([0, 4], ⟨true, [], [AV.agg [AV.snil, AV.snil, AV.snil]]⟩), ([0, 6], ⟨false, [.int .i64, .int .i64], h2⟩)]⟩ k = (bif decide (t7 ≥ 0) then (bif (decide (0 ≤ t7) && decide (t7 < (t1.length : Int))) then (bif (decide ((h2.length + ([AV.agg [AV.int .i64 (fI (t1.getD t7.toNat .undef) 0), AV.int .i64 (fI (t1.getD t7.toNat .undef) 1)]]).length) * 16 ≤ 140737488355328) && decide ((h2.length + ([AV.agg [AV.int .i64 (fI (t1.getD t7.toNat .undef) 0), AV.int .i64 (fI (t1.getD t7.toNat .undef) 1)]]).length) ≤ 140737488355328)) then next ⟨[(1, AV.sl [.int .i64, .int .i64] t1), (2, AV.ptr [0, 2] 0 0), (4, AV.ptr [0, 4] 0 0), (6, AV.own [0, 6]), (7, AV.int .i64 (IntKind.i64.wrap (t7 - 1)))], [([0, 2], ⟨true, [], [AV.agg [AV.sl [.int .i64] h0_0, AV.sl [.int .i64] h0_1, AV.sl [.int .i64, .int .i64] h0_2]]⟩), ([0, 4], ⟨true, [], [AV.agg [AV.snil, AV.snil, AV.snil]]⟩), ([0, 6], ⟨false, [.int .i64, .int .i64], h2 ++ ([AV.agg [AV.int .i64 (fI (t1.getD t7.toNat .undef) 0), AV.int .i64 (fI (t1.getD t7.toNat .undef) 1)]])⟩)]⟩
  else none)
  else none)
  else k (.exit 0) ⟨[(2, AV.ptr [0, 2] 0 0), (4, AV.ptr [0, 4] 0 0), (6, AV.own [0, 6])], [([0, 2], ⟨true, [], [AV.agg [AV.sl [.int .i64] h0_0, AV.sl [.int .i64] h0_1, AV.sl [.int .i64, .int .i64] h0_2]]⟩), ([0, 4], ⟨true, [], [AV.agg [AV.snil, AV.snil, AV.snil]]⟩), ([0, 6], ⟨false, [.int .i64, .int .i64], h2⟩)]⟩) := by kernel_rfl
theorem st48_0 (t1 : List AV) (h0_0 : List AV) (h0_1 : List AV) (h0_2 : List AV) (ce : CallE) (k : Kont) (s : (Int × (List AV))) (next : St → Option AV) : stepA (codeA c48 ce [] 48 0 (sub [1, 1, 0, 1, 0, 0] (body Try.f48))) (normA [] [1, 2, 4, 6, 7]) next ((fun s : Int × (List AV) => ⟨[(1, AV.sl [.int .i64, .int .i64] t1), (2, AV.ptr [0, 2] 0 0), (4, AV.ptr [0, 4] 0 0), (6, AV.own [0, 6]), (7, AV.int .i64 s.1)], [([0, 2], ⟨true, [], [AV.agg [AV.sl [.int .i64] h0_0, AV.sl [.int .i64] h0_1, AV.sl [.int .i64, .int .i64] h0_2]]⟩), ([0, 4], ⟨true, [], [AV.agg [AV.snil, AV.snil, AV.snil]]⟩), ([0, 6], ⟨false, [.int .i64, .int .i64], s.2⟩)]⟩) s) k = (R48_0 t1 h0_0 h0_1 h0_2 s).el none (fun s => next ((fun s : Int × (List AV) => ⟨[(1, AV.sl [.int .i64, .int .i64] t1), (2, AV.ptr [0, 2] 0 0), (4, AV.ptr [0, 4] 0 0), (6, AV.own [0, 6]), (7, AV.int .i64 s.1)], [([0, 2], ⟨true, [], [AV.agg [AV.sl [.int .i64] h0_0, AV.sl [.int .i64] h0_1, AV.sl [.int .i64, .int .i64] h0_2]]⟩), ([0, 4], ⟨true, [], [AV.agg [AV.snil, AV.snil, AV.snil]]⟩), ([0, 6], ⟨false, [.int .i64, .int .i64], s.2⟩)]⟩) s)) (fun p : (List AV) => k (.exit 0) ⟨[(2, AV.ptr [0, 2] 0 0), (4, AV.ptr [0, 4] 0 0), (6, AV.own [0, 6])], [([0, 2], ⟨true, [], [AV.agg [AV.sl [.int .i64] h0_0, AV.sl [.int .i64] h0_1, AV.sl [.int .i64, .int .i64] h0_2]]⟩), ([0, 4], ⟨true, [], [AV.agg [AV.snil, AV.snil, AV.snil]]⟩), ([0, 6], ⟨false, [.int .i64, .int .i64], p⟩)]⟩) := (s48_0 ce t1 s.1 h0_0 h0_1 h0_2 s.2 next k).trans (by unfold R48_0; unfold F48_0; simp only [el_cond, el_ro, el_sum, el_fail, el_next, el_stop] <;> rfl)
theorem ok48_0 {ce : CallE} : LoopOK c48 ce [] 48 0 (sub [1, 1, 0, 1, 0, 0] (body Try.f48)) := by
  intro m hm st k r h
  obtain rfl : l48_0 = m := Option.some.inj hm
  unfold l48_0 at h
  split at h
  · rename_i g0 t1 g1 g2 g3 g4 g5 g6 g7 t7 g8 g9 h0_0 g10 h0_1 g11 h0_2 g12 g13 g14 h2
    obtain ⟨hg, h⟩ := bif_some h
    simp only [Bool.and_eq_true] at hg
    obtain ⟨⟨⟨⟨⟨⟨⟨⟨⟨⟨⟨⟨⟨⟨q0, q1⟩, q2⟩, q3⟩, q4⟩, q5⟩, q6⟩, q7⟩, q8⟩, q9⟩, q10⟩, q11⟩, q12⟩, q13⟩, q14⟩ := hg
    obtain rfl := ctsEq_eq _ _ q0
    obtain rfl := (nmEq_iff _ _).1 q1
    obtain rfl := Nat.eq_of_beq_eq_true q2
    obtain rfl := Nat.eq_of_beq_eq_true q3
    obtain rfl := (nmEq_iff _ _).1 q4
    obtain rfl := Nat.eq_of_beq_eq_true q5
    obtain rfl := Nat.eq_of_beq_eq_true q6
    obtain rfl := (nmEq_iff _ _).1 q7
    obtain rfl := (nmEq_iff _ _).1 q8
    obtain rfl := ctsEq_eq _ _ q9
    obtain rfl := ctsEq_eq _ _ q10
    obtain rfl := ctsEq_eq _ _ q11
    obtain rfl := (nmEq_iff _ _).1 q12
    obtain rfl := (nmEq_iff _ _).1 q13
    obtain rfl := ctsEq_eq _ _ q14
    refine ⟨((t7 - 0 + 1).toNat + 1), ?_⟩
    rw [← h]
    exact loop_run (fun s : Int × (List AV) => ⟨[(1, AV.sl [.int .i64, .int .i64] t1), (2, AV.ptr [0, 2] 0 0), (4, AV.ptr [0, 4] 0 0), (6, AV.own [0, 6]), (7, AV.int .i64 s.1)], [([0, 2], ⟨true, [], [AV.agg [AV.sl [.int .i64] h0_0, AV.sl [.int .i64] h0_1, AV.sl [.int .i64, .int .i64] h0_2]]⟩), ([0, 4], ⟨true, [], [AV.agg [AV.snil, AV.snil, AV.snil]]⟩), ([0, 6], ⟨false, [.int .i64, .int .i64], s.2⟩)]⟩) (fun p : (List AV) => k (.exit 0) ⟨[(2, AV.ptr [0, 2] 0 0), (4, AV.ptr [0, 4] 0 0), (6, AV.own [0, 6])], [([0, 2], ⟨true, [], [AV.agg [AV.sl [.int .i64] h0_0, AV.sl [.int .i64] h0_1, AV.sl [.int .i64, .int .i64] h0_2]]⟩), ([0, 4], ⟨true, [], [AV.agg [AV.snil, AV.snil, AV.snil]]⟩), ([0, 6], ⟨false, [.int .i64, .int .i64], p⟩)]⟩) (st48_0 t1 h0_0 h0_1 h0_2 ce k) _ (t7, h2)
  · cases h
def q48 (xa : List AV) (xb : List AV) (xc : List AV) (a1 : List AV) : Bool := (ro (runW (R48_0 a1 xa xb xc) (((IntKind.i64.wrap ((a1.length : Int) - 1)) - 0 + 1).toNat + 1) (IntKind.i64.wrap ((a1.length : Int) - 1), ([] : List AV))) false (fun p26 => q35 xa xb xc p26))
def v48_0 (xa : List AV) (xb : List AV) (xc : List AV) (a1 : List AV) : List AV := (ro (runW (R48_0 a1 xa xb xc) (((IntKind.i64.wrap ((a1.length : Int) - 1)) - 0 + 1).toNat + 1) (IntKind.i64.wrap ((a1.length : Int) - 1), ([] : List AV))) [] (fun p26 => (v35_0 xa xb xc p26)))
def v48_1 (xa : List AV) (xb : List AV) (xc : List AV) (a1 : List AV) : List AV := (ro (runW (R48_0 a1 xa xb xc) (((IntKind.i64.wrap ((a1.length : Int) - 1)) - 0 + 1).toNat + 1) (IntKind.i64.wrap ((a1.length : Int) - 1), ([] : List AV))) [] (fun p26 => (v35_1 xa xb xc p26)))
def v48_2 (xa : List AV) (xb : List AV) (xc : List AV) (a1 : List AV) : List AV := (ro (runW (R48_0 a1 xa xb xc) (((IntKind.i64.wrap ((a1.length : Int) - 1)) - 0 + 1).toNat + 1) (IntKind.i64.wrap ((a1.length : Int) - 1), ([] : List AV))) [] (fun p26 => (v35_2 xa xb xc p26)))
def v48_3 (xa : List AV) (xb : List AV) (xc : List AV) (a1 : List AV) : Bool := (ro (runW (R48_0 a1 xa xb xc) (((IntKind.i64.wrap ((a1.length : Int) - 1)) - 0 + 1).toNat + 1) (IntKind.i64.wrap ((a1.length : Int) - 1), ([] : List AV))) false (fun p26 => (v35_3 xa xb xc p26)))
theorem e48 (xa : List AV) (xb : List AV) (xc : List AV) (a1 : List AV) : funA c48 0 48 [AV.agg [AV.sl [.int .i64] xa, AV.sl [.int .i64] xb, AV.sl [.int .i64, .int .i64] xc], AV.sl [.int .i64, .int .i64] a1] = (ro (runW (R48_0 a1 xa xb xc) (((IntKind.i64.wrap ((a1.length : Int) - 1)) - 0 + 1).toNat + 1) (IntKind.i64.wrap ((a1.length : Int) - 1), ([] : List AV))) none (fun p26 => (bif q35 xa xb xc p26 then some (AV.tup [AV.agg [AV.fl [.int .i64] (v35_0 xa xb xc p26), AV.fl [.int .i64] (v35_1 xa xb xc p26), AV.fl [.int .i64, .int .i64] (v35_2 xa xb xc p26)], AV.bool (v35_3 xa xb xc p26)])
  else none))) := by kernel_rfl
theorem r48 (xa : List AV) (xb : List AV) (xc : List AV) (a1 : List AV) (h : q48 xa xb xc a1 = true) : funA c48 0 48 [AV.agg [AV.sl [.int .i64] xa, AV.sl [.int .i64] xb, AV.sl [.int .i64, .int .i64] xc], AV.sl [.int .i64, .int .i64] a1] = some (AV.tup [AV.agg [AV.fl [.int .i64] (v48_0 xa xb xc a1), AV.fl [.int .i64] (v48_1 xa xb xc a1), AV.fl [.int .i64, .int .i64] (v48_2 xa xb xc a1)], AV.bool (v48_3 xa xb xc a1)]) := (e48 xa xb xc a1).trans ((brO (fun o : Option (((List AV))) => some (AV.tup [AV.agg [AV.fl [.int .i64] (ro o [] (fun p26 => (v35_0 xa xb xc p26))), AV.fl [.int .i64] (ro o [] (fun p26 => (v35_1 xa xb xc p26))), AV.fl [.int .i64, .int .i64] (ro o [] (fun p26 => (v35_2 xa xb xc p26)))], AV.bool (ro o false (fun p26 => (v35_3 xa xb xc p26)))])) (fun p26 => (brL1 (fun _ => rfl)))) h)
def m48 : TModel
  | [.agg [.sl g0 xa, .sl g1 xb, .sl g2 xc], .sl g3 a1] => bif ctsEq g0 ([.int .i64]) && ctsEq g1 ([.int .i64]) && ctsEq g2 ([.int .i64, .int .i64]) && ctsEq g3 ([.int .i64, .int .i64]) then some (q48 xa xb xc a1, AV.tup [AV.agg [AV.fl [.int .i64] (v48_0 xa xb xc a1), AV.fl [.int .i64] (v48_1 xa xb xc a1), AV.fl [.int .i64, .int .i64] (v48_2 xa xb xc a1)], AV.bool (v48_3 xa xb xc a1)]) else none
  | _ => none
theorem k48 : Known Try.prog 48 := ⟨Try.f48, Try.func48, by kernel_rfl, by kernel_rfl⟩
theorem meets48 : Meets Try.prog 48 m48 := by
  refine meet (f := Try.f48) (l := [(0, sub [1, 1, 0, 1, 0, 0] (body Try.f48))]) (hs := [(48, 0, [1, 2, 4, 6, 7]), (48, 999, [4, 5]), (48, 1000, [2, 4, 6]), (48, 1001, [1, 2, 4, 6, 7])]) (ts := [(35, m35)]) (ws := []) (is := []) (ls := [(48, 0, l48_0)]) (lvl := 0) mixed k48 Try.func48 (by kernel_rfl) (loops_cons ok48_0 noLoop) (allT_cons meets35 allT_nil) allM_nil noI fun w xs us r hl hv h => ?_
  unfold m48 at h
  split at h
  · rename_i g0 xa g1 xb g2 xc g3 a1
    obtain ⟨hg, h⟩ := bif_pair h
    simp only [Bool.and_eq_true] at hg
    obtain ⟨⟨⟨q0, q1⟩, q2⟩, q3⟩ := hg
    obtain rfl := ctsEq_eq _ _ q0
    obtain rfl := ctsEq_eq _ _ q1
    obtain rfl := ctsEq_eq _ _ q2
    obtain rfl := ctsEq_eq _ _ q3
    obtain ⟨h1, rfl⟩ := pair_inj h
    exact r48 xa xb xc a1 h1
  · cases h
end Go.Proofs.Ytmlhhemflhiinaa
