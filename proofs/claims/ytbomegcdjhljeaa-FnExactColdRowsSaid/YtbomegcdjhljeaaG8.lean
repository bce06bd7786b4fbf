/- The walk of what this claim reaches: printed by a program, each equation checked by the kernel. -/
import Derived.Test.YtbomegcdjhljeaaVEy
import Derived.Test.YtbomegcdjhljeaaProg
import Derived.KernelRfl
namespace Go.Proofs.Ytbomegcdjhljeaa
open Go Go.Proofs.VE
set_option maxRecDepth 100000
theorem mixed : Try.prog.follows .mixedOrders = true := by kernel_rfl
/-! ### 13 loop.example/g01984/laws.szRangeS -/
noncomputable def c13 : Cfg := cfg Try.prog [(13, 999, [4])] [] [] [] []
def q13 (a0 : List AV) (a1 : Int) : Bool := true
def v13_0 (a0 : List AV) (a1 : Int) : Int := (bif decide (IntKind.i64.wrap (a1 - (a0.length : Int)) < 0) then (-1) else IntKind.i64.wrap (a1 - (a0.length : Int)))
theorem e13 (a0 : List AV) (a1 : Int) : funA c13 0 13 [AV.sl [.int .i64, .int .i64] a0, AV.int .i64 a1] = (bif decide (IntKind.i64.wrap (a1 - (a0.length : Int)) < 0) then some (AV.int .i64 (-1))
  else some (AV.int .i64 (IntKind.i64.wrap (a1 - (a0.length : Int))))) := by kernel_rfl
theorem r13 (a0 : List AV) (a1 : Int) : funA c13 0 13 [AV.sl [.int .i64, .int .i64] a0, AV.int .i64 a1] = some (AV.int .i64 (v13_0 a0 a1)) := (e13 a0 a1).trans (of_tt (brT (fun b => some (AV.int .i64 (bif b then (-1) else IntKind.i64.wrap (a1 - (a0.length : Int))))) (fun _ => rfl) (fun _ => rfl)))
def m13 : TModel
  | [.sl g0 a0, .int .i64 a1] => bif ctsEq g0 ([.int .i64, .int .i64]) then some (true, AV.int .i64 (v13_0 a0 a1)) else none
  | _ => none
theorem k13 : Known Try.prog 13 := ⟨Try.f13, Try.func13, by kernel_rfl, by kernel_rfl⟩
theorem meets13 : Meets Try.prog 13 m13 := by
  refine meet (f := Try.f13) (l := []) (hs := [(13, 999, [4])]) (ts := []) (ws := []) (is := []) (ls := []) (lvl := 0) mixed k13 Try.func13 (by kernel_rfl) noLoop allT_nil allM_nil noI fun w xs us r hl hv h => ?_
  unfold m13 at h
  split at h
  · rename_i g0 a0 a1
    obtain ⟨hg, h⟩ := bif_pair h
    have q0 := hg
    obtain rfl := ctsEq_eq _ _ q0
    obtain ⟨h1, rfl⟩ := pair_inj h
    exact r13 a0 a1
  · cases h

/-! ### 34 loop.example/g01984/laws.toIntS -/
def F34_0 (t0 : List AV) (t4 : Int) (h0 : List AV) : Out ((Int × (List AV))) (((List AV))) := (bif decide (t4 < (t0.length : Int)) then (bif (decide (0 ≤ t4) && decide (t4 < (t0.length : Int))) then (bif (decide (0 ≤ t4) && decide (t4 < (h0.length : Int))) then .next (IntKind.i64.wrap (t4 + 1), h0.set t4.toNat (AV.agg [AV.int .i64 (fI (t0.getD t4.toNat AV.undef) 0)]))
    else .fail)
   else .fail)
  else .stop h0)
def R34_0 (t0 : List AV) : ((Int × (List AV))) → Out ((Int × (List AV))) (((List AV))) := fun s : Int × (List AV) => F34_0 t0 s.1 s.2
def l34_0 : LModel := fun _ _ st k => match st with
  | ⟨[(0, .sl g0 t0), (3, .own g1), (4, .int .i64 t4)], [(g2, ⟨false, g3, h0⟩)]⟩ => bif ctsEq g0 ([.int .i64]) && nmEq g1 ([0, 3]) && nmEq g2 ([0, 3]) && ctsEq g3 ([.int .i64]) then ro (runW (R34_0 t0) (((t0.length : Int) - t4).toNat + 1) (t4, h0)) none (fun p : (List AV) => k (.exit 0) ⟨[(3, AV.own [0, 3])], [([0, 3], ⟨false, [.int .i64], p⟩)]⟩) else none
  | _ => none
noncomputable def c34 : Cfg := cfg Try.prog [(34, 0, [0, 3, 4]), (34, 999, [2]), (34, 1000, [3]), (34, 1001, [0, 3, 4])] [] [] [] [(34, 0, l34_0)]
theorem s34_0 (ce : CallE) (t0 : List AV) (t4 : Int) (h0 : List AV) (next : St → Option AV) (k : Kont) : stepA (codeA c34 ce [] 34 0 (sub [1, 1, 0, 1, 0, 0] (body Try.f34))) (normA [] [0, 3, 4]) next ⟨[(0, AV.sl [.int .i64] t0), (3, AV.own [0, 3]), (4, AV.int .i64 t4)], [([0, 3], ⟨false, [.int .i64], h0⟩)]⟩ k = (bif decide (t4 < (t0.length : Int)) then (bif (decide (0 ≤ t4) && decide (t4 < (t0.length : Int))) then (bif (decide (0 ≤ t4) && decide (t4 < (h0.length : Int))) then next ⟨[(0, AV.sl [.int .i64] t0), (3, AV.own [0, 3]), (4, AV.int .i64 (IntKind.i64.wrap (t4 + 1)))], [([0, 3], ⟨false, [.int .i64], h0.set t4.toNat (AV.agg [AV.int .i64 (fI (t0.getD t4.toNat AV.undef) 0)])⟩)]⟩
    else none)
   else none)
  else k (.exit 0) ⟨[(3, AV.own [0, 3])], [([0, 3], ⟨false, [.int .i64], h0⟩)]⟩) := by kernel_rfl
theorem st34_0 (t0 : List AV) (ce : CallE) (k : Kont) (s : (Int × (List AV))) (next : St → Option AV) : stepA (codeA c34 ce [] 34 0 (sub [1, 1, 0, 1, 0, 0] (body Try.f34))) (normA [] [0, 3, 4]) next ((fun s : Int × (List AV) => ⟨[(0, AV.sl [.int .i64] t0), (3, AV.own [0, 3]), (4, AV.int .i64 s.1)], [([0, 3], ⟨false, [.int .i64], s.2⟩)]⟩) s) k = (R34_0 t0 s).el none (fun s => next ((fun s : Int × (List AV) => ⟨[(0, AV.sl [.int .i64] t0), (3, AV.own [0, 3]), (4, AV.int .i64 s.1)], [([0, 3], ⟨false, [.int .i64], s.2⟩)]⟩) s)) (fun p : (List AV) => k (.exit 0) ⟨[(3, AV.own [0, 3])], [([0, 3], ⟨false, [.int .i64], p⟩)]⟩) := (s34_0 ce t0 s.1 s.2 next k).trans (by unfold R34_0; unfold F34_0; simp only [el_cond, el_ro, el_sum, el_fail, el_next, el_stop] <;> rfl)
theorem ok34_0 : LoopOK c34 [] 34 0 (sub [1, 1, 0, 1, 0, 0] (body Try.f34)) := by
  intro m hm ce st k r h
  obtain rfl : l34_0 = m := Option.some.inj hm
  unfold l34_0 at h
  split at h
  · rename_i g0 t0 g1 t4 g2 g3 h0
    obtain ⟨hg, h⟩ := bif_some h
    simp only [Bool.and_eq_true] at hg
    obtain ⟨⟨⟨q0, q1⟩, q2⟩, q3⟩ := hg
    obtain rfl := ctsEq_eq _ _ q0
    obtain rfl := (nmEq_iff _ _).1 q1
    obtain rfl := (nmEq_iff _ _).1 q2
    obtain rfl := ctsEq_eq _ _ q3
    refine ⟨(((t0.length : Int) - t4).toNat + 1), ?_⟩
    rw [← h]
    exact loop_run (fun s : Int × (List AV) => ⟨[(0, AV.sl [.int .i64] t0), (3, AV.own [0, 3]), (4, AV.int .i64 s.1)], [([0, 3], ⟨false, [.int .i64], s.2⟩)]⟩) (fun p : (List AV) => k (.exit 0) ⟨[(3, AV.own [0, 3])], [([0, 3], ⟨false, [.int .i64], p⟩)]⟩) (st34_0 t0 ce k) _ (t4, h0)
  · cases h
def q34 (a0 : List AV) : Bool := ((decide (0 ≤ (a0.length : Int)) && decide ((a0.length : Int) ≤ (a0.length : Int)) && decide ((a0.length : Int) * 8 ≤ 140737488355328) && decide ((a0.length : Int) ≤ 140737488355328)) && (ro (runW (R34_0 a0) (((a0.length : Int) - 0).toNat + 1) (0, List.replicate (Int.toNat (a0.length : Int)) (AV.int .i64 0))) false (fun p1 => true)))
def v34_0 (a0 : List AV) : List AV := (ro (runW (R34_0 a0) (((a0.length : Int) - 0).toNat + 1) (0, List.replicate (Int.toNat (a0.length : Int)) (AV.int .i64 0))) [] (fun p1 => p1))
theorem e34 (a0 : List AV) : funA c34 0 34 [AV.sl [.int .i64] a0] = (bif (decide (0 ≤ (a0.length : Int)) && decide ((a0.length : Int) ≤ (a0.length : Int)) && decide ((a0.length : Int) * 8 ≤ 140737488355328) && decide ((a0.length : Int) ≤ 140737488355328)) then (ro (runW (R34_0 a0) (((a0.length : Int) - 0).toNat + 1) (0, List.replicate (Int.toNat (a0.length : Int)) (AV.int .i64 0))) none (fun p1 => some (AV.fl [.int .i64] p1)))
  else none) := by kernel_rfl
theorem r34 (a0 : List AV) (h : q34 a0 = true) : funA c34 0 34 [AV.sl [.int .i64] a0] = some (AV.fl [.int .i64] (v34_0 a0)) := (e34 a0).trans ((brL (brO (fun o : Option (((List AV))) => some (AV.fl [.int .i64] (ro o [] (fun p1 => p1)))) (fun p1 => (fun _ => rfl)))) h)
def m34 : TModel
  | [.sl g0 a0] => bif ctsEq g0 ([.int .i64]) then some (q34 a0, AV.fl [.int .i64] (v34_0 a0)) else none
  | _ => none
theorem k34 : Known Try.prog 34 := ⟨Try.f34, Try.func34, by kernel_rfl, by kernel_rfl⟩
theorem meets34 : Meets Try.prog 34 m34 := by
  refine meet (f := Try.f34) (l := [(0, sub [1, 1, 0, 1, 0, 0] (body Try.f34))]) (hs := [(34, 0, [0, 3, 4]), (34, 999, [2]), (34, 1000, [3]), (34, 1001, [0, 3, 4])]) (ts := []) (ws := []) (is := []) (ls := [(34, 0, l34_0)]) (lvl := 0) mixed k34 Try.func34 (by kernel_rfl) (loops_cons ok34_0 noLoop) allT_nil allM_nil noI fun w xs us r hl hv h => ?_
  unfold m34 at h
  split at h
  · rename_i g0 a0
    obtain ⟨hg, h⟩ := bif_pair h
    have q0 := hg
    obtain rfl := ctsEq_eq _ _ q0
    obtain ⟨h1, rfl⟩ := pair_inj h
    exact r34 a0 h1
  · cases h

/-! ### 61 loop.example/g01984/laws.toRange -/
noncomputable def c61 : Cfg := cfg Try.prog [(61, 999, [2])] [] [] [] []
def q61 (a0_0 : Int) (a0_1 : Int) : Bool := true
def v61_0 (a0_0 : Int) (a0_1 : Int) : Int := a0_0
def v61_1 (a0_0 : Int) (a0_1 : Int) : Int := a0_1
theorem e61 (a0_0 : Int) (a0_1 : Int) : funA c61 0 61 [AV.agg [AV.int .i64 a0_0, AV.int .i64 a0_1]] = some (AV.agg [AV.int .i64 a0_0, AV.int .i64 a0_1]) := by kernel_rfl
theorem r61 (a0_0 : Int) (a0_1 : Int) : funA c61 0 61 [AV.agg [AV.int .i64 a0_0, AV.int .i64 a0_1]] = some (AV.agg [AV.int .i64 (v61_0 a0_0 a0_1), AV.int .i64 (v61_1 a0_0 a0_1)]) := (e61 a0_0 a0_1).trans (of_tt (fun _ => rfl))
def m61 : TModel
  | [.agg [.int .i64 a0_0, .int .i64 a0_1]] => some (true, AV.agg [AV.int .i64 (v61_0 a0_0 a0_1), AV.int .i64 (v61_1 a0_0 a0_1)])
  | _ => none
theorem k61 : Known Try.prog 61 := ⟨Try.f61, Try.func61, by kernel_rfl, by kernel_rfl⟩
theorem meets61 : Meets Try.prog 61 m61 := by
  refine meet (f := Try.f61) (l := []) (hs := [(61, 999, [2])]) (ts := []) (ws := []) (is := []) (ls := []) (lvl := 0) mixed k61 Try.func61 (by kernel_rfl) noLoop allT_nil allM_nil noI fun w xs us r hl hv h => ?_
  unfold m61 at h
  split at h
  · rename_i a0_0 a0_1
    obtain ⟨h1, rfl⟩ := pair_inj h
    exact r61 a0_0 a0_1
  · cases h

/-! ### 15 loop.example/g01984/laws.toRangeS -/
def F15_0 (t0 : List AV) (t4 : Int) (h0 : List AV) : Out ((Int × (List AV))) (((List AV))) := (bif decide (t4 < (t0.length : Int)) then (bif (decide (0 ≤ t4) && decide (t4 < (t0.length : Int))) then (bif (decide (0 ≤ t4) && decide (t4 < (h0.length : Int))) then .next (IntKind.i64.wrap (t4 + 1), h0.set t4.toNat (AV.agg [AV.int .i64 (v61_0 (fI (t0.getD t4.toNat AV.undef) 0) (fI (t0.getD t4.toNat AV.undef) 1)), AV.int .i64 (v61_1 (fI (t0.getD t4.toNat AV.undef) 0) (fI (t0.getD t4.toNat AV.undef) 1))]))
    else .fail)
   else .fail)
  else .stop h0)
def R15_0 (t0 : List AV) : ((Int × (List AV))) → Out ((Int × (List AV))) (((List AV))) := fun s : Int × (List AV) => F15_0 t0 s.1 s.2
def l15_0 : LModel := fun _ _ st k => match st with
  | ⟨[(0, .sl g0 t0), (3, .own g1), (4, .int .i64 t4)], [(g2, ⟨false, g3, h0⟩)]⟩ => bif ctsEq g0 ([.int .i64, .int .i64]) && nmEq g1 ([0, 3]) && nmEq g2 ([0, 3]) && ctsEq g3 ([.int .i64, .int .i64]) then ro (runW (R15_0 t0) (((t0.length : Int) - t4).toNat + 1) (t4, h0)) none (fun p : (List AV) => k (.exit 0) ⟨[(3, AV.own [0, 3])], [([0, 3], ⟨false, [.int .i64, .int .i64], p⟩)]⟩) else none
  | _ => none
noncomputable def c15 : Cfg := cfg Try.prog [(15, 0, [0, 3, 4]), (15, 999, [2]), (15, 1000, [3]), (15, 1001, [0, 3, 4])] [(61, m61)] [] [] [(15, 0, l15_0)]
theorem s15_0 (ce : CallE) (t0 : List AV) (t4 : Int) (h0 : List AV) (next : St → Option AV) (k : Kont) : stepA (codeA c15 ce [] 15 0 (sub [1, 1, 0, 1, 0, 0] (body Try.f15))) (normA [] [0, 3, 4]) next ⟨[(0, AV.sl [.int .i64, .int .i64] t0), (3, AV.own [0, 3]), (4, AV.int .i64 t4)], [([0, 3], ⟨false, [.int .i64, .int .i64], h0⟩)]⟩ k = (bif decide (t4 < (t0.length : Int)) then (bif (decide (0 ≤ t4) && decide (t4 < (t0.length : Int))) then (bif (decide (0 ≤ t4) && decide (t4 < (h0.length : Int))) then next ⟨[(0, AV.sl [.int .i64, .int .i64] t0), (3, AV.own [0, 3]), (4, AV.int .i64 (IntKind.i64.wrap (t4 + 1)))], [([0, 3], ⟨false, [.int .i64, .int .i64], h0.set t4.toNat (AV.agg [AV.int .i64 (v61_0 (fI (t0.getD t4.toNat AV.undef) 0) (fI (t0.getD t4.toNat AV.undef) 1)), AV.int .i64 (v61_1 (fI (t0.getD t4.toNat AV.undef) 0) (fI (t0.getD t4.toNat AV.undef) 1))])⟩)]⟩
    else none)
   else none)
  else k (.exit 0) ⟨[(3, AV.own [0, 3])], [([0, 3], ⟨false, [.int .i64, .int .i64], h0⟩)]⟩) := by kernel_rfl
theorem st15_0 (t0 : List AV) (ce : CallE) (k : Kont) (s : (Int × (List AV))) (next : St → Option AV) : stepA (codeA c15 ce [] 15 0 (sub [1, 1, 0, 1, 0, 0] (body Try.f15))) (normA [] [0, 3, 4]) next ((fun s : Int × (List AV) => ⟨[(0, AV.sl [.int .i64, .int .i64] t0), (3, AV.own [0, 3]), (4, AV.int .i64 s.1)], [([0, 3], ⟨false, [.int .i64, .int .i64], s.2⟩)]⟩) s) k = (R15_0 t0 s).el none (fun s => next ((fun s : Int × (List AV) => ⟨[(0, AV.sl [.int .i64, .int .i64] t0), (3, AV.own [0, 3]), (4, AV.int .i64 s.1)], [([0, 3], ⟨false, [.int .i64, .int .i64], s.2⟩)]⟩) s)) (fun p : (List AV) => k (.exit 0) ⟨[(3, AV.own [0, 3])], [([0, 3], ⟨false, [.int .i64, .int .i64], p⟩)]⟩) := (s15_0 ce t0 s.1 s.2 next k).trans (by unfold R15_0; unfold F15_0; simp only [el_cond, el_ro, el_sum, el_fail, el_next, el_stop] <;> rfl)
theorem ok15_0 : LoopOK c15 [] 15 0 (sub [1, 1, 0, 1, 0, 0] (body Try.f15)) := by
  intro m hm ce st k r h
  obtain rfl : l15_0 = m := Option.some.inj hm
  unfold l15_0 at h
  split at h
  · rename_i g0 t0 g1 t4 g2 g3 h0
    obtain ⟨hg, h⟩ := bif_some h
    simp only [Bool.and_eq_true] at hg
    obtain ⟨⟨⟨q0, q1⟩, q2⟩, q3⟩ := hg
    obtain rfl := ctsEq_eq _ _ q0
    obtain rfl := (nmEq_iff _ _).1 q1
    obtain rfl := (nmEq_iff _ _).1 q2
    obtain rfl := ctsEq_eq _ _ q3
    refine ⟨(((t0.length : Int) - t4).toNat + 1), ?_⟩
    rw [← h]
    exact loop_run (fun s : Int × (List AV) => ⟨[(0, AV.sl [.int .i64, .int .i64] t0), (3, AV.own [0, 3]), (4, AV.int .i64 s.1)], [([0, 3], ⟨false, [.int .i64, .int .i64], s.2⟩)]⟩) (fun p : (List AV) => k (.exit 0) ⟨[(3, AV.own [0, 3])], [([0, 3], ⟨false, [.int .i64, .int .i64], p⟩)]⟩) (st15_0 t0 ce k) _ (t4, h0)
  · cases h
def q15 (a0 : List AV) : Bool := ((decide (0 ≤ (a0.length : Int)) && decide ((a0.length : Int) ≤ (a0.length : Int)) && decide ((a0.length : Int) * 16 ≤ 140737488355328) && decide ((a0.length : Int) ≤ 140737488355328)) && (ro (runW (R15_0 a0) (((a0.length : Int) - 0).toNat + 1) (0, List.replicate (Int.toNat (a0.length : Int)) (AV.agg [AV.int .i64 0, AV.int .i64 0]))) false (fun p2 => true)))
def v15_0 (a0 : List AV) : List AV := (ro (runW (R15_0 a0) (((a0.length : Int) - 0).toNat + 1) (0, List.replicate (Int.toNat (a0.length : Int)) (AV.agg [AV.int .i64 0, AV.int .i64 0]))) [] (fun p2 => p2))
theorem e15 (a0 : List AV) : funA c15 0 15 [AV.sl [.int .i64, .int .i64] a0] = (bif (decide (0 ≤ (a0.length : Int)) && decide ((a0.length : Int) ≤ (a0.length : Int)) && decide ((a0.length : Int) * 16 ≤ 140737488355328) && decide ((a0.length : Int) ≤ 140737488355328)) then (ro (runW (R15_0 a0) (((a0.length : Int) - 0).toNat + 1) (0, List.replicate (Int.toNat (a0.length : Int)) (AV.agg [AV.int .i64 0, AV.int .i64 0]))) none (fun p2 => some (AV.fl [.int .i64, .int .i64] p2)))
  else none) := by kernel_rfl
theorem r15 (a0 : List AV) (h : q15 a0 = true) : funA c15 0 15 [AV.sl [.int .i64, .int .i64] a0] = some (AV.fl [.int .i64, .int .i64] (v15_0 a0)) := (e15 a0).trans ((brL (brO (fun o : Option (((List AV))) => some (AV.fl [.int .i64, .int .i64] (ro o [] (fun p2 => p2)))) (fun p2 => (fun _ => rfl)))) h)
def m15 : TModel
  | [.sl g0 a0] => bif ctsEq g0 ([.int .i64, .int .i64]) then some (q15 a0, AV.fl [.int .i64, .int .i64] (v15_0 a0)) else none
  | _ => none
theorem k15 : Known Try.prog 15 := ⟨Try.f15, Try.func15, by kernel_rfl, by kernel_rfl⟩
theorem meets15 : Meets Try.prog 15 m15 := by
  refine meet (f := Try.f15) (l := [(0, sub [1, 1, 0, 1, 0, 0] (body Try.f15))]) (hs := [(15, 0, [0, 3, 4]), (15, 999, [2]), (15, 1000, [3]), (15, 1001, [0, 3, 4])]) (ts := [(61, m61)]) (ws := []) (is := []) (ls := [(15, 0, l15_0)]) (lvl := 0) mixed k15 Try.func15 (by kernel_rfl) (loops_cons ok15_0 noLoop) (allT_cons meets61 allT_nil) allM_nil noI fun w xs us r hl hv h => ?_
  unfold m15 at h
  split at h
  · rename_i g0 a0
    obtain ⟨hg, h⟩ := bif_pair h
    have q0 := hg
    obtain rfl := ctsEq_eq _ _ q0
    obtain ⟨h1, rfl⟩ := pair_inj h
    exact r15 a0 h1
  · cases h

/-! ### 66 loop.example/g01984/spec.l1In -/
noncomputable def c66 : Cfg := cfg Try.prog [(66, 999, [6])] [] [] [] []
def q66 (a0 : Int) (a1 : Int) (a2 : Int) : Bool := true
def v66_0 (a0 : Int) (a1 : Int) (a2 : Int) : Bool := (bif decide (a0 ≥ a1) then decide (a0 ≤ a2) else false)
theorem e66 (a0 : Int) (a1 : Int) (a2 : Int) : funA c66 0 66 [AV.int .i64 a0, AV.int .i64 a1, AV.int .i64 a2] = (bif decide (a0 ≥ a1) then some (AV.bool (decide (a0 ≤ a2)))
  else some (AV.bool false)) := by kernel_rfl
theorem r66 (a0 : Int) (a1 : Int) (a2 : Int) : funA c66 0 66 [AV.int .i64 a0, AV.int .i64 a1, AV.int .i64 a2] = some (AV.bool (v66_0 a0 a1 a2)) := (e66 a0 a1 a2).trans (of_tt (brT (fun b => some (AV.bool (bif b then decide (a0 ≤ a2) else false))) (fun _ => rfl) (fun _ => rfl)))
def m66 : TModel
  | [.int .i64 a0, .int .i64 a1, .int .i64 a2] => some (true, AV.bool (v66_0 a0 a1 a2))
  | _ => none
theorem k66 : Known Try.prog 66 := ⟨Try.f66, Try.func66, by kernel_rfl, by kernel_rfl⟩
theorem meets66 : Meets Try.prog 66 m66 := by
  refine meet (f := Try.f66) (l := []) (hs := [(66, 999, [6])]) (ts := []) (ws := []) (is := []) (ls := []) (lvl := 0) mixed k66 Try.func66 (by kernel_rfl) noLoop allT_nil allM_nil noI fun w xs us r hl hv h => ?_
  unfold m66 at h
  split at h
  · rename_i a0 a1 a2
    obtain ⟨h1, rfl⟩ := pair_inj h
    exact r66 a0 a1 a2
  · cases h

/-! ### 90 loop.example/g01984/spec.AreValues -/
def F90_0 (t0 : List AV) (t3 : Int) : Out (Int) (Unit ⊕ Unit) := (bif decide (t3 < (t0.length : Int)) then (bif (decide (0 ≤ t3) && decide (t3 < (t0.length : Int))) then (bif !(v66_0 (fI (t0.getD t3.toNat AV.undef) 0) (-999) 999) then .stop (.inr ())
    else .next (IntKind.i64.wrap (t3 + 1)))
   else .fail)
  else .stop (.inl ()))
def R90_0 (t0 : List AV) : (Int) → Out (Int) (Unit ⊕ Unit) := fun s : Int => F90_0 t0 s
def l90_0 : LModel := fun _ _ st k => match st with
  | ⟨[(0, .sl g0 t0), (3, .int .i64 t3)], []⟩ => bif ctsEq g0 ([.int .i64]) then ro (runW (R90_0 t0) (((t0.length : Int) - t3).toNat + 1) t3) none (sumE (fun _ : Unit => k (.exit 0) ⟨[(0, AV.sl [.int .i64] t0)], []⟩) (fun _ : Unit => k .ret ⟨[(2, AV.bool false)], []⟩)) else none
  | _ => none
noncomputable def c90 : Cfg := cfg Try.prog [(90, 0, [0, 3]), (90, 999, [2]), (90, 1000, [0]), (90, 1001, [0, 3])] [(66, m66)] [] [] [(90, 0, l90_0)]
theorem s90_0 (ce : CallE) (t0 : List AV) (t3 : Int) (next : St → Option AV) (k : Kont) : stepA (codeA c90 ce [] 90 0 (sub [1, 0, 1, 0, 0] (body Try.f90))) (normA [] [0, 3]) next ⟨[(0, AV.sl [.int .i64] t0), (3, AV.int .i64 t3)], []⟩ k = (bif decide (t3 < (t0.length : Int)) then (bif (decide (0 ≤ t3) && decide (t3 < (t0.length : Int))) then (bif !(v66_0 (fI (t0.getD t3.toNat AV.undef) 0) (-999) 999) then k .ret ⟨[(2, AV.bool false)], []⟩
    else next ⟨[(0, AV.sl [.int .i64] t0), (3, AV.int .i64 (IntKind.i64.wrap (t3 + 1)))], []⟩)
   else none)
  else k (.exit 0) ⟨[(0, AV.sl [.int .i64] t0)], []⟩) := by kernel_rfl
theorem st90_0 (t0 : List AV) (ce : CallE) (k : Kont) (s : Int) (next : St → Option AV) : stepA (codeA c90 ce [] 90 0 (sub [1, 0, 1, 0, 0] (body Try.f90))) (normA [] [0, 3]) next ((fun s : Int => ⟨[(0, AV.sl [.int .i64] t0), (3, AV.int .i64 s)], []⟩) s) k = (R90_0 t0 s).el none (fun s => next ((fun s : Int => ⟨[(0, AV.sl [.int .i64] t0), (3, AV.int .i64 s)], []⟩) s)) (sumE (fun _ : Unit => k (.exit 0) ⟨[(0, AV.sl [.int .i64] t0)], []⟩) (fun _ : Unit => k .ret ⟨[(2, AV.bool false)], []⟩)) := (s90_0 ce t0 s next k).trans (by unfold R90_0; unfold F90_0; simp only [el_cond, el_ro, el_sum, el_fail, el_next, el_stop] <;> rfl)
theorem ok90_0 : LoopOK c90 [] 90 0 (sub [1, 0, 1, 0, 0] (body Try.f90)) := by
  intro m hm ce st k r h
  obtain rfl : l90_0 = m := Option.some.inj hm
  unfold l90_0 at h
  split at h
  · rename_i g0 t0 t3
    obtain ⟨hg, h⟩ := bif_some h
    have q0 := hg
    obtain rfl := ctsEq_eq _ _ q0
    refine ⟨(((t0.length : Int) - t3).toNat + 1), ?_⟩
    rw [← h]
    exact loop_run (fun s : Int => ⟨[(0, AV.sl [.int .i64] t0), (3, AV.int .i64 s)], []⟩) (sumE (fun _ : Unit => k (.exit 0) ⟨[(0, AV.sl [.int .i64] t0)], []⟩) (fun _ : Unit => k .ret ⟨[(2, AV.bool false)], []⟩)) (st90_0 t0 ce k) _ t3
  · cases h
def q90 (a0 : List AV) : Bool := (ro (runW (R90_0 a0) (((a0.length : Int) - 0).toNat + 1) 0) false (sumE (fun _ => true) (fun _ => true)))
def v90_0 (a0 : List AV) : Bool := (ro (runW (R90_0 a0) (((a0.length : Int) - 0).toNat + 1) 0) false (sumE (fun _ => decide ((a0.length : Int) ≤ 64)) (fun _ => false)))
theorem e90 (a0 : List AV) : funA c90 0 90 [AV.sl [.int .i64] a0] = (ro (runW (R90_0 a0) (((a0.length : Int) - 0).toNat + 1) 0) none (sumE (fun _ => some (AV.bool (decide ((a0.length : Int) ≤ 64)))) (fun _ => some (AV.bool false)))) := by kernel_rfl
theorem r90 (a0 : List AV) (h : q90 a0 = true) : funA c90 0 90 [AV.sl [.int .i64] a0] = some (AV.bool (v90_0 a0)) := (e90 a0).trans ((brO (fun o : Option (Unit ⊕ Unit) => some (AV.bool (ro o false (sumE (fun _ => decide ((a0.length : Int) ≤ 64)) (fun _ => false))))) (brS (fun o : Unit ⊕ Unit => some (AV.bool ((sumE (fun _ => decide ((a0.length : Int) ≤ 64)) (fun _ => false)) o))) (fun _ => (fun _ => rfl)) (fun _ => (fun _ => rfl)))) h)
def m90 : TModel
  | [.sl g0 a0] => bif ctsEq g0 ([.int .i64]) then some (q90 a0, AV.bool (v90_0 a0)) else none
  | _ => none
theorem k90 : Known Try.prog 90 := ⟨Try.f90, Try.func90, by kernel_rfl, by kernel_rfl⟩
theorem meets90 : Meets Try.prog 90 m90 := by
  refine meet (f := Try.f90) (l := [(0, sub [1, 0, 1, 0, 0] (body Try.f90))]) (hs := [(90, 0, [0, 3]), (90, 999, [2]), (90, 1000, [0]), (90, 1001, [0, 3])]) (ts := [(66, m66)]) (ws := []) (is := []) (ls := [(90, 0, l90_0)]) (lvl := 0) mixed k90 Try.func90 (by kernel_rfl) (loops_cons ok90_0 noLoop) (allT_cons meets66 allT_nil) allM_nil noI fun w xs us r hl hv h => ?_
  unfold m90 at h
  split at h
  · rename_i g0 a0
    obtain ⟨hg, h⟩ := bif_pair h
    have q0 := hg
    obtain rfl := ctsEq_eq _ _ q0
    obtain ⟨h1, rfl⟩ := pair_inj h
    exact r90 a0 h1
  · cases h

/-! ### 107 loop.example/g01984/spec.IsRange -/
noncomputable def c107 : Cfg := cfg Try.prog [(107, 999, [2])] [(66, m66)] [] [] []
def q107 (a0_0 : Int) (a0_1 : Int) : Bool := true
def v107_0 (a0_0 : Int) (a0_1 : Int) : Bool := (bif (v66_0 a0_0 (-1000) 1000) then (v66_0 a0_1 a0_0 1000) else false)
theorem e107 (a0_0 : Int) (a0_1 : Int) : funA c107 0 107 [AV.agg [AV.int .i64 a0_0, AV.int .i64 a0_1]] = (bif (v66_0 a0_0 (-1000) 1000) then some (AV.bool (v66_0 a0_1 a0_0 1000))
  else some (AV.bool false)) := by kernel_rfl
theorem r107 (a0_0 : Int) (a0_1 : Int) : funA c107 0 107 [AV.agg [AV.int .i64 a0_0, AV.int .i64 a0_1]] = some (AV.bool (v107_0 a0_0 a0_1)) := (e107 a0_0 a0_1).trans (of_tt (brT (fun b => some (AV.bool (bif b then (v66_0 a0_1 a0_0 1000) else false))) (fun _ => rfl) (fun _ => rfl)))
def m107 : TModel
  | [.agg [.int .i64 a0_0, .int .i64 a0_1]] => some (true, AV.bool (v107_0 a0_0 a0_1))
  | _ => none
theorem k107 : Known Try.prog 107 := ⟨Try.f107, Try.func107, by kernel_rfl, by kernel_rfl⟩
theorem meets107 : Meets Try.prog 107 m107 := by
  refine meet (f := Try.f107) (l := []) (hs := [(107, 999, [2])]) (ts := [(66, m66)]) (ws := []) (is := []) (ls := []) (lvl := 0) mixed k107 Try.func107 (by kernel_rfl) noLoop (allT_cons meets66 allT_nil) allM_nil noI fun w xs us r hl hv h => ?_
  unfold m107 at h
  split at h
  · rename_i a0_0 a0_1
    obtain ⟨h1, rfl⟩ := pair_inj h
    exact r107 a0_0 a0_1
  · cases h

/-! ### 60 loop.example/g01984/spec.l8Ranges -/
def F60_0 (t0 : List AV) (t3 : Int) : Out (Int) (Unit ⊕ Unit) := (bif decide (t3 < (t0.length : Int)) then (bif (decide (0 ≤ t3) && decide (t3 < (t0.length : Int))) then (bif !(v107_0 (fI (t0.getD t3.toNat AV.undef) 0) (fI (t0.getD t3.toNat AV.undef) 1)) then .stop (.inr ())
    else .next (IntKind.i64.wrap (t3 + 1)))
   else .fail)
  else .stop (.inl ()))
def R60_0 (t0 : List AV) : (Int) → Out (Int) (Unit ⊕ Unit) := fun s : Int => F60_0 t0 s
def l60_0 : LModel := fun _ _ st k => match st with
  | ⟨[(0, .sl g0 t0), (3, .int .i64 t3)], []⟩ => bif ctsEq g0 ([.int .i64, .int .i64]) then ro (runW (R60_0 t0) (((t0.length : Int) - t3).toNat + 1) t3) none (sumE (fun _ : Unit => k (.exit 0) ⟨[(0, AV.sl [.int .i64, .int .i64] t0)], []⟩) (fun _ : Unit => k .ret ⟨[(2, AV.bool false)], []⟩)) else none
  | _ => none
noncomputable def c60 : Cfg := cfg Try.prog [(60, 0, [0, 3]), (60, 999, [2]), (60, 1000, [0]), (60, 1001, [0, 3])] [(107, m107)] [] [] [(60, 0, l60_0)]
theorem s60_0 (ce : CallE) (t0 : List AV) (t3 : Int) (next : St → Option AV) (k : Kont) : stepA (codeA c60 ce [] 60 0 (sub [1, 0, 1, 0, 0] (body Try.f60))) (normA [] [0, 3]) next ⟨[(0, AV.sl [.int .i64, .int .i64] t0), (3, AV.int .i64 t3)], []⟩ k = (bif decide (t3 < (t0.length : Int)) then (bif (decide (0 ≤ t3) && decide (t3 < (t0.length : Int))) then (bif !(v107_0 (fI (t0.getD t3.toNat AV.undef) 0) (fI (t0.getD t3.toNat AV.undef) 1)) then k .ret ⟨[(2, AV.bool false)], []⟩
    else next ⟨[(0, AV.sl [.int .i64, .int .i64] t0), (3, AV.int .i64 (IntKind.i64.wrap (t3 + 1)))], []⟩)
   else none)
  else k (.exit 0) ⟨[(0, AV.sl [.int .i64, .int .i64] t0)], []⟩) := by kernel_rfl
theorem st60_0 (t0 : List AV) (ce : CallE) (k : Kont) (s : Int) (next : St → Option AV) : stepA (codeA c60 ce [] 60 0 (sub [1, 0, 1, 0, 0] (body Try.f60))) (normA [] [0, 3]) next ((fun s : Int => ⟨[(0, AV.sl [.int .i64, .int .i64] t0), (3, AV.int .i64 s)], []⟩) s) k = (R60_0 t0 s).el none (fun s => next ((fun s : Int => ⟨[(0, AV.sl [.int .i64, .int .i64] t0), (3, AV.int .i64 s)], []⟩) s)) (sumE (fun _ : Unit => k (.exit 0) ⟨[(0, AV.sl [.int .i64, .int .i64] t0)], []⟩) (fun _ : Unit => k .ret ⟨[(2, AV.bool false)], []⟩)) := (s60_0 ce t0 s next k).trans (by unfold R60_0; unfold F60_0; simp only [el_cond, el_ro, el_sum, el_fail, el_next, el_stop] <;> rfl)
theorem ok60_0 : LoopOK c60 [] 60 0 (sub [1, 0, 1, 0, 0] (body Try.f60)) := by
  intro m hm ce st k r h
  obtain rfl : l60_0 = m := Option.some.inj hm
  unfold l60_0 at h
  split at h
  · rename_i g0 t0 t3
    obtain ⟨hg, h⟩ := bif_some h
    have q0 := hg
    obtain rfl := ctsEq_eq _ _ q0
    refine ⟨(((t0.length : Int) - t3).toNat + 1), ?_⟩
    rw [← h]
    exact loop_run (fun s : Int => ⟨[(0, AV.sl [.int .i64, .int .i64] t0), (3, AV.int .i64 s)], []⟩) (sumE (fun _ : Unit => k (.exit 0) ⟨[(0, AV.sl [.int .i64, .int .i64] t0)], []⟩) (fun _ : Unit => k .ret ⟨[(2, AV.bool false)], []⟩)) (st60_0 t0 ce k) _ t3
  · cases h
def q60 (a0 : List AV) : Bool := (ro (runW (R60_0 a0) (((a0.length : Int) - 0).toNat + 1) 0) false (sumE (fun _ => true) (fun _ => true)))
def v60_0 (a0 : List AV) : Bool := (ro (runW (R60_0 a0) (((a0.length : Int) - 0).toNat + 1) 0) false (sumE (fun _ => decide ((a0.length : Int) ≤ 30)) (fun _ => false)))
theorem e60 (a0 : List AV) : funA c60 0 60 [AV.sl [.int .i64, .int .i64] a0] = (ro (runW (R60_0 a0) (((a0.length : Int) - 0).toNat + 1) 0) none (sumE (fun _ => some (AV.bool (decide ((a0.length : Int) ≤ 30)))) (fun _ => some (AV.bool false)))) := by kernel_rfl
theorem r60 (a0 : List AV) (h : q60 a0 = true) : funA c60 0 60 [AV.sl [.int .i64, .int .i64] a0] = some (AV.bool (v60_0 a0)) := (e60 a0).trans ((brO (fun o : Option (Unit ⊕ Unit) => some (AV.bool (ro o false (sumE (fun _ => decide ((a0.length : Int) ≤ 30)) (fun _ => false))))) (brS (fun o : Unit ⊕ Unit => some (AV.bool ((sumE (fun _ => decide ((a0.length : Int) ≤ 30)) (fun _ => false)) o))) (fun _ => (fun _ => rfl)) (fun _ => (fun _ => rfl)))) h)
def m60 : TModel
  | [.sl g0 a0] => bif ctsEq g0 ([.int .i64, .int .i64]) then some (q60 a0, AV.bool (v60_0 a0)) else none
  | _ => none
theorem k60 : Known Try.prog 60 := ⟨Try.f60, Try.func60, by kernel_rfl, by kernel_rfl⟩
theorem meets60 : Meets Try.prog 60 m60 := by
  refine meet (f := Try.f60) (l := [(0, sub [1, 0, 1, 0, 0] (body Try.f60))]) (hs := [(60, 0, [0, 3]), (60, 999, [2]), (60, 1000, [0]), (60, 1001, [0, 3])]) (ts := [(107, m107)]) (ws := []) (is := []) (ls := [(60, 0, l60_0)]) (lvl := 0) mixed k60 Try.func60 (by kernel_rfl) (loops_cons ok60_0 noLoop) (allT_cons meets107 allT_nil) allM_nil noI fun w xs us r hl hv h => ?_
  unfold m60 at h
  split at h
  · rename_i g0 a0
    obtain ⟨hg, h⟩ := bif_pair h
    have q0 := hg
    obtain rfl := ctsEq_eq _ _ q0
    obtain ⟨h1, rfl⟩ := pair_inj h
    exact r60 a0 h1
  · cases h

/-! ### 73 loop.example/g01984/spec.l23Fine -/
noncomputable def c73 : Cfg := cfg Try.prog [(73, 999, [4])] [(60, m60), (90, m90)] [] [] []
def q73 (a0 : List AV) (a1 : List AV) : Bool := (q90 a0 && (bif (v90_0 a0) then q60 a1 else true))
def v73_0 (a0 : List AV) (a1 : List AV) : Bool := (bif (v90_0 a0) then (v60_0 a1) else false)
theorem e73 (a0 : List AV) (a1 : List AV) : funA c73 0 73 [AV.sl [.int .i64] a0, AV.sl [.int .i64, .int .i64] a1] = (bif q90 a0 then (bif (v90_0 a0) then (bif q60 a1 then some (AV.bool (v60_0 a1))
    else none)
   else some (AV.bool false))
  else none) := by kernel_rfl
theorem r73 (a0 : List AV) (a1 : List AV) (h : q73 a0 a1 = true) : funA c73 0 73 [AV.sl [.int .i64] a0, AV.sl [.int .i64, .int .i64] a1] = some (AV.bool (v73_0 a0 a1)) := (e73 a0 a1).trans ((brL (br (fun b => some (AV.bool (bif b then (v60_0 a1) else false))) (brL1 (fun _ => rfl)) (fun _ => rfl))) h)
def m73 : TModel
  | [.sl g0 a0, .sl g1 a1] => bif ctsEq g0 ([.int .i64]) && ctsEq g1 ([.int .i64, .int .i64]) then some (q73 a0 a1, AV.bool (v73_0 a0 a1)) else none
  | _ => none
theorem k73 : Known Try.prog 73 := ⟨Try.f73, Try.func73, by kernel_rfl, by kernel_rfl⟩
theorem meets73 : Meets Try.prog 73 m73 := by
  refine meet (f := Try.f73) (l := []) (hs := [(73, 999, [4])]) (ts := [(60, m60), (90, m90)]) (ws := []) (is := []) (ls := []) (lvl := 0) mixed k73 Try.func73 (by kernel_rfl) noLoop (allT_cons meets60 (allT_cons meets90 allT_nil)) allM_nil noI fun w xs us r hl hv h => ?_
  unfold m73 at h
  split at h
  · rename_i g0 a0 g1 a1
    obtain ⟨hg, h⟩ := bif_pair h
    simp only [Bool.and_eq_true] at hg
    obtain ⟨q0, q1⟩ := hg
    obtain rfl := ctsEq_eq _ _ q0
    obtain rfl := ctsEq_eq _ _ q1
    obtain ⟨h1, rfl⟩ := pair_inj h
    exact r73 a0 a1 h1
  · cases h

/-! ### 71 loop.example/g01984/spec.InRange -/
noncomputable def c71 : Cfg := cfg Try.prog [(71, 999, [4])] [(66, m66), (107, m107)] [] [] []
def q71 (a0_0 : Int) (a0_1 : Int) (a1 : Int) : Bool := true
def v71_0 (a0_0 : Int) (a0_1 : Int) (a1 : Int) : Bool := (bif (v107_0 a0_0 a0_1) then (v66_0 a1 a0_0 (IntKind.i64.wrap (a0_1 - 1))) else false)
theorem e71 (a0_0 : Int) (a0_1 : Int) (a1 : Int) : funA c71 0 71 [AV.agg [AV.int .i64 a0_0, AV.int .i64 a0_1], AV.int .i64 a1] = (bif (v107_0 a0_0 a0_1) then some (AV.bool (v66_0 a1 a0_0 (IntKind.i64.wrap (a0_1 - 1))))
  else some (AV.bool false)) := by kernel_rfl
theorem r71 (a0_0 : Int) (a0_1 : Int) (a1 : Int) : funA c71 0 71 [AV.agg [AV.int .i64 a0_0, AV.int .i64 a0_1], AV.int .i64 a1] = some (AV.bool (v71_0 a0_0 a0_1 a1)) := (e71 a0_0 a0_1 a1).trans (of_tt (brT (fun b => some (AV.bool (bif b then (v66_0 a1 a0_0 (IntKind.i64.wrap (a0_1 - 1))) else false))) (fun _ => rfl) (fun _ => rfl)))
def m71 : TModel
  | [.agg [.int .i64 a0_0, .int .i64 a0_1], .int .i64 a1] => some (true, AV.bool (v71_0 a0_0 a0_1 a1))
  | _ => none
theorem k71 : Known Try.prog 71 := ⟨Try.f71, Try.func71, by kernel_rfl, by kernel_rfl⟩
theorem meets71 : Meets Try.prog 71 m71 := by
  refine meet (f := Try.f71) (l := []) (hs := [(71, 999, [4])]) (ts := [(66, m66), (107, m107)]) (ws := []) (is := []) (ls := []) (lvl := 0) mixed k71 Try.func71 (by kernel_rfl) noLoop (allT_cons meets66 (allT_cons meets107 allT_nil)) allM_nil noI fun w xs us r hl hv h => ?_
  unfold m71 at h
  split at h
  · rename_i a0_0 a0_1 a1
    obtain ⟨h1, rfl⟩ := pair_inj h
    exact r71 a0_0 a0_1 a1
  · cases h

/-! ### 31 loop.example/g01984/spec.QueriesFor -/
def F31_0 (t0 : List AV) (t1 : Int) (t6 : Int) (h0 : List AV) : Out ((Int × (List AV))) (((List AV))) := (bif decide (t6 < (t0.length : Int)) then (bif q60 t0 then (bif (v60_0 t0) then (bif (decide (0 ≤ t6) && decide (t6 < (t0.length : Int))) then (bif (v71_0 (fI (t0.getD t6.toNat AV.undef) 0) (fI (t0.getD t6.toNat AV.undef) 1) t1) then (bif (decide ((h0.length + ([AV.int .i64 t6]).length) * 8 ≤ 140737488355328) && decide ((h0.length + ([AV.int .i64 t6]).length) ≤ 140737488355328)) then .next (IntKind.i64.wrap (t6 + 1), h0 ++ ([AV.int .i64 t6]))
       else .fail)
      else .next (IntKind.i64.wrap (t6 + 1), h0))
     else .fail)
    else .stop h0)
   else .fail)
  else .stop h0)
def R31_0 (t0 : List AV) (t1 : Int) : ((Int × (List AV))) → Out ((Int × (List AV))) (((List AV))) := fun s : Int × (List AV) => F31_0 t0 t1 s.1 s.2
def l31_0 : LModel := fun _ _ st k => match st with
  | ⟨[(0, .sl g0 t0), (1, .int .i64 t1), (5, .own g1), (6, .int .i64 t6)], [(g2, ⟨false, g3, h0⟩)]⟩ => bif ctsEq g0 ([.int .i64, .int .i64]) && nmEq g1 ([0, 5]) && nmEq g2 ([0, 5]) && ctsEq g3 ([.int .i64]) then ro (runW (R31_0 t0 t1) (((t0.length : Int) - t6).toNat + 1) (t6, h0)) none (fun p : (List AV) => k (.exit 0) ⟨[(5, AV.own [0, 5])], [([0, 5], ⟨false, [.int .i64], p⟩)]⟩) else none
  | _ => none
noncomputable def c31 : Cfg := cfg Try.prog [(31, 0, [0, 1, 5, 6]), (31, 999, [4]), (31, 1000, [5]), (31, 1001, [0, 1, 5, 6])] [(60, m60), (71, m71)] [] [] [(31, 0, l31_0)]
theorem s31_0 (ce : CallE) (t0 : List AV) (t1 : Int) (t6 : Int) (h0 : List AV) (next : St → Option AV) (k : Kont) : stepA (codeA c31 ce [] 31 0 (sub [1, 1, 0, 1, 0, 0] (body Try.f31))) (normA [] [0, 1, 5, 6]) next ⟨[(0, AV.sl [.int .i64, .int .i64] t0), (1, AV.int .i64 t1), (5, AV.own [0, 5]), (6, AV.int .i64 t6)], [([0, 5], ⟨false, [.int .i64], h0⟩)]⟩ k = (bif decide (t6 < (t0.length : Int)) then (bif q60 t0 then (bif (v60_0 t0) then (bif (decide (0 ≤ t6) && decide (t6 < (t0.length : Int))) then (bif (v71_0 (fI (t0.getD t6.toNat AV.undef) 0) (fI (t0.getD t6.toNat AV.undef) 1) t1) then (bif (decide ((h0.length + ([AV.int .i64 t6]).length) * 8 ≤ 140737488355328) && decide ((h0.length + ([AV.int .i64 t6]).length) ≤ 140737488355328)) then next ⟨[(0, AV.sl [.int .i64, .int .i64] t0), (1, AV.int .i64 t1), (5, AV.own [0, 5]), (6, AV.int .i64 (IntKind.i64.wrap (t6 + 1)))], [([0, 5], ⟨false, [.int .i64], h0 ++ ([AV.int .i64 t6])⟩)]⟩
       else none)
      else next ⟨[(0, AV.sl [.int .i64, .int .i64] t0), (1, AV.int .i64 t1), (5, AV.own [0, 5]), (6, AV.int .i64 (IntKind.i64.wrap (t6 + 1)))], [([0, 5], ⟨false, [.int .i64], h0⟩)]⟩)
     else none)
    else k (.exit 0) ⟨[(5, AV.own [0, 5])], [([0, 5], ⟨false, [.int .i64], h0⟩)]⟩)
   else none)
  else k (.exit 0) ⟨[(5, AV.own [0, 5])], [([0, 5], ⟨false, [.int .i64], h0⟩)]⟩) := by kernel_rfl
theorem st31_0 (t0 : List AV) (t1 : Int) (ce : CallE) (k : Kont) (s : (Int × (List AV))) (next : St → Option AV) : stepA (codeA c31 ce [] 31 0 (sub [1, 1, 0, 1, 0, 0] (body Try.f31))) (normA [] [0, 1, 5, 6]) next ((fun s : Int × (List AV) => ⟨[(0, AV.sl [.int .i64, .int .i64] t0), (1, AV.int .i64 t1), (5, AV.own [0, 5]), (6, AV.int .i64 s.1)], [([0, 5], ⟨false, [.int .i64], s.2⟩)]⟩) s) k = (R31_0 t0 t1 s).el none (fun s => next ((fun s : Int × (List AV) => ⟨[(0, AV.sl [.int .i64, .int .i64] t0), (1, AV.int .i64 t1), (5, AV.own [0, 5]), (6, AV.int .i64 s.1)], [([0, 5], ⟨false, [.int .i64], s.2⟩)]⟩) s)) (fun p : (List AV) => k (.exit 0) ⟨[(5, AV.own [0, 5])], [([0, 5], ⟨false, [.int .i64], p⟩)]⟩) := (s31_0 ce t0 t1 s.1 s.2 next k).trans (by unfold R31_0; unfold F31_0; simp only [el_cond, el_ro, el_sum, el_fail, el_next, el_stop] <;> rfl)
theorem ok31_0 : LoopOK c31 [] 31 0 (sub [1, 1, 0, 1, 0, 0] (body Try.f31)) := by
  intro m hm ce st k r h
  obtain rfl : l31_0 = m := Option.some.inj hm
  unfold l31_0 at h
  split at h
  · rename_i g0 t0 t1 g1 t6 g2 g3 h0
    obtain ⟨hg, h⟩ := bif_some h
    simp only [Bool.and_eq_true] at hg
    obtain ⟨⟨⟨q0, q1⟩, q2⟩, q3⟩ := hg
    obtain rfl := ctsEq_eq _ _ q0
    obtain rfl := (nmEq_iff _ _).1 q1
    obtain rfl := (nmEq_iff _ _).1 q2
    obtain rfl := ctsEq_eq _ _ q3
    refine ⟨(((t0.length : Int) - t6).toNat + 1), ?_⟩
    rw [← h]
    exact loop_run (fun s : Int × (List AV) => ⟨[(0, AV.sl [.int .i64, .int .i64] t0), (1, AV.int .i64 t1), (5, AV.own [0, 5]), (6, AV.int .i64 s.1)], [([0, 5], ⟨false, [.int .i64], s.2⟩)]⟩) (fun p : (List AV) => k (.exit 0) ⟨[(5, AV.own [0, 5])], [([0, 5], ⟨false, [.int .i64], p⟩)]⟩) (st31_0 t0 t1 ce k) _ (t6, h0)
  · cases h
def q31 (a0 : List AV) (a1 : Int) : Bool := (ro (runW (R31_0 a0 a1) (((a0.length : Int) - 0).toNat + 1) (0, ([] : List AV))) false (fun p7 => true))
def v31_0 (a0 : List AV) (a1 : Int) : List AV := (ro (runW (R31_0 a0 a1) (((a0.length : Int) - 0).toNat + 1) (0, ([] : List AV))) [] (fun p7 => p7))
theorem e31 (a0 : List AV) (a1 : Int) : funA c31 0 31 [AV.sl [.int .i64, .int .i64] a0, AV.int .i64 a1] = (ro (runW (R31_0 a0 a1) (((a0.length : Int) - 0).toNat + 1) (0, ([] : List AV))) none (fun p7 => some (AV.fl [.int .i64] p7))) := by kernel_rfl
theorem r31 (a0 : List AV) (a1 : Int) (h : q31 a0 a1 = true) : funA c31 0 31 [AV.sl [.int .i64, .int .i64] a0, AV.int .i64 a1] = some (AV.fl [.int .i64] (v31_0 a0 a1)) := (e31 a0 a1).trans ((brO (fun o : Option (((List AV))) => some (AV.fl [.int .i64] (ro o [] (fun p7 => p7)))) (fun p7 => (fun _ => rfl))) h)
def m31 : TModel
  | [.sl g0 a0, .int .i64 a1] => bif ctsEq g0 ([.int .i64, .int .i64]) then some (q31 a0 a1, AV.fl [.int .i64] (v31_0 a0 a1)) else none
  | _ => none
theorem k31 : Known Try.prog 31 := ⟨Try.f31, Try.func31, by kernel_rfl, by kernel_rfl⟩
theorem meets31 : Meets Try.prog 31 m31 := by
  refine meet (f := Try.f31) (l := [(0, sub [1, 1, 0, 1, 0, 0] (body Try.f31))]) (hs := [(31, 0, [0, 1, 5, 6]), (31, 999, [4]), (31, 1000, [5]), (31, 1001, [0, 1, 5, 6])]) (ts := [(60, m60), (71, m71)]) (ws := []) (is := []) (ls := [(31, 0, l31_0)]) (lvl := 0) mixed k31 Try.func31 (by kernel_rfl) (loops_cons ok31_0 noLoop) (allT_cons meets60 (allT_cons meets71 allT_nil)) allM_nil noI fun w xs us r hl hv h => ?_
  unfold m31 at h
  split at h
  · rename_i g0 a0 a1
    obtain ⟨hg, h⟩ := bif_pair h
    have q0 := hg
    obtain rfl := ctsEq_eq _ _ q0
    obtain ⟨h1, rfl⟩ := pair_inj h
    exact r31 a0 a1 h1
  · cases h

/-! ### 33 loop.example/g01984/spec.HeatOf -/
def F33_0 (t0 : List AV) (t1 : List AV) (t6 : Int) (h0 : List AV) : Out ((Int × (List AV))) (((List AV))) := (bif decide (t6 < (t0.length : Int)) then (bif q73 t0 t1 then (bif (v73_0 t0 t1) then (bif (decide (0 ≤ t6) && decide (t6 < (t0.length : Int))) then (bif q31 t1 (fI (t0.getD t6.toNat AV.undef) 0) then (bif (decide ((h0.length + ([AV.int .i64 ((v31_0 t1 (fI (t0.getD t6.toNat AV.undef) 0)).length : Int)]).length) * 8 ≤ 140737488355328) && decide ((h0.length + ([AV.int .i64 ((v31_0 t1 (fI (t0.getD t6.toNat AV.undef) 0)).length : Int)]).length) ≤ 140737488355328)) then .next (IntKind.i64.wrap (t6 + 1), h0 ++ ([AV.int .i64 ((v31_0 t1 (fI (t0.getD t6.toNat AV.undef) 0)).length : Int)]))
       else .fail)
      else .fail)
     else .fail)
    else .stop h0)
   else .fail)
  else .stop h0)
def R33_0 (t0 : List AV) (t1 : List AV) : ((Int × (List AV))) → Out ((Int × (List AV))) (((List AV))) := fun s : Int × (List AV) => F33_0 t0 t1 s.1 s.2
def l33_0 : LModel := fun _ _ st k => match st with
  | ⟨[(0, .sl g0 t0), (1, .sl g1 t1), (5, .own g2), (6, .int .i64 t6)], [(g3, ⟨false, g4, h0⟩)]⟩ => bif ctsEq g0 ([.int .i64]) && ctsEq g1 ([.int .i64, .int .i64]) && nmEq g2 ([0, 5]) && nmEq g3 ([0, 5]) && ctsEq g4 ([.int .i64]) then ro (runW (R33_0 t0 t1) (((t0.length : Int) - t6).toNat + 1) (t6, h0)) none (fun p : (List AV) => k (.exit 0) ⟨[(5, AV.own [0, 5])], [([0, 5], ⟨false, [.int .i64], p⟩)]⟩) else none
  | _ => none
noncomputable def c33 : Cfg := cfg Try.prog [(33, 0, [0, 1, 5, 6]), (33, 999, [4]), (33, 1000, [5]), (33, 1001, [0, 1, 5, 6])] [(31, m31), (73, m73)] [] [] [(33, 0, l33_0)]
theorem s33_0 (ce : CallE) (t0 : List AV) (t1 : List AV) (t6 : Int) (h0 : List AV) (next : St → Option AV) (k : Kont) : stepA (codeA c33 ce [] 33 0 (sub [1, 1, 0, 1, 0, 0] (body Try.f33))) (normA [] [0, 1, 5, 6]) next ⟨[(0, AV.sl [.int .i64] t0), (1, AV.sl [.int .i64, .int .i64] t1), (5, AV.own [0, 5]), (6, AV.int .i64 t6)], [([0, 5], ⟨false, [.int .i64], h0⟩)]⟩ k = (bif decide (t6 < (t0.length : Int)) then (bif q73 t0 t1 then (bif (v73_0 t0 t1) then (bif (decide (0 ≤ t6) && decide (t6 < (t0.length : Int))) then (bif q31 t1 (fI (t0.getD t6.toNat AV.undef) 0) then (bif (decide ((h0.length + ([AV.int .i64 ((v31_0 t1 (fI (t0.getD t6.toNat AV.undef) 0)).length : Int)]).length) * 8 ≤ 140737488355328) && decide ((h0.length + ([AV.int .i64 ((v31_0 t1 (fI (t0.getD t6.toNat AV.undef) 0)).length : Int)]).length) ≤ 140737488355328)) then next ⟨[(0, AV.sl [.int .i64] t0), (1, AV.sl [.int .i64, .int .i64] t1), (5, AV.own [0, 5]), (6, AV.int .i64 (IntKind.i64.wrap (t6 + 1)))], [([0, 5], ⟨false, [.int .i64], h0 ++ ([AV.int .i64 ((v31_0 t1 (fI (t0.getD t6.toNat AV.undef) 0)).length : Int)])⟩)]⟩
       else none)
      else none)
     else none)
    else k (.exit 0) ⟨[(5, AV.own [0, 5])], [([0, 5], ⟨false, [.int .i64], h0⟩)]⟩)
   else none)
  else k (.exit 0) ⟨[(5, AV.own [0, 5])], [([0, 5], ⟨false, [.int .i64], h0⟩)]⟩) := by kernel_rfl
theorem st33_0 (t0 : List AV) (t1 : List AV) (ce : CallE) (k : Kont) (s : (Int × (List AV))) (next : St → Option AV) : stepA (codeA c33 ce [] 33 0 (sub [1, 1, 0, 1, 0, 0] (body Try.f33))) (normA [] [0, 1, 5, 6]) next ((fun s : Int × (List AV) => ⟨[(0, AV.sl [.int .i64] t0), (1, AV.sl [.int .i64, .int .i64] t1), (5, AV.own [0, 5]), (6, AV.int .i64 s.1)], [([0, 5], ⟨false, [.int .i64], s.2⟩)]⟩) s) k = (R33_0 t0 t1 s).el none (fun s => next ((fun s : Int × (List AV) => ⟨[(0, AV.sl [.int .i64] t0), (1, AV.sl [.int .i64, .int .i64] t1), (5, AV.own [0, 5]), (6, AV.int .i64 s.1)], [([0, 5], ⟨false, [.int .i64], s.2⟩)]⟩) s)) (fun p : (List AV) => k (.exit 0) ⟨[(5, AV.own [0, 5])], [([0, 5], ⟨false, [.int .i64], p⟩)]⟩) := (s33_0 ce t0 t1 s.1 s.2 next k).trans (by unfold R33_0; unfold F33_0; simp only [el_cond, el_ro, el_sum, el_fail, el_next, el_stop] <;> rfl)
theorem ok33_0 : LoopOK c33 [] 33 0 (sub [1, 1, 0, 1, 0, 0] (body Try.f33)) := by
  intro m hm ce st k r h
  obtain rfl : l33_0 = m := Option.some.inj hm
  unfold l33_0 at h
  split at h
  · rename_i g0 t0 g1 t1 g2 t6 g3 g4 h0
    obtain ⟨hg, h⟩ := bif_some h
    simp only [Bool.and_eq_true] at hg
    obtain ⟨⟨⟨⟨q0, q1⟩, q2⟩, q3⟩, q4⟩ := hg
    obtain rfl := ctsEq_eq _ _ q0
    obtain rfl := ctsEq_eq _ _ q1
    obtain rfl := (nmEq_iff _ _).1 q2
    obtain rfl := (nmEq_iff _ _).1 q3
    obtain rfl := ctsEq_eq _ _ q4
    refine ⟨(((t0.length : Int) - t6).toNat + 1), ?_⟩
    rw [← h]
    exact loop_run (fun s : Int × (List AV) => ⟨[(0, AV.sl [.int .i64] t0), (1, AV.sl [.int .i64, .int .i64] t1), (5, AV.own [0, 5]), (6, AV.int .i64 s.1)], [([0, 5], ⟨false, [.int .i64], s.2⟩)]⟩) (fun p : (List AV) => k (.exit 0) ⟨[(5, AV.own [0, 5])], [([0, 5], ⟨false, [.int .i64], p⟩)]⟩) (st33_0 t0 t1 ce k) _ (t6, h0)
  · cases h
def q33 (a0 : List AV) (a1 : List AV) : Bool := (ro (runW (R33_0 a0 a1) (((a0.length : Int) - 0).toNat + 1) (0, ([] : List AV))) false (fun p8 => true))
def v33_0 (a0 : List AV) (a1 : List AV) : List AV := (ro (runW (R33_0 a0 a1) (((a0.length : Int) - 0).toNat + 1) (0, ([] : List AV))) [] (fun p8 => p8))
theorem e33 (a0 : List AV) (a1 : List AV) : funA c33 0 33 [AV.sl [.int .i64] a0, AV.sl [.int .i64, .int .i64] a1] = (ro (runW (R33_0 a0 a1) (((a0.length : Int) - 0).toNat + 1) (0, ([] : List AV))) none (fun p8 => some (AV.fl [.int .i64] p8))) := by kernel_rfl
theorem r33 (a0 : List AV) (a1 : List AV) (h : q33 a0 a1 = true) : funA c33 0 33 [AV.sl [.int .i64] a0, AV.sl [.int .i64, .int .i64] a1] = some (AV.fl [.int .i64] (v33_0 a0 a1)) := (e33 a0 a1).trans ((brO (fun o : Option (((List AV))) => some (AV.fl [.int .i64] (ro o [] (fun p8 => p8)))) (fun p8 => (fun _ => rfl))) h)
def m33 : TModel
  | [.sl g0 a0, .sl g1 a1] => bif ctsEq g0 ([.int .i64]) && ctsEq g1 ([.int .i64, .int .i64]) then some (q33 a0 a1, AV.fl [.int .i64] (v33_0 a0 a1)) else none
  | _ => none
theorem k33 : Known Try.prog 33 := ⟨Try.f33, Try.func33, by kernel_rfl, by kernel_rfl⟩
theorem meets33 : Meets Try.prog 33 m33 := by
  refine meet (f := Try.f33) (l := [(0, sub [1, 1, 0, 1, 0, 0] (body Try.f33))]) (hs := [(33, 0, [0, 1, 5, 6]), (33, 999, [4]), (33, 1000, [5]), (33, 1001, [0, 1, 5, 6])]) (ts := [(31, m31), (73, m73)]) (ws := []) (is := []) (ls := [(33, 0, l33_0)]) (lvl := 0) mixed k33 Try.func33 (by kernel_rfl) (loops_cons ok33_0 noLoop) (allT_cons meets31 (allT_cons meets73 allT_nil)) allM_nil noI fun w xs us r hl hv h => ?_
  unfold m33 at h
  split at h
  · rename_i g0 a0 g1 a1
    obtain ⟨hg, h⟩ := bif_pair h
    simp only [Bool.and_eq_true] at hg
    obtain ⟨q0, q1⟩ := hg
    obtain rfl := ctsEq_eq _ _ q0
    obtain rfl := ctsEq_eq _ _ q1
    obtain ⟨h1, rfl⟩ := pair_inj h
    exact r33 a0 a1 h1
  · cases h

/-! ### 36 loop.example/g01984/spec.ColdRows -/
def F36_0 (h1 : List AV) (t7 : Int) (h0 : List AV) : Out ((Int × (List AV))) (((List AV))) := (bif decide (t7 < (h1.length : Int)) then (bif (decide (0 ≤ t7) && decide (t7 < (h1.length : Int))) then (bif decide (fI (h1.getD t7.toNat AV.undef) 0 = 0) then (bif (decide ((h0.length + ([AV.int .i64 t7]).length) * 8 ≤ 140737488355328) && decide ((h0.length + ([AV.int .i64 t7]).length) ≤ 140737488355328)) then .next (IntKind.i64.wrap (t7 + 1), h0 ++ ([AV.int .i64 t7]))
     else .fail)
    else .next (IntKind.i64.wrap (t7 + 1), h0))
   else .fail)
  else .stop h0)
def R36_0 (h1 : List AV) : ((Int × (List AV))) → Out ((Int × (List AV))) (((List AV))) := fun s : Int × (List AV) => F36_0 h1 s.1 s.2
def l36_0 : LModel := fun _ _ st k => match st with
  | ⟨[(5, .own g0), (6, .own g1), (7, .int .i64 t7)], [(g2, ⟨false, g3, h0⟩), (g4, ⟨false, g5, h1⟩)]⟩ => bif nmEq g0 ([0, 5]) && nmEq g1 ([0, 6]) && nmEq g2 ([0, 5]) && ctsEq g3 ([.int .i64]) && nmEq g4 ([0, 6]) && ctsEq g5 ([.int .i64]) then ro (runW (R36_0 h1) (((h1.length : Int) - t7).toNat + 1) (t7, h0)) none (fun p : (List AV) => k (.exit 0) ⟨[(5, AV.own [0, 5])], [([0, 5], ⟨false, [.int .i64], p⟩), ([0, 6], ⟨false, [.int .i64], h1⟩)]⟩) else none
  | _ => none
noncomputable def c36 : Cfg := cfg Try.prog [(36, 0, [5, 6, 7]), (36, 999, [4]), (36, 1000, [5]), (36, 1001, [5, 6, 7])] [(33, m33)] [] [] [(36, 0, l36_0)]
theorem s36_0 (ce : CallE) (t7 : Int) (h0 : List AV) (h1 : List AV) (next : St → Option AV) (k : Kont) : stepA (codeA c36 ce [] 36 0 (sub [1, 1, 1, 0, 1, 0, 0] (body Try.f36))) (normA [] [5, 6, 7]) next ⟨[(5, AV.own [0, 5]), (6, AV.own [0, 6]), (7, AV.int .i64 t7)], [([0, 5], ⟨false, [.int .i64], h0⟩), ([0, 6], ⟨false, [.int .i64], h1⟩)]⟩ k = (bif decide (t7 < (h1.length : Int)) then (bif (decide (0 ≤ t7) && decide (t7 < (h1.length : Int))) then (bif decide (fI (h1.getD t7.toNat AV.undef) 0 = 0) then (bif (decide ((h0.length + ([AV.int .i64 t7]).length) * 8 ≤ 140737488355328) && decide ((h0.length + ([AV.int .i64 t7]).length) ≤ 140737488355328)) then next ⟨[(5, AV.own [0, 5]), (6, AV.own [0, 6]), (7, AV.int .i64 (IntKind.i64.wrap (t7 + 1)))], [([0, 5], ⟨false, [.int .i64], h0 ++ ([AV.int .i64 t7])⟩), ([0, 6], ⟨false, [.int .i64], h1⟩)]⟩
     else none)
    else next ⟨[(5, AV.own [0, 5]), (6, AV.own [0, 6]), (7, AV.int .i64 (IntKind.i64.wrap (t7 + 1)))], [([0, 5], ⟨false, [.int .i64], h0⟩), ([0, 6], ⟨false, [.int .i64], h1⟩)]⟩)
   else none)
  else k (.exit 0) ⟨[(5, AV.own [0, 5])], [([0, 5], ⟨false, [.int .i64], h0⟩), ([0, 6], ⟨false, [.int .i64], h1⟩)]⟩) := by kernel_rfl
theorem st36_0 (h1 : List AV) (ce : CallE) (k : Kont) (s : (Int × (List AV))) (next : St → Option AV) : stepA (codeA c36 ce [] 36 0 (sub [1, 1, 1, 0, 1, 0, 0] (body Try.f36))) (normA [] [5, 6, 7]) next ((fun s : Int × (List AV) => ⟨[(5, AV.own [0, 5]), (6, AV.own [0, 6]), (7, AV.int .i64 s.1)], [([0, 5], ⟨false, [.int .i64], s.2⟩), ([0, 6], ⟨false, [.int .i64], h1⟩)]⟩) s) k = (R36_0 h1 s).el none (fun s => next ((fun s : Int × (List AV) => ⟨[(5, AV.own [0, 5]), (6, AV.own [0, 6]), (7, AV.int .i64 s.1)], [([0, 5], ⟨false, [.int .i64], s.2⟩), ([0, 6], ⟨false, [.int .i64], h1⟩)]⟩) s)) (fun p : (List AV) => k (.exit 0) ⟨[(5, AV.own [0, 5])], [([0, 5], ⟨false, [.int .i64], p⟩), ([0, 6], ⟨false, [.int .i64], h1⟩)]⟩) := (s36_0 ce s.1 s.2 h1 next k).trans (by unfold R36_0; unfold F36_0; simp only [el_cond, el_ro, el_sum, el_fail, el_next, el_stop] <;> rfl)
theorem ok36_0 : LoopOK c36 [] 36 0 (sub [1, 1, 1, 0, 1, 0, 0] (body Try.f36)) := by
  intro m hm ce st k r h
  obtain rfl : l36_0 = m := Option.some.inj hm
  unfold l36_0 at h
  split at h
  · rename_i g0 g1 t7 g2 g3 h0 g4 g5 h1
    obtain ⟨hg, h⟩ := bif_some h
    simp only [Bool.and_eq_true] at hg
    obtain ⟨⟨⟨⟨⟨q0, q1⟩, q2⟩, q3⟩, q4⟩, q5⟩ := hg
    obtain rfl := (nmEq_iff _ _).1 q0
    obtain rfl := (nmEq_iff _ _).1 q1
    obtain rfl := (nmEq_iff _ _).1 q2
    obtain rfl := ctsEq_eq _ _ q3
    obtain rfl := (nmEq_iff _ _).1 q4
    obtain rfl := ctsEq_eq _ _ q5
    refine ⟨(((h1.length : Int) - t7).toNat + 1), ?_⟩
    rw [← h]
    exact loop_run (fun s : Int × (List AV) => ⟨[(5, AV.own [0, 5]), (6, AV.own [0, 6]), (7, AV.int .i64 s.1)], [([0, 5], ⟨false, [.int .i64], s.2⟩), ([0, 6], ⟨false, [.int .i64], h1⟩)]⟩) (fun p : (List AV) => k (.exit 0) ⟨[(5, AV.own [0, 5])], [([0, 5], ⟨false, [.int .i64], p⟩), ([0, 6], ⟨false, [.int .i64], h1⟩)]⟩) (st36_0 h1 ce k) _ (t7, h0)
  · cases h
def q36 (a0 : List AV) (a1 : List AV) : Bool := (q33 a0 a1 && (ro (runW (R36_0 (v33_0 a0 a1)) ((((v33_0 a0 a1).length : Int) - 0).toNat + 1) (0, ([] : List AV))) false (fun p9 => true)))
def v36_0 (a0 : List AV) (a1 : List AV) : List AV := (ro (runW (R36_0 (v33_0 a0 a1)) ((((v33_0 a0 a1).length : Int) - 0).toNat + 1) (0, ([] : List AV))) [] (fun p9 => p9))
theorem e36 (a0 : List AV) (a1 : List AV) : funA c36 0 36 [AV.sl [.int .i64] a0, AV.sl [.int .i64, .int .i64] a1] = (bif q33 a0 a1 then (ro (runW (R36_0 (v33_0 a0 a1)) ((((v33_0 a0 a1).length : Int) - 0).toNat + 1) (0, ([] : List AV))) none (fun p9 => some (AV.fl [.int .i64] p9)))
  else none) := by kernel_rfl
theorem r36 (a0 : List AV) (a1 : List AV) (h : q36 a0 a1 = true) : funA c36 0 36 [AV.sl [.int .i64] a0, AV.sl [.int .i64, .int .i64] a1] = some (AV.fl [.int .i64] (v36_0 a0 a1)) := (e36 a0 a1).trans ((brL (brO (fun o : Option (((List AV))) => some (AV.fl [.int .i64] (ro o [] (fun p9 => p9)))) (fun p9 => (fun _ => rfl)))) h)
def m36 : TModel
  | [.sl g0 a0, .sl g1 a1] => bif ctsEq g0 ([.int .i64]) && ctsEq g1 ([.int .i64, .int .i64]) then some (q36 a0 a1, AV.fl [.int .i64] (v36_0 a0 a1)) else none
  | _ => none
theorem k36 : Known Try.prog 36 := ⟨Try.f36, Try.func36, by kernel_rfl, by kernel_rfl⟩
theorem meets36 : Meets Try.prog 36 m36 := by
  refine meet (f := Try.f36) (l := [(0, sub [1, 1, 1, 0, 1, 0, 0] (body Try.f36))]) (hs := [(36, 0, [5, 6, 7]), (36, 999, [4]), (36, 1000, [5]), (36, 1001, [5, 6, 7])]) (ts := [(33, m33)]) (ws := []) (is := []) (ls := [(36, 0, l36_0)]) (lvl := 0) mixed k36 Try.func36 (by kernel_rfl) (loops_cons ok36_0 noLoop) (allT_cons meets33 allT_nil) allM_nil noI fun w xs us r hl hv h => ?_
  unfold m36 at h
  split at h
  · rename_i g0 a0 g1 a1
    obtain ⟨hg, h⟩ := bif_pair h
    simp only [Bool.and_eq_true] at hg
    obtain ⟨q0, q1⟩ := hg
    obtain rfl := ctsEq_eq _ _ q0
    obtain rfl := ctsEq_eq _ _ q1
    obtain ⟨h1, rfl⟩ := pair_inj h
    exact r36 a0 a1 h1
  · cases h

/-! ### 145 loop.example/g01984/impl.within$1 -/
noncomputable def c145 : Cfg := cfg Try.prog [(145, 999, [4])] [] [] [] []
def q145 (a0 : Int) (a1 : AV) (a2 : AV) : Bool := true
def v145_0 (a0 : Int) (a1 : AV) (a2 : AV) : Bool := (bif decide (a0 < fI a1 0) then true else decide (a0 > fI a2 0))
theorem e145 (a0 : Int) (a1 : AV) (a2 : AV) : funA c145 0 145 [AV.int .i64 a0, AV.rptr [.int .i64] a1 0, AV.rptr [.int .i64] a2 0] = (bif decide (a0 < fI a1 0) then some (AV.bool true)
  else some (AV.bool (decide (a0 > fI a2 0)))) := by kernel_rfl
theorem r145 (a0 : Int) (a1 : AV) (a2 : AV) : funA c145 0 145 [AV.int .i64 a0, AV.rptr [.int .i64] a1 0, AV.rptr [.int .i64] a2 0] = some (AV.bool (v145_0 a0 a1 a2)) := (e145 a0 a1 a2).trans (of_tt (brT (fun b => some (AV.bool (bif b then true else decide (a0 > fI a2 0)))) (fun _ => rfl) (fun _ => rfl)))
def m145 : TModel
  | [.int .i64 a0, .rptr g0 a1 g1, .rptr g2 a2 g3] => bif ctsEq g0 ([.int .i64]) && Nat.beq g1 0 && ctsEq g2 ([.int .i64]) && Nat.beq g3 0 then some (true, AV.bool (v145_0 a0 a1 a2)) else none
  | _ => none
theorem k145 : Known Try.prog 145 := ⟨Try.f145, Try.func145, by kernel_rfl, by kernel_rfl⟩
theorem meets145 : Meets Try.prog 145 m145 := by
  refine meet (f := Try.f145) (l := []) (hs := [(145, 999, [4])]) (ts := []) (ws := []) (is := []) (ls := []) (lvl := 0) mixed k145 Try.func145 (by kernel_rfl) noLoop allT_nil allM_nil noI fun w xs us r hl hv h => ?_
  unfold m145 at h
  split at h
  · rename_i a0 g0 a1 g1 g2 a2 g3
    obtain ⟨hg, h⟩ := bif_pair h
    simp only [Bool.and_eq_true] at hg
    obtain ⟨⟨⟨q0, q1⟩, q2⟩, q3⟩ := hg
    obtain rfl := ctsEq_eq _ _ q0
    obtain rfl := Nat.eq_of_beq_eq_true q1
    obtain rfl := ctsEq_eq _ _ q2
    obtain rfl := Nat.eq_of_beq_eq_true q3
    obtain ⟨h1, rfl⟩ := pair_inj h
    exact r145 a0 a1 a2
  · cases h

/-! ### 164 slices.IndexFunc[[]int,int] -/
def F164_0 (t0 : List AV) (t1_0 : AV) (t1_1 : AV) (t7 : Int) (t8 : Int) : Out (Int) (Unit ⊕ Int) := (bif decide (t8 < t7) then (bif (decide (0 ≤ t8) && decide (t8 < (t0.length : Int))) then (bif (v145_0 (fI (t0.getD t8.toNat AV.undef) 0) t1_0 t1_1) then .stop (.inr t8)
    else .next (IntKind.i64.wrap (t8 + 1)))
   else .fail)
  else .stop (.inl ()))
def R164_0 (t0 : List AV) (t1_0 : AV) (t1_1 : AV) (t7 : Int) : (Int) → Out (Int) (Unit ⊕ Int) := fun s : Int => F164_0 t0 t1_0 t1_1 t7 s
def l164_0 : LModel := fun _ _ st k => match st with
  | ⟨[(0, .sl g0 t0), (1, .fn g1 [.rptr g2 t1_0 g3, .rptr g4 t1_1 g5]), (7, .int .i64 t7), (8, .int .i64 t8)], []⟩ => bif ctsEq g0 ([.int .i64]) && Nat.beq g1 145 && ctsEq g2 ([.int .i64]) && Nat.beq g3 0 && ctsEq g4 ([.int .i64]) && Nat.beq g5 0 then ro (runW (R164_0 t0 t1_0 t1_1 t7) ((t7 - t8).toNat + 1) t8) none (sumE (fun _ : Unit => k (.exit 0) ⟨[], []⟩) (fun p : Int => k .ret ⟨[(4, AV.int .i64 p)], []⟩)) else none
  | _ => none
noncomputable def c164 : Cfg := cfg Try.prog [(164, 0, [0, 1, 7, 8]), (164, 999, [4]), (164, 1000, []), (164, 1001, [0, 1, 7, 8])] [(145, m145)] [] [] [(164, 0, l164_0)]
theorem s164_0 (ce : CallE) (t0 : List AV) (t1_0 : AV) (t1_1 : AV) (t7 : Int) (t8 : Int) (next : St → Option AV) (k : Kont) : stepA (codeA c164 ce [] 164 0 (sub [1, 0, 1, 0, 0] (body Try.f164))) (normA [] [0, 1, 7, 8]) next ⟨[(0, AV.sl [.int .i64] t0), (1, AV.fn 145 [AV.rptr [.int .i64] t1_0 0, AV.rptr [.int .i64] t1_1 0]), (7, AV.int .i64 t7), (8, AV.int .i64 t8)], []⟩ k = (bif decide (t8 < t7) then (bif (decide (0 ≤ t8) && decide (t8 < (t0.length : Int))) then (bif (v145_0 (fI (t0.getD t8.toNat AV.undef) 0) t1_0 t1_1) then k .ret ⟨[(4, AV.int .i64 t8)], []⟩
    else next ⟨[(0, AV.sl [.int .i64] t0), (1, AV.fn 145 [AV.rptr [.int .i64] t1_0 0, AV.rptr [.int .i64] t1_1 0]), (7, AV.int .i64 t7), (8, AV.int .i64 (IntKind.i64.wrap (t8 + 1)))], []⟩)
   else none)
  else k (.exit 0) ⟨[], []⟩) := by kernel_rfl
theorem st164_0 (t0 : List AV) (t1_0 : AV) (t1_1 : AV) (t7 : Int) (ce : CallE) (k : Kont) (s : Int) (next : St → Option AV) : stepA (codeA c164 ce [] 164 0 (sub [1, 0, 1, 0, 0] (body Try.f164))) (normA [] [0, 1, 7, 8]) next ((fun s : Int => ⟨[(0, AV.sl [.int .i64] t0), (1, AV.fn 145 [AV.rptr [.int .i64] t1_0 0, AV.rptr [.int .i64] t1_1 0]), (7, AV.int .i64 t7), (8, AV.int .i64 s)], []⟩) s) k = (R164_0 t0 t1_0 t1_1 t7 s).el none (fun s => next ((fun s : Int => ⟨[(0, AV.sl [.int .i64] t0), (1, AV.fn 145 [AV.rptr [.int .i64] t1_0 0, AV.rptr [.int .i64] t1_1 0]), (7, AV.int .i64 t7), (8, AV.int .i64 s)], []⟩) s)) (sumE (fun _ : Unit => k (.exit 0) ⟨[], []⟩) (fun p : Int => k .ret ⟨[(4, AV.int .i64 p)], []⟩)) := (s164_0 ce t0 t1_0 t1_1 t7 s next k).trans (by unfold R164_0; unfold F164_0; simp only [el_cond, el_ro, el_sum, el_fail, el_next, el_stop] <;> rfl)
theorem ok164_0 : LoopOK c164 [] 164 0 (sub [1, 0, 1, 0, 0] (body Try.f164)) := by
  intro m hm ce st k r h
  obtain rfl : l164_0 = m := Option.some.inj hm
  unfold l164_0 at h
  split at h
  · rename_i g0 t0 g1 g2 t1_0 g3 g4 t1_1 g5 t7 t8
    obtain ⟨hg, h⟩ := bif_some h
    simp only [Bool.and_eq_true] at hg
    obtain ⟨⟨⟨⟨⟨q0, q1⟩, q2⟩, q3⟩, q4⟩, q5⟩ := hg
    obtain rfl := ctsEq_eq _ _ q0
    obtain rfl := Nat.eq_of_beq_eq_true q1
    obtain rfl := ctsEq_eq _ _ q2
    obtain rfl := Nat.eq_of_beq_eq_true q3
    obtain rfl := ctsEq_eq _ _ q4
    obtain rfl := Nat.eq_of_beq_eq_true q5
    refine ⟨((t7 - t8).toNat + 1), ?_⟩
    rw [← h]
    exact loop_run (fun s : Int => ⟨[(0, AV.sl [.int .i64] t0), (1, AV.fn 145 [AV.rptr [.int .i64] t1_0 0, AV.rptr [.int .i64] t1_1 0]), (7, AV.int .i64 t7), (8, AV.int .i64 s)], []⟩) (sumE (fun _ : Unit => k (.exit 0) ⟨[], []⟩) (fun p : Int => k .ret ⟨[(4, AV.int .i64 p)], []⟩)) (st164_0 t0 t1_0 t1_1 t7 ce k) _ t8
  · cases h
def q164 (a0 : List AV) (a1_0 : AV) (a1_1 : AV) : Bool := (ro (runW (R164_0 a0 a1_0 a1_1 (a0.length : Int)) (((a0.length : Int) - 0).toNat + 1) 0) false (sumE (fun _ => true) (fun p11 => true)))
def v164_0 (a0 : List AV) (a1_0 : AV) (a1_1 : AV) : Int := (ro (runW (R164_0 a0 a1_0 a1_1 (a0.length : Int)) (((a0.length : Int) - 0).toNat + 1) 0) 0 (sumE (fun _ => (-1)) (fun p11 => p11)))
theorem e164 (a0 : List AV) (a1_0 : AV) (a1_1 : AV) : funA c164 0 164 [AV.sl [.int .i64] a0, AV.fn 145 [AV.rptr [.int .i64] a1_0 0, AV.rptr [.int .i64] a1_1 0]] = (ro (runW (R164_0 a0 a1_0 a1_1 (a0.length : Int)) (((a0.length : Int) - 0).toNat + 1) 0) none (sumE (fun _ => some (AV.int .i64 (-1))) (fun p11 => some (AV.int .i64 p11)))) := by kernel_rfl
theorem r164 (a0 : List AV) (a1_0 : AV) (a1_1 : AV) (h : q164 a0 a1_0 a1_1 = true) : funA c164 0 164 [AV.sl [.int .i64] a0, AV.fn 145 [AV.rptr [.int .i64] a1_0 0, AV.rptr [.int .i64] a1_1 0]] = some (AV.int .i64 (v164_0 a0 a1_0 a1_1)) := (e164 a0 a1_0 a1_1).trans ((brO (fun o : Option (Unit ⊕ Int) => some (AV.int .i64 (ro o 0 (sumE (fun _ => (-1)) (fun p11 => p11))))) (brS (fun o : Unit ⊕ Int => some (AV.int .i64 ((sumE (fun _ => (-1)) (fun p11 => p11)) o))) (fun _ => (fun _ => rfl)) (fun p11 => (fun _ => rfl)))) h)
def m164 : TModel
  | [.sl g0 a0, .fn g1 [.rptr g2 a1_0 g3, .rptr g4 a1_1 g5]] => bif ctsEq g0 ([.int .i64]) && Nat.beq g1 145 && ctsEq g2 ([.int .i64]) && Nat.beq g3 0 && ctsEq g4 ([.int .i64]) && Nat.beq g5 0 then some (q164 a0 a1_0 a1_1, AV.int .i64 (v164_0 a0 a1_0 a1_1)) else none
  | _ => none
theorem k164 : Known Try.prog 164 := ⟨Try.f164, Try.func164, by kernel_rfl, by kernel_rfl⟩
theorem meets164 : Meets Try.prog 164 m164 := by
  refine meet (f := Try.f164) (l := [(0, sub [1, 0, 1, 0, 0] (body Try.f164))]) (hs := [(164, 0, [0, 1, 7, 8]), (164, 999, [4]), (164, 1000, []), (164, 1001, [0, 1, 7, 8])]) (ts := [(145, m145)]) (ws := []) (is := []) (ls := [(164, 0, l164_0)]) (lvl := 0) mixed k164 Try.func164 (by kernel_rfl) (loops_cons ok164_0 noLoop) (allT_cons meets145 allT_nil) allM_nil noI fun w xs us r hl hv h => ?_
  unfold m164 at h
  split at h
  · rename_i g0 a0 g1 g2 a1_0 g3 g4 a1_1 g5
    obtain ⟨hg, h⟩ := bif_pair h
    simp only [Bool.and_eq_true] at hg
    obtain ⟨⟨⟨⟨⟨q0, q1⟩, q2⟩, q3⟩, q4⟩, q5⟩ := hg
    obtain rfl := ctsEq_eq _ _ q0
    obtain rfl := Nat.eq_of_beq_eq_true q1
    obtain rfl := ctsEq_eq _ _ q2
    obtain rfl := Nat.eq_of_beq_eq_true q3
    obtain rfl := ctsEq_eq _ _ q4
    obtain rfl := Nat.eq_of_beq_eq_true q5
    obtain ⟨h1, rfl⟩ := pair_inj h
    exact r164 a0 a1_0 a1_1 h1
  · cases h

/-! ### 144 slices.ContainsFunc[[]int,int] -/
noncomputable def c144 : Cfg := cfg Try.prog [(144, 999, [4])] [(164, m164)] [] [] []
def q144 (a0 : List AV) (a1_0 : AV) (a1_1 : AV) : Bool := q164 a0 a1_0 a1_1
def v144_0 (a0 : List AV) (a1_0 : AV) (a1_1 : AV) : Bool := decide ((v164_0 a0 a1_0 a1_1) ≥ 0)
theorem e144 (a0 : List AV) (a1_0 : AV) (a1_1 : AV) : funA c144 0 144 [AV.sl [.int .i64] a0, AV.fn 145 [AV.rptr [.int .i64] a1_0 0, AV.rptr [.int .i64] a1_1 0]] = (bif q164 a0 a1_0 a1_1 then some (AV.bool (decide ((v164_0 a0 a1_0 a1_1) ≥ 0)))
  else none) := by kernel_rfl
theorem r144 (a0 : List AV) (a1_0 : AV) (a1_1 : AV) (h : q144 a0 a1_0 a1_1 = true) : funA c144 0 144 [AV.sl [.int .i64] a0, AV.fn 145 [AV.rptr [.int .i64] a1_0 0, AV.rptr [.int .i64] a1_1 0]] = some (AV.bool (v144_0 a0 a1_0 a1_1)) := (e144 a0 a1_0 a1_1).trans ((brL1 (fun _ => rfl)) h)
def m144 : TModel
  | [.sl g0 a0, .fn g1 [.rptr g2 a1_0 g3, .rptr g4 a1_1 g5]] => bif ctsEq g0 ([.int .i64]) && Nat.beq g1 145 && ctsEq g2 ([.int .i64]) && Nat.beq g3 0 && ctsEq g4 ([.int .i64]) && Nat.beq g5 0 then some (q144 a0 a1_0 a1_1, AV.bool (v144_0 a0 a1_0 a1_1)) else none
  | _ => none
theorem k144 : Known Try.prog 144 := ⟨Try.f144, Try.func144, by kernel_rfl, by kernel_rfl⟩
theorem meets144 : Meets Try.prog 144 m144 := by
  refine meet (f := Try.f144) (l := []) (hs := [(144, 999, [4])]) (ts := [(164, m164)]) (ws := []) (is := []) (ls := []) (lvl := 0) mixed k144 Try.func144 (by kernel_rfl) noLoop (allT_cons meets164 allT_nil) allM_nil noI fun w xs us r hl hv h => ?_
  unfold m144 at h
  split at h
  · rename_i g0 a0 g1 g2 a1_0 g3 g4 a1_1 g5
    obtain ⟨hg, h⟩ := bif_pair h
    simp only [Bool.and_eq_true] at hg
    obtain ⟨⟨⟨⟨⟨q0, q1⟩, q2⟩, q3⟩, q4⟩, q5⟩ := hg
    obtain rfl := ctsEq_eq _ _ q0
    obtain rfl := Nat.eq_of_beq_eq_true q1
    obtain rfl := ctsEq_eq _ _ q2
    obtain rfl := Nat.eq_of_beq_eq_true q3
    obtain rfl := ctsEq_eq _ _ q4
    obtain rfl := Nat.eq_of_beq_eq_true q5
    obtain ⟨h1, rfl⟩ := pair_inj h
    exact r144 a0 a1_0 a1_1 h1
  · cases h

/-! ### 110 loop.example/g01984/impl.within -/
noncomputable def c110 : Cfg := cfg Try.prog [(110, 999, [6])] [(144, m144)] [] [] []
def q110 (a0 : List AV) (a1 : Int) (a2 : Int) : Bool := q144 a0 (AV.int .i64 a1) (AV.int .i64 a2)
def v110_0 (a0 : List AV) (a1 : Int) (a2 : Int) : Bool := !(v144_0 a0 (AV.int .i64 a1) (AV.int .i64 a2))
theorem e110 (a0 : List AV) (a1 : Int) (a2 : Int) : funA c110 0 110 [AV.sl [.int .i64] a0, AV.int .i64 a1, AV.int .i64 a2] = (bif q144 a0 (AV.int .i64 a1) (AV.int .i64 a2) then some (AV.bool (!(v144_0 a0 (AV.int .i64 a1) (AV.int .i64 a2))))
  else none) := by kernel_rfl
theorem r110 (a0 : List AV) (a1 : Int) (a2 : Int) (h : q110 a0 a1 a2 = true) : funA c110 0 110 [AV.sl [.int .i64] a0, AV.int .i64 a1, AV.int .i64 a2] = some (AV.bool (v110_0 a0 a1 a2)) := (e110 a0 a1 a2).trans ((brL1 (fun _ => rfl)) h)
def m110 : TModel
  | [.sl g0 a0, .int .i64 a1, .int .i64 a2] => bif ctsEq g0 ([.int .i64]) then some (q110 a0 a1 a2, AV.bool (v110_0 a0 a1 a2)) else none
  | _ => none
theorem k110 : Known Try.prog 110 := ⟨Try.f110, Try.func110, by kernel_rfl, by kernel_rfl⟩
theorem meets110 : Meets Try.prog 110 m110 := by
  refine meet (f := Try.f110) (l := []) (hs := [(110, 999, [6])]) (ts := [(144, m144)]) (ws := []) (is := []) (ls := []) (lvl := 0) mixed k110 Try.func110 (by kernel_rfl) noLoop (allT_cons meets144 allT_nil) allM_nil noI fun w xs us r hl hv h => ?_
  unfold m110 at h
  split at h
  · rename_i g0 a0 a1 a2
    obtain ⟨hg, h⟩ := bif_pair h
    have q0 := hg
    obtain rfl := ctsEq_eq _ _ q0
    obtain ⟨h1, rfl⟩ := pair_inj h
    exact r110 a0 a1 a2 h1
  · cases h

/-! ### 74 loop.example/g01984/impl.AreValues -/
noncomputable def c74 : Cfg := cfg Try.prog [(74, 999, [2])] [(110, m110)] [] [] []
def q74 (a0 : List AV) : Bool := (bif decide ((a0.length : Int) ≤ 64) then q110 a0 (-999) 999 else true)
def v74_0 (a0 : List AV) : Bool := (bif decide ((a0.length : Int) ≤ 64) then (v110_0 a0 (-999) 999) else false)
theorem e74 (a0 : List AV) : funA c74 0 74 [AV.sl [.int .i64] a0] = (bif decide ((a0.length : Int) ≤ 64) then (bif q110 a0 (-999) 999 then some (AV.bool (v110_0 a0 (-999) 999))
   else none)
  else some (AV.bool false)) := by kernel_rfl
theorem r74 (a0 : List AV) (h : q74 a0 = true) : funA c74 0 74 [AV.sl [.int .i64] a0] = some (AV.bool (v74_0 a0)) := (e74 a0).trans ((br (fun b => some (AV.bool (bif b then (v110_0 a0 (-999) 999) else false))) (brL1 (fun _ => rfl)) (fun _ => rfl)) h)
def m74 : TModel
  | [.sl g0 a0] => bif ctsEq g0 ([.int .i64]) then some (q74 a0, AV.bool (v74_0 a0)) else none
  | _ => none
theorem k74 : Known Try.prog 74 := ⟨Try.f74, Try.func74, by kernel_rfl, by kernel_rfl⟩
theorem meets74 : Meets Try.prog 74 m74 := by
  refine meet (f := Try.f74) (l := []) (hs := [(74, 999, [2])]) (ts := [(110, m110)]) (ws := []) (is := []) (ls := []) (lvl := 0) mixed k74 Try.func74 (by kernel_rfl) noLoop (allT_cons meets110 allT_nil) allM_nil noI fun w xs us r hl hv h => ?_
  unfold m74 at h
  split at h
  · rename_i g0 a0
    obtain ⟨hg, h⟩ := bif_pair h
    have q0 := hg
    obtain rfl := ctsEq_eq _ _ q0
    obtain ⟨h1, rfl⟩ := pair_inj h
    exact r74 a0 h1
  · cases h

/-! ### 68 loop.example/g01984/impl.IsRange -/
noncomputable def c68 : Cfg := cfg Try.prog [(68, 999, [2])] [] [] [] []
def q68 (a0_0 : Int) (a0_1 : Int) : Bool := true
def v68_0 (a0_0 : Int) (a0_1 : Int) : Bool := (bif decide ((-1000) ≤ a0_0) then (bif decide (a0_0 ≤ a0_1) then decide (a0_1 ≤ 1000) else false) else false)
theorem e68 (a0_0 : Int) (a0_1 : Int) : funA c68 0 68 [AV.agg [AV.int .i64 a0_0, AV.int .i64 a0_1]] = (bif decide ((-1000) ≤ a0_0) then (bif decide (a0_0 ≤ a0_1) then some (AV.bool (decide (a0_1 ≤ 1000)))
   else some (AV.bool false))
  else some (AV.bool false)) := by kernel_rfl
theorem r68 (a0_0 : Int) (a0_1 : Int) : funA c68 0 68 [AV.agg [AV.int .i64 a0_0, AV.int .i64 a0_1]] = some (AV.bool (v68_0 a0_0 a0_1)) := (e68 a0_0 a0_1).trans (of_tt (brT (fun b => some (AV.bool (bif b then (bif decide (a0_0 ≤ a0_1) then decide (a0_1 ≤ 1000) else false) else false))) (brT (fun b => some (AV.bool (bif b then decide (a0_1 ≤ 1000) else false))) (fun _ => rfl) (fun _ => rfl)) (fun _ => rfl)))
def m68 : TModel
  | [.agg [.int .i64 a0_0, .int .i64 a0_1]] => some (true, AV.bool (v68_0 a0_0 a0_1))
  | _ => none
theorem k68 : Known Try.prog 68 := ⟨Try.f68, Try.func68, by kernel_rfl, by kernel_rfl⟩
theorem meets68 : Meets Try.prog 68 m68 := by
  refine meet (f := Try.f68) (l := []) (hs := [(68, 999, [2])]) (ts := []) (ws := []) (is := []) (ls := []) (lvl := 0) mixed k68 Try.func68 (by kernel_rfl) noLoop allT_nil allM_nil noI fun w xs us r hl hv h => ?_
  unfold m68 at h
  split at h
  · rename_i a0_0 a0_1
    obtain ⟨h1, rfl⟩ := pair_inj h
    exact r68 a0_0 a0_1
  · cases h

/-! ### 109 loop.example/g01984/impl.areRanges$1 -/
noncomputable def c109 : Cfg := cfg Try.prog [(109, 999, [2])] [(68, m68)] [] [] []
def q109 (a0_0 : Int) (a0_1 : Int) : Bool := true
def v109_0 (a0_0 : Int) (a0_1 : Int) : Bool := !(v68_0 a0_0 a0_1)
theorem e109 (a0_0 : Int) (a0_1 : Int) : funA c109 0 109 [AV.agg [AV.int .i64 a0_0, AV.int .i64 a0_1]] = some (AV.bool (!(v68_0 a0_0 a0_1))) := by kernel_rfl
theorem r109 (a0_0 : Int) (a0_1 : Int) : funA c109 0 109 [AV.agg [AV.int .i64 a0_0, AV.int .i64 a0_1]] = some (AV.bool (v109_0 a0_0 a0_1)) := (e109 a0_0 a0_1).trans (of_tt (fun _ => rfl))
def m109 : TModel
  | [.agg [.int .i64 a0_0, .int .i64 a0_1]] => some (true, AV.bool (v109_0 a0_0 a0_1))
  | _ => none
theorem k109 : Known Try.prog 109 := ⟨Try.f109, Try.func109, by kernel_rfl, by kernel_rfl⟩
theorem meets109 : Meets Try.prog 109 m109 := by
  refine meet (f := Try.f109) (l := []) (hs := [(109, 999, [2])]) (ts := [(68, m68)]) (ws := []) (is := []) (ls := []) (lvl := 0) mixed k109 Try.func109 (by kernel_rfl) noLoop (allT_cons meets68 allT_nil) allM_nil noI fun w xs us r hl hv h => ?_
  unfold m109 at h
  split at h
  · rename_i a0_0 a0_1
    obtain ⟨h1, rfl⟩ := pair_inj h
    exact r109 a0_0 a0_1
  · cases h

/-! ### 143 slices.IndexFunc[[]loop.example/g01984/impl.Range,loop.example/g01984/impl.Range] -/
def F143_0 (t0 : List AV) (t7 : Int) (t8 : Int) : Out (Int) (Unit ⊕ Int) := (bif decide (t8 < t7) then (bif (decide (0 ≤ t8) && decide (t8 < (t0.length : Int))) then (bif (v109_0 (fI (t0.getD t8.toNat AV.undef) 0) (fI (t0.getD t8.toNat AV.undef) 1)) then .stop (.inr t8)
    else .next (IntKind.i64.wrap (t8 + 1)))
   else .fail)
  else .stop (.inl ()))
def R143_0 (t0 : List AV) (t7 : Int) : (Int) → Out (Int) (Unit ⊕ Int) := fun s : Int => F143_0 t0 t7 s
def l143_0 : LModel := fun _ _ st k => match st with
  | ⟨[(0, .sl g0 t0), (1, .fn g1 []), (7, .int .i64 t7), (8, .int .i64 t8)], []⟩ => bif ctsEq g0 ([.int .i64, .int .i64]) && Nat.beq g1 109 then ro (runW (R143_0 t0 t7) ((t7 - t8).toNat + 1) t8) none (sumE (fun _ : Unit => k (.exit 0) ⟨[], []⟩) (fun p : Int => k .ret ⟨[(4, AV.int .i64 p)], []⟩)) else none
  | _ => none
noncomputable def c143 : Cfg := cfg Try.prog [(143, 0, [0, 1, 7, 8]), (143, 999, [4]), (143, 1000, []), (143, 1001, [0, 1, 7, 8])] [(109, m109)] [] [] [(143, 0, l143_0)]
theorem s143_0 (ce : CallE) (t0 : List AV) (t7 : Int) (t8 : Int) (next : St → Option AV) (k : Kont) : stepA (codeA c143 ce [] 143 0 (sub [1, 0, 1, 0, 0] (body Try.f143))) (normA [] [0, 1, 7, 8]) next ⟨[(0, AV.sl [.int .i64, .int .i64] t0), (1, AV.fn 109 []), (7, AV.int .i64 t7), (8, AV.int .i64 t8)], []⟩ k = (bif decide (t8 < t7) then (bif (decide (0 ≤ t8) && decide (t8 < (t0.length : Int))) then (bif (v109_0 (fI (t0.getD t8.toNat AV.undef) 0) (fI (t0.getD t8.toNat AV.undef) 1)) then k .ret ⟨[(4, AV.int .i64 t8)], []⟩
    else next ⟨[(0, AV.sl [.int .i64, .int .i64] t0), (1, AV.fn 109 []), (7, AV.int .i64 t7), (8, AV.int .i64 (IntKind.i64.wrap (t8 + 1)))], []⟩)
   else none)
  else k (.exit 0) ⟨[], []⟩) := by kernel_rfl
theorem st143_0 (t0 : List AV) (t7 : Int) (ce : CallE) (k : Kont) (s : Int) (next : St → Option AV) : stepA (codeA c143 ce [] 143 0 (sub [1, 0, 1, 0, 0] (body Try.f143))) (normA [] [0, 1, 7, 8]) next ((fun s : Int => ⟨[(0, AV.sl [.int .i64, .int .i64] t0), (1, AV.fn 109 []), (7, AV.int .i64 t7), (8, AV.int .i64 s)], []⟩) s) k = (R143_0 t0 t7 s).el none (fun s => next ((fun s : Int => ⟨[(0, AV.sl [.int .i64, .int .i64] t0), (1, AV.fn 109 []), (7, AV.int .i64 t7), (8, AV.int .i64 s)], []⟩) s)) (sumE (fun _ : Unit => k (.exit 0) ⟨[], []⟩) (fun p : Int => k .ret ⟨[(4, AV.int .i64 p)], []⟩)) := (s143_0 ce t0 t7 s next k).trans (by unfold R143_0; unfold F143_0; simp only [el_cond, el_ro, el_sum, el_fail, el_next, el_stop] <;> rfl)
theorem ok143_0 : LoopOK c143 [] 143 0 (sub [1, 0, 1, 0, 0] (body Try.f143)) := by
  intro m hm ce st k r h
  obtain rfl : l143_0 = m := Option.some.inj hm
  unfold l143_0 at h
  split at h
  · rename_i g0 t0 g1 t7 t8
    obtain ⟨hg, h⟩ := bif_some h
    simp only [Bool.and_eq_true] at hg
    obtain ⟨q0, q1⟩ := hg
    obtain rfl := ctsEq_eq _ _ q0
    obtain rfl := Nat.eq_of_beq_eq_true q1
    refine ⟨((t7 - t8).toNat + 1), ?_⟩
    rw [← h]
    exact loop_run (fun s : Int => ⟨[(0, AV.sl [.int .i64, .int .i64] t0), (1, AV.fn 109 []), (7, AV.int .i64 t7), (8, AV.int .i64 s)], []⟩) (sumE (fun _ : Unit => k (.exit 0) ⟨[], []⟩) (fun p : Int => k .ret ⟨[(4, AV.int .i64 p)], []⟩)) (st143_0 t0 t7 ce k) _ t8
  · cases h
def q143 (a0 : List AV) : Bool := (ro (runW (R143_0 a0 (a0.length : Int)) (((a0.length : Int) - 0).toNat + 1) 0) false (sumE (fun _ => true) (fun p13 => true)))
def v143_0 (a0 : List AV) : Int := (ro (runW (R143_0 a0 (a0.length : Int)) (((a0.length : Int) - 0).toNat + 1) 0) 0 (sumE (fun _ => (-1)) (fun p13 => p13)))
theorem e143 (a0 : List AV) : funA c143 0 143 [AV.sl [.int .i64, .int .i64] a0, AV.fn 109 []] = (ro (runW (R143_0 a0 (a0.length : Int)) (((a0.length : Int) - 0).toNat + 1) 0) none (sumE (fun _ => some (AV.int .i64 (-1))) (fun p13 => some (AV.int .i64 p13)))) := by kernel_rfl
theorem r143 (a0 : List AV) (h : q143 a0 = true) : funA c143 0 143 [AV.sl [.int .i64, .int .i64] a0, AV.fn 109 []] = some (AV.int .i64 (v143_0 a0)) := (e143 a0).trans ((brO (fun o : Option (Unit ⊕ Int) => some (AV.int .i64 (ro o 0 (sumE (fun _ => (-1)) (fun p13 => p13))))) (brS (fun o : Unit ⊕ Int => some (AV.int .i64 ((sumE (fun _ => (-1)) (fun p13 => p13)) o))) (fun _ => (fun _ => rfl)) (fun p13 => (fun _ => rfl)))) h)
def m143 : TModel
  | [.sl g0 a0, .fn g1 []] => bif ctsEq g0 ([.int .i64, .int .i64]) && Nat.beq g1 109 then some (q143 a0, AV.int .i64 (v143_0 a0)) else none
  | _ => none
theorem k143 : Known Try.prog 143 := ⟨Try.f143, Try.func143, by kernel_rfl, by kernel_rfl⟩
theorem meets143 : Meets Try.prog 143 m143 := by
  refine meet (f := Try.f143) (l := [(0, sub [1, 0, 1, 0, 0] (body Try.f143))]) (hs := [(143, 0, [0, 1, 7, 8]), (143, 999, [4]), (143, 1000, []), (143, 1001, [0, 1, 7, 8])]) (ts := [(109, m109)]) (ws := []) (is := []) (ls := [(143, 0, l143_0)]) (lvl := 0) mixed k143 Try.func143 (by kernel_rfl) (loops_cons ok143_0 noLoop) (allT_cons meets109 allT_nil) allM_nil noI fun w xs us r hl hv h => ?_
  unfold m143 at h
  split at h
  · rename_i g0 a0 g1
    obtain ⟨hg, h⟩ := bif_pair h
    simp only [Bool.and_eq_true] at hg
    obtain ⟨q0, q1⟩ := hg
    obtain rfl := ctsEq_eq _ _ q0
    obtain rfl := Nat.eq_of_beq_eq_true q1
    obtain ⟨h1, rfl⟩ := pair_inj h
    exact r143 a0 h1
  · cases h

/-! ### 108 slices.ContainsFunc[[]loop.example/g01984/impl.Range,loop.example/g01984/impl.Range] -/
noncomputable def c108 : Cfg := cfg Try.prog [(108, 999, [4])] [(143, m143)] [] [] []
def q108 (a0 : List AV) : Bool := q143 a0
def v108_0 (a0 : List AV) : Bool := decide ((v143_0 a0) ≥ 0)
theorem e108 (a0 : List AV) : funA c108 0 108 [AV.sl [.int .i64, .int .i64] a0, AV.fn 109 []] = (bif q143 a0 then some (AV.bool (decide ((v143_0 a0) ≥ 0)))
  else none) := by kernel_rfl
theorem r108 (a0 : List AV) (h : q108 a0 = true) : funA c108 0 108 [AV.sl [.int .i64, .int .i64] a0, AV.fn 109 []] = some (AV.bool (v108_0 a0)) := (e108 a0).trans ((brL1 (fun _ => rfl)) h)
def m108 : TModel
  | [.sl g0 a0, .fn g1 []] => bif ctsEq g0 ([.int .i64, .int .i64]) && Nat.beq g1 109 then some (q108 a0, AV.bool (v108_0 a0)) else none
  | _ => none
theorem k108 : Known Try.prog 108 := ⟨Try.f108, Try.func108, by kernel_rfl, by kernel_rfl⟩
theorem meets108 : Meets Try.prog 108 m108 := by
  refine meet (f := Try.f108) (l := []) (hs := [(108, 999, [4])]) (ts := [(143, m143)]) (ws := []) (is := []) (ls := []) (lvl := 0) mixed k108 Try.func108 (by kernel_rfl) noLoop (allT_cons meets143 allT_nil) allM_nil noI fun w xs us r hl hv h => ?_
  unfold m108 at h
  split at h
  · rename_i g0 a0 g1
    obtain ⟨hg, h⟩ := bif_pair h
    simp only [Bool.and_eq_true] at hg
    obtain ⟨q0, q1⟩ := hg
    obtain rfl := ctsEq_eq _ _ q0
    obtain rfl := Nat.eq_of_beq_eq_true q1
    obtain ⟨h1, rfl⟩ := pair_inj h
    exact r108 a0 h1
  · cases h

/-! ### 62 loop.example/g01984/impl.areRanges -/
noncomputable def c62 : Cfg := cfg Try.prog [(62, 999, [2])] [(108, m108)] [] [] []
def q62 (a0 : List AV) : Bool := (bif decide ((a0.length : Int) ≤ 30) then q108 a0 else true)
def v62_0 (a0 : List AV) : Bool := (bif decide ((a0.length : Int) ≤ 30) then !(v108_0 a0) else false)
theorem e62 (a0 : List AV) : funA c62 0 62 [AV.sl [.int .i64, .int .i64] a0] = (bif decide ((a0.length : Int) ≤ 30) then (bif q108 a0 then some (AV.bool (!(v108_0 a0)))
   else none)
  else some (AV.bool false)) := by kernel_rfl
theorem r62 (a0 : List AV) (h : q62 a0 = true) : funA c62 0 62 [AV.sl [.int .i64, .int .i64] a0] = some (AV.bool (v62_0 a0)) := (e62 a0).trans ((br (fun b => some (AV.bool (bif b then !(v108_0 a0) else false))) (brL1 (fun _ => rfl)) (fun _ => rfl)) h)
def m62 : TModel
  | [.sl g0 a0] => bif ctsEq g0 ([.int .i64, .int .i64]) then some (q62 a0, AV.bool (v62_0 a0)) else none
  | _ => none
theorem k62 : Known Try.prog 62 := ⟨Try.f62, Try.func62, by kernel_rfl, by kernel_rfl⟩
theorem meets62 : Meets Try.prog 62 m62 := by
  refine meet (f := Try.f62) (l := []) (hs := [(62, 999, [2])]) (ts := [(108, m108)]) (ws := []) (is := []) (ls := []) (lvl := 0) mixed k62 Try.func62 (by kernel_rfl) noLoop (allT_cons meets108 allT_nil) allM_nil noI fun w xs us r hl hv h => ?_
  unfold m62 at h
  split at h
  · rename_i g0 a0
    obtain ⟨hg, h⟩ := bif_pair h
    have q0 := hg
    obtain rfl := ctsEq_eq _ _ q0
    obtain ⟨h1, rfl⟩ := pair_inj h
    exact r62 a0 h1
  · cases h

/-! ### 72 loop.example/g01984/impl.InRange -/
noncomputable def c72 : Cfg := cfg Try.prog [(72, 999, [4])] [(68, m68)] [] [] []
def q72 (a0_0 : Int) (a0_1 : Int) (a1 : Int) : Bool := true
def v72_0 (a0_0 : Int) (a0_1 : Int) (a1 : Int) : Bool := (bif (v68_0 a0_0 a0_1) then (bif decide (a0_0 ≤ a1) then decide (a1 < a0_1) else false) else false)
theorem e72 (a0_0 : Int) (a0_1 : Int) (a1 : Int) : funA c72 0 72 [AV.agg [AV.int .i64 a0_0, AV.int .i64 a0_1], AV.int .i64 a1] = (bif (v68_0 a0_0 a0_1) then (bif decide (a0_0 ≤ a1) then some (AV.bool (decide (a1 < a0_1)))
   else some (AV.bool false))
  else some (AV.bool false)) := by kernel_rfl
theorem r72 (a0_0 : Int) (a0_1 : Int) (a1 : Int) : funA c72 0 72 [AV.agg [AV.int .i64 a0_0, AV.int .i64 a0_1], AV.int .i64 a1] = some (AV.bool (v72_0 a0_0 a0_1 a1)) := (e72 a0_0 a0_1 a1).trans (of_tt (brT (fun b => some (AV.bool (bif b then (bif decide (a0_0 ≤ a1) then decide (a1 < a0_1) else false) else false))) (brT (fun b => some (AV.bool (bif b then decide (a1 < a0_1) else false))) (fun _ => rfl) (fun _ => rfl)) (fun _ => rfl)))
def m72 : TModel
  | [.agg [.int .i64 a0_0, .int .i64 a0_1], .int .i64 a1] => some (true, AV.bool (v72_0 a0_0 a0_1 a1))
  | _ => none
theorem k72 : Known Try.prog 72 := ⟨Try.f72, Try.func72, by kernel_rfl, by kernel_rfl⟩
theorem meets72 : Meets Try.prog 72 m72 := by
  refine meet (f := Try.f72) (l := []) (hs := [(72, 999, [4])]) (ts := [(68, m68)]) (ws := []) (is := []) (ls := []) (lvl := 0) mixed k72 Try.func72 (by kernel_rfl) noLoop (allT_cons meets68 allT_nil) allM_nil noI fun w xs us r hl hv h => ?_
  unfold m72 at h
  split at h
  · rename_i a0_0 a0_1 a1
    obtain ⟨h1, rfl⟩ := pair_inj h
    exact r72 a0_0 a0_1 a1
  · cases h

/-! ### 32 loop.example/g01984/impl.QueriesFor -/
def F32_0 (t1 : Int) (t12 : List AV) (t13 : Int) (t14 : Int) (h0 : List AV) : Out ((Int × (List AV))) (((List AV))) := (bif decide (t14 < t13) then (bif (decide (0 ≤ t14) && decide (t14 < (t12.length : Int))) then (bif (v72_0 (fI (t12.getD t14.toNat AV.undef) 0) (fI (t12.getD t14.toNat AV.undef) 1) t1) then (bif (decide ((h0.length + ([AV.int .i64 t14]).length) * 8 ≤ 140737488355328) && decide ((h0.length + ([AV.int .i64 t14]).length) ≤ 140737488355328)) then .next (IntKind.i64.wrap (t14 + 1), h0 ++ ([AV.int .i64 t14]))
     else .fail)
    else .next (IntKind.i64.wrap (t14 + 1), h0))
   else .fail)
  else .stop h0)
def R32_0 (t1 : Int) (t12 : List AV) (t13 : Int) : ((Int × (List AV))) → Out ((Int × (List AV))) (((List AV))) := fun s : Int × (List AV) => F32_0 t1 t12 t13 s.1 s.2
def l32_0 : LModel := fun _ _ st k => match st with
  | ⟨[(1, .int .i64 t1), (5, .own g0), (12, .sl g1 t12), (13, .int .i64 t13), (14, .int .i64 t14)], [(g2, ⟨false, g3, h0⟩)]⟩ => bif nmEq g0 ([0, 5]) && ctsEq g1 ([.int .i64, .int .i64]) && nmEq g2 ([0, 5]) && ctsEq g3 ([.int .i64]) then ro (runW (R32_0 t1 t12 t13) ((t13 - t14).toNat + 1) (t14, h0)) none (fun p : (List AV) => k (.exit 0) ⟨[(5, AV.own [0, 5])], [([0, 5], ⟨false, [.int .i64], p⟩)]⟩) else none
  | _ => none
noncomputable def c32 : Cfg := cfg Try.prog [(32, 0, [1, 5, 12, 13, 14]), (32, 999, [4]), (32, 1000, [5]), (32, 1001, [1, 5, 12, 13, 14])] [(62, m62), (72, m72)] [] [] [(32, 0, l32_0)]
theorem s32_0 (ce : CallE) (t1 : Int) (t12 : List AV) (t13 : Int) (t14 : Int) (h0 : List AV) (next : St → Option AV) (k : Kont) : stepA (codeA c32 ce [] 32 0 (sub [1, 1, 1, 0, 1, 0, 0] (body Try.f32))) (normA [] [1, 5, 12, 13, 14]) next ⟨[(1, AV.int .i64 t1), (5, AV.own [0, 5]), (12, AV.sl [.int .i64, .int .i64] t12), (13, AV.int .i64 t13), (14, AV.int .i64 t14)], [([0, 5], ⟨false, [.int .i64], h0⟩)]⟩ k = (bif decide (t14 < t13) then (bif (decide (0 ≤ t14) && decide (t14 < (t12.length : Int))) then (bif (v72_0 (fI (t12.getD t14.toNat AV.undef) 0) (fI (t12.getD t14.toNat AV.undef) 1) t1) then (bif (decide ((h0.length + ([AV.int .i64 t14]).length) * 8 ≤ 140737488355328) && decide ((h0.length + ([AV.int .i64 t14]).length) ≤ 140737488355328)) then next ⟨[(1, AV.int .i64 t1), (5, AV.own [0, 5]), (12, AV.sl [.int .i64, .int .i64] t12), (13, AV.int .i64 t13), (14, AV.int .i64 (IntKind.i64.wrap (t14 + 1)))], [([0, 5], ⟨false, [.int .i64], h0 ++ ([AV.int .i64 t14])⟩)]⟩
     else none)
    else next ⟨[(1, AV.int .i64 t1), (5, AV.own [0, 5]), (12, AV.sl [.int .i64, .int .i64] t12), (13, AV.int .i64 t13), (14, AV.int .i64 (IntKind.i64.wrap (t14 + 1)))], [([0, 5], ⟨false, [.int .i64], h0⟩)]⟩)
   else none)
  else k (.exit 0) ⟨[(5, AV.own [0, 5])], [([0, 5], ⟨false, [.int .i64], h0⟩)]⟩) := by kernel_rfl
theorem st32_0 (t1 : Int) (t12 : List AV) (t13 : Int) (ce : CallE) (k : Kont) (s : (Int × (List AV))) (next : St → Option AV) : stepA (codeA c32 ce [] 32 0 (sub [1, 1, 1, 0, 1, 0, 0] (body Try.f32))) (normA [] [1, 5, 12, 13, 14]) next ((fun s : Int × (List AV) => ⟨[(1, AV.int .i64 t1), (5, AV.own [0, 5]), (12, AV.sl [.int .i64, .int .i64] t12), (13, AV.int .i64 t13), (14, AV.int .i64 s.1)], [([0, 5], ⟨false, [.int .i64], s.2⟩)]⟩) s) k = (R32_0 t1 t12 t13 s).el none (fun s => next ((fun s : Int × (List AV) => ⟨[(1, AV.int .i64 t1), (5, AV.own [0, 5]), (12, AV.sl [.int .i64, .int .i64] t12), (13, AV.int .i64 t13), (14, AV.int .i64 s.1)], [([0, 5], ⟨false, [.int .i64], s.2⟩)]⟩) s)) (fun p : (List AV) => k (.exit 0) ⟨[(5, AV.own [0, 5])], [([0, 5], ⟨false, [.int .i64], p⟩)]⟩) := (s32_0 ce t1 t12 t13 s.1 s.2 next k).trans (by unfold R32_0; unfold F32_0; simp only [el_cond, el_ro, el_sum, el_fail, el_next, el_stop] <;> rfl)
theorem ok32_0 : LoopOK c32 [] 32 0 (sub [1, 1, 1, 0, 1, 0, 0] (body Try.f32)) := by
  intro m hm ce st k r h
  obtain rfl : l32_0 = m := Option.some.inj hm
  unfold l32_0 at h
  split at h
  · rename_i t1 g0 g1 t12 t13 t14 g2 g3 h0
    obtain ⟨hg, h⟩ := bif_some h
    simp only [Bool.and_eq_true] at hg
    obtain ⟨⟨⟨q0, q1⟩, q2⟩, q3⟩ := hg
    obtain rfl := (nmEq_iff _ _).1 q0
    obtain rfl := ctsEq_eq _ _ q1
    obtain rfl := (nmEq_iff _ _).1 q2
    obtain rfl := ctsEq_eq _ _ q3
    refine ⟨((t13 - t14).toNat + 1), ?_⟩
    rw [← h]
    exact loop_run (fun s : Int × (List AV) => ⟨[(1, AV.int .i64 t1), (5, AV.own [0, 5]), (12, AV.sl [.int .i64, .int .i64] t12), (13, AV.int .i64 t13), (14, AV.int .i64 s.1)], [([0, 5], ⟨false, [.int .i64], s.2⟩)]⟩) (fun p : (List AV) => k (.exit 0) ⟨[(5, AV.own [0, 5])], [([0, 5], ⟨false, [.int .i64], p⟩)]⟩) (st32_0 t1 t12 t13 ce k) _ (t14, h0)
  · cases h
def q32 (a0 : List AV) (a1 : Int) : Bool := (q62 a0 && (bif !(v62_0 a0) then true else (ro (runW (R32_0 a1 a0 (a0.length : Int)) (((a0.length : Int) - 0).toNat + 1) (0, ([] : List AV))) false (fun p14 => true))))
def v32_0 (a0 : List AV) (a1 : Int) : List AV := (bif !(v62_0 a0) then ([] : List AV) else (ro (runW (R32_0 a1 a0 (a0.length : Int)) (((a0.length : Int) - 0).toNat + 1) (0, ([] : List AV))) [] (fun p14 => p14)))
theorem e32 (a0 : List AV) (a1 : Int) : funA c32 0 32 [AV.sl [.int .i64, .int .i64] a0, AV.int .i64 a1] = (bif q62 a0 then (bif !(v62_0 a0) then some (AV.fl [.int .i64] ([] : List AV))
   else (ro (runW (R32_0 a1 a0 (a0.length : Int)) (((a0.length : Int) - 0).toNat + 1) (0, ([] : List AV))) none (fun p14 => some (AV.fl [.int .i64] p14))))
  else none) := by kernel_rfl
theorem r32 (a0 : List AV) (a1 : Int) (h : q32 a0 a1 = true) : funA c32 0 32 [AV.sl [.int .i64, .int .i64] a0, AV.int .i64 a1] = some (AV.fl [.int .i64] (v32_0 a0 a1)) := (e32 a0 a1).trans ((brL (br (fun b => some (AV.fl [.int .i64] (bif b then ([] : List AV) else (ro (runW (R32_0 a1 a0 (a0.length : Int)) (((a0.length : Int) - 0).toNat + 1) (0, ([] : List AV))) [] (fun p14 => p14))))) (fun _ => rfl) (brO (fun o : Option (((List AV))) => some (AV.fl [.int .i64] (ro o [] (fun p14 => p14)))) (fun p14 => (fun _ => rfl))))) h)
def m32 : TModel
  | [.sl g0 a0, .int .i64 a1] => bif ctsEq g0 ([.int .i64, .int .i64]) then some (q32 a0 a1, AV.fl [.int .i64] (v32_0 a0 a1)) else none
  | _ => none
theorem k32 : Known Try.prog 32 := ⟨Try.f32, Try.func32, by kernel_rfl, by kernel_rfl⟩
theorem meets32 : Meets Try.prog 32 m32 := by
  refine meet (f := Try.f32) (l := [(0, sub [1, 1, 1, 0, 1, 0, 0] (body Try.f32))]) (hs := [(32, 0, [1, 5, 12, 13, 14]), (32, 999, [4]), (32, 1000, [5]), (32, 1001, [1, 5, 12, 13, 14])]) (ts := [(62, m62), (72, m72)]) (ws := []) (is := []) (ls := [(32, 0, l32_0)]) (lvl := 0) mixed k32 Try.func32 (by kernel_rfl) (loops_cons ok32_0 noLoop) (allT_cons meets62 (allT_cons meets72 allT_nil)) allM_nil noI fun w xs us r hl hv h => ?_
  unfold m32 at h
  split at h
  · rename_i g0 a0 a1
    obtain ⟨hg, h⟩ := bif_pair h
    have q0 := hg
    obtain rfl := ctsEq_eq _ _ q0
    obtain ⟨h1, rfl⟩ := pair_inj h
    exact r32 a0 a1 h1
  · cases h

/-! ### 35 loop.example/g01984/impl.HeatOf -/
def F35_0 (t1 : List AV) (t17 : List AV) (t18 : Int) (t19 : Int) (h0 : List AV) : Out ((Int × (List AV))) (((List AV))) := (bif decide (t19 < t18) then (bif (decide (0 ≤ t19) && decide (t19 < (t17.length : Int))) then (bif q32 t1 (fI (t17.getD t19.toNat AV.undef) 0) then (bif (decide ((h0.length + ([AV.int .i64 ((v32_0 t1 (fI (t17.getD t19.toNat AV.undef) 0)).length : Int)]).length) * 8 ≤ 140737488355328) && decide ((h0.length + ([AV.int .i64 ((v32_0 t1 (fI (t17.getD t19.toNat AV.undef) 0)).length : Int)]).length) ≤ 140737488355328)) then .next (IntKind.i64.wrap (t19 + 1), h0 ++ ([AV.int .i64 ((v32_0 t1 (fI (t17.getD t19.toNat AV.undef) 0)).length : Int)]))
     else .fail)
    else .fail)
   else .fail)
  else .stop h0)
def R35_0 (t1 : List AV) (t17 : List AV) (t18 : Int) : ((Int × (List AV))) → Out ((Int × (List AV))) (((List AV))) := fun s : Int × (List AV) => F35_0 t1 t17 t18 s.1 s.2
def l35_0 : LModel := fun _ _ st k => match st with
  | ⟨[(1, .sl g0 t1), (5, .own g1), (17, .sl g2 t17), (18, .int .i64 t18), (19, .int .i64 t19)], [(g3, ⟨false, g4, h0⟩)]⟩ => bif ctsEq g0 ([.int .i64, .int .i64]) && nmEq g1 ([0, 5]) && ctsEq g2 ([.int .i64]) && nmEq g3 ([0, 5]) && ctsEq g4 ([.int .i64]) then ro (runW (R35_0 t1 t17 t18) ((t18 - t19).toNat + 1) (t19, h0)) none (fun p : (List AV) => k (.exit 0) ⟨[(5, AV.own [0, 5])], [([0, 5], ⟨false, [.int .i64], p⟩)]⟩) else none
  | _ => none
noncomputable def c35 : Cfg := cfg Try.prog [(35, 0, [1, 5, 17, 18, 19]), (35, 999, [4]), (35, 1000, [5]), (35, 1001, [1, 5, 17, 18, 19])] [(32, m32), (62, m62), (74, m74)] [] [] [(35, 0, l35_0)]
theorem s35_0 (ce : CallE) (t1 : List AV) (t17 : List AV) (t18 : Int) (t19 : Int) (h0 : List AV) (next : St → Option AV) (k : Kont) : stepA (codeA c35 ce [] 35 0 (sub [1, 1, 1, 0, 1, 0, 0] (body Try.f35))) (normA [] [1, 5, 17, 18, 19]) next ⟨[(1, AV.sl [.int .i64, .int .i64] t1), (5, AV.own [0, 5]), (17, AV.sl [.int .i64] t17), (18, AV.int .i64 t18), (19, AV.int .i64 t19)], [([0, 5], ⟨false, [.int .i64], h0⟩)]⟩ k = (bif decide (t19 < t18) then (bif (decide (0 ≤ t19) && decide (t19 < (t17.length : Int))) then (bif q32 t1 (fI (t17.getD t19.toNat AV.undef) 0) then (bif (decide ((h0.length + ([AV.int .i64 ((v32_0 t1 (fI (t17.getD t19.toNat AV.undef) 0)).length : Int)]).length) * 8 ≤ 140737488355328) && decide ((h0.length + ([AV.int .i64 ((v32_0 t1 (fI (t17.getD t19.toNat AV.undef) 0)).length : Int)]).length) ≤ 140737488355328)) then next ⟨[(1, AV.sl [.int .i64, .int .i64] t1), (5, AV.own [0, 5]), (17, AV.sl [.int .i64] t17), (18, AV.int .i64 t18), (19, AV.int .i64 (IntKind.i64.wrap (t19 + 1)))], [([0, 5], ⟨false, [.int .i64], h0 ++ ([AV.int .i64 ((v32_0 t1 (fI (t17.getD t19.toNat AV.undef) 0)).length : Int)])⟩)]⟩
     else none)
    else none)
   else none)
  else k (.exit 0) ⟨[(5, AV.own [0, 5])], [([0, 5], ⟨false, [.int .i64], h0⟩)]⟩) := by kernel_rfl
theorem st35_0 (t1 : List AV) (t17 : List AV) (t18 : Int) (ce : CallE) (k : Kont) (s : (Int × (List AV))) (next : St → Option AV) : stepA (codeA c35 ce [] 35 0 (sub [1, 1, 1, 0, 1, 0, 0] (body Try.f35))) (normA [] [1, 5, 17, 18, 19]) next ((fun s : Int × (List AV) => ⟨[(1, AV.sl [.int .i64, .int .i64] t1), (5, AV.own [0, 5]), (17, AV.sl [.int .i64] t17), (18, AV.int .i64 t18), (19, AV.int .i64 s.1)], [([0, 5], ⟨false, [.int .i64], s.2⟩)]⟩) s) k = (R35_0 t1 t17 t18 s).el none (fun s => next ((fun s : Int × (List AV) => ⟨[(1, AV.sl [.int .i64, .int .i64] t1), (5, AV.own [0, 5]), (17, AV.sl [.int .i64] t17), (18, AV.int .i64 t18), (19, AV.int .i64 s.1)], [([0, 5], ⟨false, [.int .i64], s.2⟩)]⟩) s)) (fun p : (List AV) => k (.exit 0) ⟨[(5, AV.own [0, 5])], [([0, 5], ⟨false, [.int .i64], p⟩)]⟩) := (s35_0 ce t1 t17 t18 s.1 s.2 next k).trans (by unfold R35_0; unfold F35_0; simp only [el_cond, el_ro, el_sum, el_fail, el_next, el_stop] <;> rfl)
theorem ok35_0 : LoopOK c35 [] 35 0 (sub [1, 1, 1, 0, 1, 0, 0] (body Try.f35)) := by
  intro m hm ce st k r h
  obtain rfl : l35_0 = m := Option.some.inj hm
  unfold l35_0 at h
  split at h
  · rename_i g0 t1 g1 g2 t17 t18 t19 g3 g4 h0
    obtain ⟨hg, h⟩ := bif_some h
    simp only [Bool.and_eq_true] at hg
    obtain ⟨⟨⟨⟨q0, q1⟩, q2⟩, q3⟩, q4⟩ := hg
    obtain rfl := ctsEq_eq _ _ q0
    obtain rfl := (nmEq_iff _ _).1 q1
    obtain rfl := ctsEq_eq _ _ q2
    obtain rfl := (nmEq_iff _ _).1 q3
    obtain rfl := ctsEq_eq _ _ q4
    refine ⟨((t18 - t19).toNat + 1), ?_⟩
    rw [← h]
    exact loop_run (fun s : Int × (List AV) => ⟨[(1, AV.sl [.int .i64, .int .i64] t1), (5, AV.own [0, 5]), (17, AV.sl [.int .i64] t17), (18, AV.int .i64 t18), (19, AV.int .i64 s.1)], [([0, 5], ⟨false, [.int .i64], s.2⟩)]⟩) (fun p : (List AV) => k (.exit 0) ⟨[(5, AV.own [0, 5])], [([0, 5], ⟨false, [.int .i64], p⟩)]⟩) (st35_0 t1 t17 t18 ce k) _ (t19, h0)
  · cases h
def q35 (a0 : List AV) (a1 : List AV) : Bool := (q74 a0 && (bif !(v74_0 a0) then true else (q62 a1 && (bif !(v62_0 a1) then true else (ro (runW (R35_0 a1 a0 (a0.length : Int)) (((a0.length : Int) - 0).toNat + 1) (0, ([] : List AV))) false (fun p15 => true))))))
def v35_0 (a0 : List AV) (a1 : List AV) : List AV := (bif !(v74_0 a0) then ([] : List AV) else (bif !(v62_0 a1) then ([] : List AV) else (ro (runW (R35_0 a1 a0 (a0.length : Int)) (((a0.length : Int) - 0).toNat + 1) (0, ([] : List AV))) [] (fun p15 => p15))))
theorem e35 (a0 : List AV) (a1 : List AV) : funA c35 0 35 [AV.sl [.int .i64] a0, AV.sl [.int .i64, .int .i64] a1] = (bif q74 a0 then (bif !(v74_0 a0) then some (AV.fl [.int .i64] ([] : List AV))
   else (bif q62 a1 then (bif !(v62_0 a1) then some (AV.fl [.int .i64] ([] : List AV))
     else (ro (runW (R35_0 a1 a0 (a0.length : Int)) (((a0.length : Int) - 0).toNat + 1) (0, ([] : List AV))) none (fun p15 => some (AV.fl [.int .i64] p15))))
    else none))
  else none) := by kernel_rfl
theorem r35 (a0 : List AV) (a1 : List AV) (h : q35 a0 a1 = true) : funA c35 0 35 [AV.sl [.int .i64] a0, AV.sl [.int .i64, .int .i64] a1] = some (AV.fl [.int .i64] (v35_0 a0 a1)) := (e35 a0 a1).trans ((brL (br (fun b => some (AV.fl [.int .i64] (bif b then ([] : List AV) else (bif !(v62_0 a1) then ([] : List AV) else (ro (runW (R35_0 a1 a0 (a0.length : Int)) (((a0.length : Int) - 0).toNat + 1) (0, ([] : List AV))) [] (fun p15 => p15)))))) (fun _ => rfl) (brL (br (fun b => some (AV.fl [.int .i64] (bif b then ([] : List AV) else (ro (runW (R35_0 a1 a0 (a0.length : Int)) (((a0.length : Int) - 0).toNat + 1) (0, ([] : List AV))) [] (fun p15 => p15))))) (fun _ => rfl) (brO (fun o : Option (((List AV))) => some (AV.fl [.int .i64] (ro o [] (fun p15 => p15)))) (fun p15 => (fun _ => rfl))))))) h)
def m35 : TModel
  | [.sl g0 a0, .sl g1 a1] => bif ctsEq g0 ([.int .i64]) && ctsEq g1 ([.int .i64, .int .i64]) then some (q35 a0 a1, AV.fl [.int .i64] (v35_0 a0 a1)) else none
  | _ => none
theorem k35 : Known Try.prog 35 := ⟨Try.f35, Try.func35, by kernel_rfl, by kernel_rfl⟩
theorem meets35 : Meets Try.prog 35 m35 := by
  refine meet (f := Try.f35) (l := [(0, sub [1, 1, 1, 0, 1, 0, 0] (body Try.f35))]) (hs := [(35, 0, [1, 5, 17, 18, 19]), (35, 999, [4]), (35, 1000, [5]), (35, 1001, [1, 5, 17, 18, 19])]) (ts := [(32, m32), (62, m62), (74, m74)]) (ws := []) (is := []) (ls := [(35, 0, l35_0)]) (lvl := 0) mixed k35 Try.func35 (by kernel_rfl) (loops_cons ok35_0 noLoop) (allT_cons meets32 (allT_cons meets62 (allT_cons meets74 allT_nil))) allM_nil noI fun w xs us r hl hv h => ?_
  unfold m35 at h
  split at h
  · rename_i g0 a0 g1 a1
    obtain ⟨hg, h⟩ := bif_pair h
    simp only [Bool.and_eq_true] at hg
    obtain ⟨q0, q1⟩ := hg
    obtain rfl := ctsEq_eq _ _ q0
    obtain rfl := ctsEq_eq _ _ q1
    obtain ⟨h1, rfl⟩ := pair_inj h
    exact r35 a0 a1 h1
  · cases h

/-! ### 37 loop.example/g01984/impl.ColdRows -/
def F37_0 (t12 : Int) (h1 : List AV) (t13 : Int) (h0 : List AV) : Out ((Int × (List AV))) (((List AV))) := (bif decide (t13 < t12) then (bif (decide (0 ≤ t13) && decide (t13 < (h1.length : Int))) then (bif decide (fI (h1.getD t13.toNat AV.undef) 0 = 0) then (bif (decide ((h0.length + ([AV.int .i64 t13]).length) * 8 ≤ 140737488355328) && decide ((h0.length + ([AV.int .i64 t13]).length) ≤ 140737488355328)) then .next (IntKind.i64.wrap (t13 + 1), h0 ++ ([AV.int .i64 t13]))
     else .fail)
    else .next (IntKind.i64.wrap (t13 + 1), h0))
   else .fail)
  else .stop h0)
def R37_0 (t12 : Int) (h1 : List AV) : ((Int × (List AV))) → Out ((Int × (List AV))) (((List AV))) := fun s : Int × (List AV) => F37_0 t12 h1 s.1 s.2
def l37_0 : LModel := fun _ _ st k => match st with
  | ⟨[(5, .own g0), (11, .own g1), (12, .int .i64 t12), (13, .int .i64 t13)], [(g2, ⟨false, g3, h0⟩), (g4, ⟨false, g5, h1⟩)]⟩ => bif nmEq g0 ([0, 5]) && nmEq g1 ([0, 11]) && nmEq g2 ([0, 5]) && ctsEq g3 ([.int .i64]) && nmEq g4 ([0, 11]) && ctsEq g5 ([.int .i64]) then ro (runW (R37_0 t12 h1) ((t12 - t13).toNat + 1) (t13, h0)) none (fun p : (List AV) => k (.exit 0) ⟨[(5, AV.own [0, 5])], [([0, 5], ⟨false, [.int .i64], p⟩), ([0, 11], ⟨false, [.int .i64], h1⟩)]⟩) else none
  | _ => none
noncomputable def c37 : Cfg := cfg Try.prog [(37, 0, [5, 11, 12, 13]), (37, 999, [4]), (37, 1000, [5]), (37, 1001, [5, 11, 12, 13])] [(35, m35)] [] [] [(37, 0, l37_0)]
theorem s37_0 (ce : CallE) (t12 : Int) (t13 : Int) (h0 : List AV) (h1 : List AV) (next : St → Option AV) (k : Kont) : stepA (codeA c37 ce [] 37 0 (sub [1, 1, 0, 1, 0, 0] (body Try.f37))) (normA [] [5, 11, 12, 13]) next ⟨[(5, AV.own [0, 5]), (11, AV.own [0, 11]), (12, AV.int .i64 t12), (13, AV.int .i64 t13)], [([0, 5], ⟨false, [.int .i64], h0⟩), ([0, 11], ⟨false, [.int .i64], h1⟩)]⟩ k = (bif decide (t13 < t12) then (bif (decide (0 ≤ t13) && decide (t13 < (h1.length : Int))) then (bif decide (fI (h1.getD t13.toNat AV.undef) 0 = 0) then (bif (decide ((h0.length + ([AV.int .i64 t13]).length) * 8 ≤ 140737488355328) && decide ((h0.length + ([AV.int .i64 t13]).length) ≤ 140737488355328)) then next ⟨[(5, AV.own [0, 5]), (11, AV.own [0, 11]), (12, AV.int .i64 t12), (13, AV.int .i64 (IntKind.i64.wrap (t13 + 1)))], [([0, 5], ⟨false, [.int .i64], h0 ++ ([AV.int .i64 t13])⟩), ([0, 11], ⟨false, [.int .i64], h1⟩)]⟩
     else none)
    else next ⟨[(5, AV.own [0, 5]), (11, AV.own [0, 11]), (12, AV.int .i64 t12), (13, AV.int .i64 (IntKind.i64.wrap (t13 + 1)))], [([0, 5], ⟨false, [.int .i64], h0⟩), ([0, 11], ⟨false, [.int .i64], h1⟩)]⟩)
   else none)
  else k (.exit 0) ⟨[(5, AV.own [0, 5])], [([0, 5], ⟨false, [.int .i64], h0⟩), ([0, 11], ⟨false, [.int .i64], h1⟩)]⟩) := by kernel_rfl
theorem st37_0 (t12 : Int) (h1 : List AV) (ce : CallE) (k : Kont) (s : (Int × (List AV))) (next : St → Option AV) : stepA (codeA c37 ce [] 37 0 (sub [1, 1, 0, 1, 0, 0] (body Try.f37))) (normA [] [5, 11, 12, 13]) next ((fun s : Int × (List AV) => ⟨[(5, AV.own [0, 5]), (11, AV.own [0, 11]), (12, AV.int .i64 t12), (13, AV.int .i64 s.1)], [([0, 5], ⟨false, [.int .i64], s.2⟩), ([0, 11], ⟨false, [.int .i64], h1⟩)]⟩) s) k = (R37_0 t12 h1 s).el none (fun s => next ((fun s : Int × (List AV) => ⟨[(5, AV.own [0, 5]), (11, AV.own [0, 11]), (12, AV.int .i64 t12), (13, AV.int .i64 s.1)], [([0, 5], ⟨false, [.int .i64], s.2⟩), ([0, 11], ⟨false, [.int .i64], h1⟩)]⟩) s)) (fun p : (List AV) => k (.exit 0) ⟨[(5, AV.own [0, 5])], [([0, 5], ⟨false, [.int .i64], p⟩), ([0, 11], ⟨false, [.int .i64], h1⟩)]⟩) := (s37_0 ce t12 s.1 s.2 h1 next k).trans (by unfold R37_0; unfold F37_0; simp only [el_cond, el_ro, el_sum, el_fail, el_next, el_stop] <;> rfl)
theorem ok37_0 : LoopOK c37 [] 37 0 (sub [1, 1, 0, 1, 0, 0] (body Try.f37)) := by
  intro m hm ce st k r h
  obtain rfl : l37_0 = m := Option.some.inj hm
  unfold l37_0 at h
  split at h
  · rename_i g0 g1 t12 t13 g2 g3 h0 g4 g5 h1
    obtain ⟨hg, h⟩ := bif_some h
    simp only [Bool.and_eq_true] at hg
    obtain ⟨⟨⟨⟨⟨q0, q1⟩, q2⟩, q3⟩, q4⟩, q5⟩ := hg
    obtain rfl := (nmEq_iff _ _).1 q0
    obtain rfl := (nmEq_iff _ _).1 q1
    obtain rfl := (nmEq_iff _ _).1 q2
    obtain rfl := ctsEq_eq _ _ q3
    obtain rfl := (nmEq_iff _ _).1 q4
    obtain rfl := ctsEq_eq _ _ q5
    refine ⟨((t12 - t13).toNat + 1), ?_⟩
    rw [← h]
    exact loop_run (fun s : Int × (List AV) => ⟨[(5, AV.own [0, 5]), (11, AV.own [0, 11]), (12, AV.int .i64 t12), (13, AV.int .i64 s.1)], [([0, 5], ⟨false, [.int .i64], s.2⟩), ([0, 11], ⟨false, [.int .i64], h1⟩)]⟩) (fun p : (List AV) => k (.exit 0) ⟨[(5, AV.own [0, 5])], [([0, 5], ⟨false, [.int .i64], p⟩), ([0, 11], ⟨false, [.int .i64], h1⟩)]⟩) (st37_0 t12 h1 ce k) _ (t13, h0)
  · cases h
def q37 (a0 : List AV) (a1 : List AV) : Bool := (q35 a0 a1 && (ro (runW (R37_0 ((v35_0 a0 a1).length : Int) (v35_0 a0 a1)) ((((v35_0 a0 a1).length : Int) - 0).toNat + 1) (0, ([] : List AV))) false (fun p16 => true)))
def v37_0 (a0 : List AV) (a1 : List AV) : List AV := (ro (runW (R37_0 ((v35_0 a0 a1).length : Int) (v35_0 a0 a1)) ((((v35_0 a0 a1).length : Int) - 0).toNat + 1) (0, ([] : List AV))) [] (fun p16 => p16))
theorem e37 (a0 : List AV) (a1 : List AV) : funA c37 0 37 [AV.sl [.int .i64] a0, AV.sl [.int .i64, .int .i64] a1] = (bif q35 a0 a1 then (ro (runW (R37_0 ((v35_0 a0 a1).length : Int) (v35_0 a0 a1)) ((((v35_0 a0 a1).length : Int) - 0).toNat + 1) (0, ([] : List AV))) none (fun p16 => some (AV.fl [.int .i64] p16)))
  else none) := by kernel_rfl
theorem r37 (a0 : List AV) (a1 : List AV) (h : q37 a0 a1 = true) : funA c37 0 37 [AV.sl [.int .i64] a0, AV.sl [.int .i64, .int .i64] a1] = some (AV.fl [.int .i64] (v37_0 a0 a1)) := (e37 a0 a1).trans ((brL (brO (fun o : Option (((List AV))) => some (AV.fl [.int .i64] (ro o [] (fun p16 => p16)))) (fun p16 => (fun _ => rfl)))) h)
def m37 : TModel
  | [.sl g0 a0, .sl g1 a1] => bif ctsEq g0 ([.int .i64]) && ctsEq g1 ([.int .i64, .int .i64]) then some (q37 a0 a1, AV.fl [.int .i64] (v37_0 a0 a1)) else none
  | _ => none
theorem k37 : Known Try.prog 37 := ⟨Try.f37, Try.func37, by kernel_rfl, by kernel_rfl⟩
theorem meets37 : Meets Try.prog 37 m37 := by
  refine meet (f := Try.f37) (l := [(0, sub [1, 1, 0, 1, 0, 0] (body Try.f37))]) (hs := [(37, 0, [5, 11, 12, 13]), (37, 999, [4]), (37, 1000, [5]), (37, 1001, [5, 11, 12, 13])]) (ts := [(35, m35)]) (ws := []) (is := []) (ls := [(37, 0, l37_0)]) (lvl := 0) mixed k37 Try.func37 (by kernel_rfl) (loops_cons ok37_0 noLoop) (allT_cons meets35 allT_nil) allM_nil noI fun w xs us r hl hv h => ?_
  unfold m37 at h
  split at h
  · rename_i g0 a0 g1 a1
    obtain ⟨hg, h⟩ := bif_pair h
    simp only [Bool.and_eq_true] at hg
    obtain ⟨q0, q1⟩ := hg
    obtain rfl := ctsEq_eq _ _ q0
    obtain rfl := ctsEq_eq _ _ q1
    obtain ⟨h1, rfl⟩ := pair_inj h
    exact r37 a0 a1 h1
  · cases h

/-! ### 22 loop.example/g01984/laws.eqIntS -/
def F22_0 (t0 : List AV) (t1 : List AV) (t5 : Int) : Out (Int) (Unit ⊕ Unit) := (bif decide (t5 < (t0.length : Int)) then (bif (decide (0 ≤ t5) && decide (t5 < (t0.length : Int))) then (bif (decide (0 ≤ t5) && decide (t5 < (t1.length : Int))) then (bif !decide (fI (t0.getD t5.toNat AV.undef) 0 = fI (t1.getD t5.toNat AV.undef) 0) then .stop (.inr ())
     else .next (IntKind.i64.wrap (t5 + 1)))
    else .fail)
   else .fail)
  else .stop (.inl ()))
def R22_0 (t0 : List AV) (t1 : List AV) : (Int) → Out (Int) (Unit ⊕ Unit) := fun s : Int => F22_0 t0 t1 s
def l22_0 : LModel := fun _ _ st k => match st with
  | ⟨[(0, .sl g0 t0), (1, .sl g1 t1), (5, .int .i64 t5)], []⟩ => bif ctsEq g0 ([.int .i64]) && ctsEq g1 ([.int .i64]) then ro (runW (R22_0 t0 t1) (((t0.length : Int) - t5).toNat + 1) t5) none (sumE (fun _ : Unit => k (.exit 0) ⟨[], []⟩) (fun _ : Unit => k .ret ⟨[(4, AV.bool false)], []⟩)) else none
  | _ => none
noncomputable def c22 : Cfg := cfg Try.prog [(22, 0, [0, 1, 5]), (22, 999, [4]), (22, 1000, []), (22, 1001, [0, 1, 5])] [] [] [] [(22, 0, l22_0)]
theorem s22_0 (ce : CallE) (t0 : List AV) (t1 : List AV) (t5 : Int) (next : St → Option AV) (k : Kont) : stepA (codeA c22 ce [] 22 0 (sub [1, 1, 0, 1, 0, 0] (body Try.f22))) (normA [] [0, 1, 5]) next ⟨[(0, AV.sl [.int .i64] t0), (1, AV.sl [.int .i64] t1), (5, AV.int .i64 t5)], []⟩ k = (bif decide (t5 < (t0.length : Int)) then (bif (decide (0 ≤ t5) && decide (t5 < (t0.length : Int))) then (bif (decide (0 ≤ t5) && decide (t5 < (t1.length : Int))) then (bif !decide (fI (t0.getD t5.toNat AV.undef) 0 = fI (t1.getD t5.toNat AV.undef) 0) then k .ret ⟨[(4, AV.bool false)], []⟩
     else next ⟨[(0, AV.sl [.int .i64] t0), (1, AV.sl [.int .i64] t1), (5, AV.int .i64 (IntKind.i64.wrap (t5 + 1)))], []⟩)
    else none)
   else none)
  else k (.exit 0) ⟨[], []⟩) := by kernel_rfl
theorem st22_0 (t0 : List AV) (t1 : List AV) (ce : CallE) (k : Kont) (s : Int) (next : St → Option AV) : stepA (codeA c22 ce [] 22 0 (sub [1, 1, 0, 1, 0, 0] (body Try.f22))) (normA [] [0, 1, 5]) next ((fun s : Int => ⟨[(0, AV.sl [.int .i64] t0), (1, AV.sl [.int .i64] t1), (5, AV.int .i64 s)], []⟩) s) k = (R22_0 t0 t1 s).el none (fun s => next ((fun s : Int => ⟨[(0, AV.sl [.int .i64] t0), (1, AV.sl [.int .i64] t1), (5, AV.int .i64 s)], []⟩) s)) (sumE (fun _ : Unit => k (.exit 0) ⟨[], []⟩) (fun _ : Unit => k .ret ⟨[(4, AV.bool false)], []⟩)) := (s22_0 ce t0 t1 s next k).trans (by unfold R22_0; unfold F22_0; simp only [el_cond, el_ro, el_sum, el_fail, el_next, el_stop] <;> rfl)
theorem ok22_0 : LoopOK c22 [] 22 0 (sub [1, 1, 0, 1, 0, 0] (body Try.f22)) := by
  intro m hm ce st k r h
  obtain rfl : l22_0 = m := Option.some.inj hm
  unfold l22_0 at h
  split at h
  · rename_i g0 t0 g1 t1 t5
    obtain ⟨hg, h⟩ := bif_some h
    simp only [Bool.and_eq_true] at hg
    obtain ⟨q0, q1⟩ := hg
    obtain rfl := ctsEq_eq _ _ q0
    obtain rfl := ctsEq_eq _ _ q1
    refine ⟨(((t0.length : Int) - t5).toNat + 1), ?_⟩
    rw [← h]
    exact loop_run (fun s : Int => ⟨[(0, AV.sl [.int .i64] t0), (1, AV.sl [.int .i64] t1), (5, AV.int .i64 s)], []⟩) (sumE (fun _ : Unit => k (.exit 0) ⟨[], []⟩) (fun _ : Unit => k .ret ⟨[(4, AV.bool false)], []⟩)) (st22_0 t0 t1 ce k) _ t5
  · cases h
def q22 (a0 : List AV) (a1 : List AV) : Bool := (bif !decide ((a0.length : Int) = (a1.length : Int)) then true else (ro (runW (R22_0 a0 a1) (((a0.length : Int) - 0).toNat + 1) 0) false (sumE (fun _ => true) (fun _ => true))))
def v22_0 (a0 : List AV) (a1 : List AV) : Bool := (bif !decide ((a0.length : Int) = (a1.length : Int)) then false else (ro (runW (R22_0 a0 a1) (((a0.length : Int) - 0).toNat + 1) 0) false (sumE (fun _ => true) (fun _ => false))))
theorem e22 (a0 : List AV) (a1 : List AV) : funA c22 0 22 [AV.sl [.int .i64] a0, AV.sl [.int .i64] a1] = (bif !decide ((a0.length : Int) = (a1.length : Int)) then some (AV.bool false)
  else (ro (runW (R22_0 a0 a1) (((a0.length : Int) - 0).toNat + 1) 0) none (sumE (fun _ => some (AV.bool true)) (fun _ => some (AV.bool false))))) := by kernel_rfl
theorem r22 (a0 : List AV) (a1 : List AV) (h : q22 a0 a1 = true) : funA c22 0 22 [AV.sl [.int .i64] a0, AV.sl [.int .i64] a1] = some (AV.bool (v22_0 a0 a1)) := (e22 a0 a1).trans ((br (fun b => some (AV.bool (bif b then false else (ro (runW (R22_0 a0 a1) (((a0.length : Int) - 0).toNat + 1) 0) false (sumE (fun _ => true) (fun _ => false)))))) (fun _ => rfl) (brO (fun o : Option (Unit ⊕ Unit) => some (AV.bool (ro o false (sumE (fun _ => true) (fun _ => false))))) (brS (fun o : Unit ⊕ Unit => some (AV.bool ((sumE (fun _ => true) (fun _ => false)) o))) (fun _ => (fun _ => rfl)) (fun _ => (fun _ => rfl))))) h)
def m22 : TModel
  | [.sl g0 a0, .sl g1 a1] => bif ctsEq g0 ([.int .i64]) && ctsEq g1 ([.int .i64]) then some (q22 a0 a1, AV.bool (v22_0 a0 a1)) else none
  | _ => none
theorem k22 : Known Try.prog 22 := ⟨Try.f22, Try.func22, by kernel_rfl, by kernel_rfl⟩
theorem meets22 : Meets Try.prog 22 m22 := by
  refine meet (f := Try.f22) (l := [(0, sub [1, 1, 0, 1, 0, 0] (body Try.f22))]) (hs := [(22, 0, [0, 1, 5]), (22, 999, [4]), (22, 1000, []), (22, 1001, [0, 1, 5])]) (ts := []) (ws := []) (is := []) (ls := [(22, 0, l22_0)]) (lvl := 0) mixed k22 Try.func22 (by kernel_rfl) (loops_cons ok22_0 noLoop) allT_nil allM_nil noI fun w xs us r hl hv h => ?_
  unfold m22 at h
  split at h
  · rename_i g0 a0 g1 a1
    obtain ⟨hg, h⟩ := bif_pair h
    simp only [Bool.and_eq_true] at hg
    obtain ⟨q0, q1⟩ := hg
    obtain rfl := ctsEq_eq _ _ q0
    obtain rfl := ctsEq_eq _ _ q1
    obtain ⟨h1, rfl⟩ := pair_inj h
    exact r22 a0 a1 h1
  · cases h

/-! ### 63 loop.example/g01984/laws.eqRange -/
noncomputable def c63 : Cfg := cfg Try.prog [(63, 999, [4])] [] [] [] []
def q63 (a0_0 : Int) (a0_1 : Int) (a1_0 : Int) (a1_1 : Int) : Bool := true
def v63_0 (a0_0 : Int) (a0_1 : Int) (a1_0 : Int) (a1_1 : Int) : Bool := (bif !decide (a0_0 = a1_0) then false else (bif !decide (a0_1 = a1_1) then false else true))
theorem e63 (a0_0 : Int) (a0_1 : Int) (a1_0 : Int) (a1_1 : Int) : funA c63 0 63 [AV.agg [AV.int .i64 a0_0, AV.int .i64 a0_1], AV.agg [AV.int .i64 a1_0, AV.int .i64 a1_1]] = (bif !decide (a0_0 = a1_0) then some (AV.bool false)
  else (bif !decide (a0_1 = a1_1) then some (AV.bool false)
   else some (AV.bool true))) := by kernel_rfl
theorem r63 (a0_0 : Int) (a0_1 : Int) (a1_0 : Int) (a1_1 : Int) : funA c63 0 63 [AV.agg [AV.int .i64 a0_0, AV.int .i64 a0_1], AV.agg [AV.int .i64 a1_0, AV.int .i64 a1_1]] = some (AV.bool (v63_0 a0_0 a0_1 a1_0 a1_1)) := (e63 a0_0 a0_1 a1_0 a1_1).trans (of_tt (brT (fun b => some (AV.bool (bif b then false else (bif !decide (a0_1 = a1_1) then false else true)))) (fun _ => rfl) (brT (fun b => some (AV.bool (bif b then false else true))) (fun _ => rfl) (fun _ => rfl))))
def m63 : TModel
  | [.agg [.int .i64 a0_0, .int .i64 a0_1], .agg [.int .i64 a1_0, .int .i64 a1_1]] => some (true, AV.bool (v63_0 a0_0 a0_1 a1_0 a1_1))
  | _ => none
theorem k63 : Known Try.prog 63 := ⟨Try.f63, Try.func63, by kernel_rfl, by kernel_rfl⟩
theorem meets63 : Meets Try.prog 63 m63 := by
  refine meet (f := Try.f63) (l := []) (hs := [(63, 999, [4])]) (ts := []) (ws := []) (is := []) (ls := []) (lvl := 0) mixed k63 Try.func63 (by kernel_rfl) noLoop allT_nil allM_nil noI fun w xs us r hl hv h => ?_
  unfold m63 at h
  split at h
  · rename_i a0_0 a0_1 a1_0 a1_1
    obtain ⟨h1, rfl⟩ := pair_inj h
    exact r63 a0_0 a0_1 a1_0 a1_1
  · cases h

/-! ### 17 loop.example/g01984/laws.eqRangeS -/
def F17_0 (t0 : List AV) (t1 : List AV) (t5 : Int) : Out (Int) (Unit ⊕ Unit) := (bif decide (t5 < (t0.length : Int)) then (bif (decide (0 ≤ t5) && decide (t5 < (t0.length : Int))) then (bif (decide (0 ≤ t5) && decide (t5 < (t1.length : Int))) then (bif !(v63_0 (fI (t0.getD t5.toNat AV.undef) 0) (fI (t0.getD t5.toNat AV.undef) 1) (fI (t1.getD t5.toNat AV.undef) 0) (fI (t1.getD t5.toNat AV.undef) 1)) then .stop (.inr ())
     else .next (IntKind.i64.wrap (t5 + 1)))
    else .fail)
   else .fail)
  else .stop (.inl ()))
def R17_0 (t0 : List AV) (t1 : List AV) : (Int) → Out (Int) (Unit ⊕ Unit) := fun s : Int => F17_0 t0 t1 s
def l17_0 : LModel := fun _ _ st k => match st with
  | ⟨[(0, .sl g0 t0), (1, .sl g1 t1), (5, .int .i64 t5)], []⟩ => bif ctsEq g0 ([.int .i64, .int .i64]) && ctsEq g1 ([.int .i64, .int .i64]) then ro (runW (R17_0 t0 t1) (((t0.length : Int) - t5).toNat + 1) t5) none (sumE (fun _ : Unit => k (.exit 0) ⟨[], []⟩) (fun _ : Unit => k .ret ⟨[(4, AV.bool false)], []⟩)) else none
  | _ => none
noncomputable def c17 : Cfg := cfg Try.prog [(17, 0, [0, 1, 5]), (17, 999, [4]), (17, 1000, []), (17, 1001, [0, 1, 5])] [(63, m63)] [] [] [(17, 0, l17_0)]
theorem s17_0 (ce : CallE) (t0 : List AV) (t1 : List AV) (t5 : Int) (next : St → Option AV) (k : Kont) : stepA (codeA c17 ce [] 17 0 (sub [1, 1, 0, 1, 0, 0] (body Try.f17))) (normA [] [0, 1, 5]) next ⟨[(0, AV.sl [.int .i64, .int .i64] t0), (1, AV.sl [.int .i64, .int .i64] t1), (5, AV.int .i64 t5)], []⟩ k = (bif decide (t5 < (t0.length : Int)) then (bif (decide (0 ≤ t5) && decide (t5 < (t0.length : Int))) then (bif (decide (0 ≤ t5) && decide (t5 < (t1.length : Int))) then (bif !(v63_0 (fI (t0.getD t5.toNat AV.undef) 0) (fI (t0.getD t5.toNat AV.undef) 1) (fI (t1.getD t5.toNat AV.undef) 0) (fI (t1.getD t5.toNat AV.undef) 1)) then k .ret ⟨[(4, AV.bool false)], []⟩
     else next ⟨[(0, AV.sl [.int .i64, .int .i64] t0), (1, AV.sl [.int .i64, .int .i64] t1), (5, AV.int .i64 (IntKind.i64.wrap (t5 + 1)))], []⟩)
    else none)
   else none)
  else k (.exit 0) ⟨[], []⟩) := by kernel_rfl
theorem st17_0 (t0 : List AV) (t1 : List AV) (ce : CallE) (k : Kont) (s : Int) (next : St → Option AV) : stepA (codeA c17 ce [] 17 0 (sub [1, 1, 0, 1, 0, 0] (body Try.f17))) (normA [] [0, 1, 5]) next ((fun s : Int => ⟨[(0, AV.sl [.int .i64, .int .i64] t0), (1, AV.sl [.int .i64, .int .i64] t1), (5, AV.int .i64 s)], []⟩) s) k = (R17_0 t0 t1 s).el none (fun s => next ((fun s : Int => ⟨[(0, AV.sl [.int .i64, .int .i64] t0), (1, AV.sl [.int .i64, .int .i64] t1), (5, AV.int .i64 s)], []⟩) s)) (sumE (fun _ : Unit => k (.exit 0) ⟨[], []⟩) (fun _ : Unit => k .ret ⟨[(4, AV.bool false)], []⟩)) := (s17_0 ce t0 t1 s next k).trans (by unfold R17_0; unfold F17_0; simp only [el_cond, el_ro, el_sum, el_fail, el_next, el_stop] <;> rfl)
theorem ok17_0 : LoopOK c17 [] 17 0 (sub [1, 1, 0, 1, 0, 0] (body Try.f17)) := by
  intro m hm ce st k r h
  obtain rfl : l17_0 = m := Option.some.inj hm
  unfold l17_0 at h
  split at h
  · rename_i g0 t0 g1 t1 t5
    obtain ⟨hg, h⟩ := bif_some h
    simp only [Bool.and_eq_true] at hg
    obtain ⟨q0, q1⟩ := hg
    obtain rfl := ctsEq_eq _ _ q0
    obtain rfl := ctsEq_eq _ _ q1
    refine ⟨(((t0.length : Int) - t5).toNat + 1), ?_⟩
    rw [← h]
    exact loop_run (fun s : Int => ⟨[(0, AV.sl [.int .i64, .int .i64] t0), (1, AV.sl [.int .i64, .int .i64] t1), (5, AV.int .i64 s)], []⟩) (sumE (fun _ : Unit => k (.exit 0) ⟨[], []⟩) (fun _ : Unit => k .ret ⟨[(4, AV.bool false)], []⟩)) (st17_0 t0 t1 ce k) _ t5
  · cases h
def q17 (a0 : List AV) (a1 : List AV) : Bool := (bif !decide ((a0.length : Int) = (a1.length : Int)) then true else (ro (runW (R17_0 a0 a1) (((a0.length : Int) - 0).toNat + 1) 0) false (sumE (fun _ => true) (fun _ => true))))
def v17_0 (a0 : List AV) (a1 : List AV) : Bool := (bif !decide ((a0.length : Int) = (a1.length : Int)) then false else (ro (runW (R17_0 a0 a1) (((a0.length : Int) - 0).toNat + 1) 0) false (sumE (fun _ => true) (fun _ => false))))
theorem e17 (a0 : List AV) (a1 : List AV) : funA c17 0 17 [AV.sl [.int .i64, .int .i64] a0, AV.sl [.int .i64, .int .i64] a1] = (bif !decide ((a0.length : Int) = (a1.length : Int)) then some (AV.bool false)
  else (ro (runW (R17_0 a0 a1) (((a0.length : Int) - 0).toNat + 1) 0) none (sumE (fun _ => some (AV.bool true)) (fun _ => some (AV.bool false))))) := by kernel_rfl
theorem r17 (a0 : List AV) (a1 : List AV) (h : q17 a0 a1 = true) : funA c17 0 17 [AV.sl [.int .i64, .int .i64] a0, AV.sl [.int .i64, .int .i64] a1] = some (AV.bool (v17_0 a0 a1)) := (e17 a0 a1).trans ((br (fun b => some (AV.bool (bif b then false else (ro (runW (R17_0 a0 a1) (((a0.length : Int) - 0).toNat + 1) 0) false (sumE (fun _ => true) (fun _ => false)))))) (fun _ => rfl) (brO (fun o : Option (Unit ⊕ Unit) => some (AV.bool (ro o false (sumE (fun _ => true) (fun _ => false))))) (brS (fun o : Unit ⊕ Unit => some (AV.bool ((sumE (fun _ => true) (fun _ => false)) o))) (fun _ => (fun _ => rfl)) (fun _ => (fun _ => rfl))))) h)
def m17 : TModel
  | [.sl g0 a0, .sl g1 a1] => bif ctsEq g0 ([.int .i64, .int .i64]) && ctsEq g1 ([.int .i64, .int .i64]) then some (q17 a0 a1, AV.bool (v17_0 a0 a1)) else none
  | _ => none
theorem k17 : Known Try.prog 17 := ⟨Try.f17, Try.func17, by kernel_rfl, by kernel_rfl⟩
theorem meets17 : Meets Try.prog 17 m17 := by
  refine meet (f := Try.f17) (l := [(0, sub [1, 1, 0, 1, 0, 0] (body Try.f17))]) (hs := [(17, 0, [0, 1, 5]), (17, 999, [4]), (17, 1000, []), (17, 1001, [0, 1, 5])]) (ts := [(63, m63)]) (ws := []) (is := []) (ls := [(17, 0, l17_0)]) (lvl := 0) mixed k17 Try.func17 (by kernel_rfl) (loops_cons ok17_0 noLoop) (allT_cons meets63 allT_nil) allM_nil noI fun w xs us r hl hv h => ?_
  unfold m17 at h
  split at h
  · rename_i g0 a0 g1 a1
    obtain ⟨hg, h⟩ := bif_pair h
    simp only [Bool.and_eq_true] at hg
    obtain ⟨q0, q1⟩ := hg
    obtain rfl := ctsEq_eq _ _ q0
    obtain rfl := ctsEq_eq _ _ q1
    obtain ⟨h1, rfl⟩ := pair_inj h
    exact r17 a0 a1 h1
  · cases h

/-! ### 25 loop.example/g01984/laws.markIntS -/
def F25_0 (t1 : Int) (t5 : Int) (h0 : List AV) : Out ((Int × Int × (List AV))) ((Int × (List AV))) := (bif decide (t5 < (h0.length : Int)) then (bif (decide (0 ≤ t5) && decide (t5 < (h0.length : Int))) then .next (IntKind.i64.wrap (t1 + 1), IntKind.i64.wrap (t5 + 1), h0.set t5.toNat (AV.agg [AV.int .i64 t1]))
   else .fail)
  else .stop (t1, h0))
def R25_0 : ((Int × Int × (List AV))) → Out ((Int × Int × (List AV))) ((Int × (List AV))) := fun s : Int × Int × (List AV) => F25_0 s.1 s.2.1 s.2.2
def l25_0 : LModel := fun _ _ st k => match st with
  | ⟨[(0, .own g0), (1, .int .i64 t1), (5, .int .i64 t5)], [(g1, ⟨false, g2, h0⟩)]⟩ => bif nmEq g0 ([1]) && nmEq g1 ([1]) && ctsEq g2 ([.int .i64]) then ro (runW (R25_0) (((h0.length : Int) - t5).toNat + 1) (t1, t5, h0)) none (fun p : Int × (List AV) => k (.exit 0) ⟨[(1, AV.int .i64 p.1)], [([1], ⟨false, [.int .i64], p.2⟩)]⟩) else none
  | _ => none
noncomputable def c25 : Cfg := cfg Try.prog [(25, 0, [0, 1, 5]), (25, 999, [4]), (25, 1000, [1]), (25, 1001, [0, 1, 5])] [] [] [] [(25, 0, l25_0)]
theorem s25_0 (ce : CallE) (t1 : Int) (t5 : Int) (h0 : List AV) (next : St → Option AV) (k : Kont) : stepA (codeA c25 ce [0] 25 0 (sub [1, 0, 1, 0, 0] (body Try.f25))) (normA [0] [0, 1, 5]) next ⟨[(0, AV.own [1]), (1, AV.int .i64 t1), (5, AV.int .i64 t5)], [([1], ⟨false, [.int .i64], h0⟩)]⟩ k = (bif decide (t5 < (h0.length : Int)) then (bif (decide (0 ≤ t5) && decide (t5 < (h0.length : Int))) then next ⟨[(0, AV.own [1]), (1, AV.int .i64 (IntKind.i64.wrap (t1 + 1))), (5, AV.int .i64 (IntKind.i64.wrap (t5 + 1)))], [([1], ⟨false, [.int .i64], h0.set t5.toNat (AV.agg [AV.int .i64 t1])⟩)]⟩
   else none)
  else k (.exit 0) ⟨[(1, AV.int .i64 t1)], [([1], ⟨false, [.int .i64], h0⟩)]⟩) := by kernel_rfl
theorem st25_0 (ce : CallE) (k : Kont) (s : (Int × Int × (List AV))) (next : St → Option AV) : stepA (codeA c25 ce [0] 25 0 (sub [1, 0, 1, 0, 0] (body Try.f25))) (normA [0] [0, 1, 5]) next ((fun s : Int × Int × (List AV) => ⟨[(0, AV.own [1]), (1, AV.int .i64 s.1), (5, AV.int .i64 s.2.1)], [([1], ⟨false, [.int .i64], s.2.2⟩)]⟩) s) k = (R25_0 s).el none (fun s => next ((fun s : Int × Int × (List AV) => ⟨[(0, AV.own [1]), (1, AV.int .i64 s.1), (5, AV.int .i64 s.2.1)], [([1], ⟨false, [.int .i64], s.2.2⟩)]⟩) s)) (fun p : Int × (List AV) => k (.exit 0) ⟨[(1, AV.int .i64 p.1)], [([1], ⟨false, [.int .i64], p.2⟩)]⟩) := (s25_0 ce s.1 s.2.1 s.2.2 next k).trans (by unfold R25_0; unfold F25_0; simp only [el_cond, el_ro, el_sum, el_fail, el_next, el_stop] <;> rfl)
theorem ok25_0 : LoopOK c25 [0] 25 0 (sub [1, 0, 1, 0, 0] (body Try.f25)) := by
  intro m hm ce st k r h
  obtain rfl : l25_0 = m := Option.some.inj hm
  unfold l25_0 at h
  split at h
  · rename_i g0 t1 t5 g1 g2 h0
    obtain ⟨hg, h⟩ := bif_some h
    simp only [Bool.and_eq_true] at hg
    obtain ⟨⟨q0, q1⟩, q2⟩ := hg
    obtain rfl := (nmEq_iff _ _).1 q0
    obtain rfl := (nmEq_iff _ _).1 q1
    obtain rfl := ctsEq_eq _ _ q2
    refine ⟨(((h0.length : Int) - t5).toNat + 1), ?_⟩
    rw [← h]
    exact loop_run (fun s : Int × Int × (List AV) => ⟨[(0, AV.own [1]), (1, AV.int .i64 s.1), (5, AV.int .i64 s.2.1)], [([1], ⟨false, [.int .i64], s.2.2⟩)]⟩) (fun p : Int × (List AV) => k (.exit 0) ⟨[(1, AV.int .i64 p.1)], [([1], ⟨false, [.int .i64], p.2⟩)]⟩) (st25_0 ce k) _ (t1, t5, h0)
  · cases h
def q25 (a1 : Int) (b0 : List AV) : Bool := (ro (runW (R25_0) (((b0.length : Int) - 0).toNat + 1) (a1, 0, b0)) false (fun p21 => true))
def v25_0 (a1 : Int) (b0 : List AV) : Int := (ro (runW (R25_0) (((b0.length : Int) - 0).toNat + 1) (a1, 0, b0)) 0 (fun p21 => p21.1))
def v25_1 (a1 : Int) (b0 : List AV) : List AV := (ro (runW (R25_0) (((b0.length : Int) - 0).toNat + 1) (a1, 0, b0)) [] (fun p21 => p21.2))
theorem e25 (a1 : Int) (b0 : List AV) (K : AV → List Blk → Option AV) : inlA c25 1 25 [AV.own [1], AV.int .i64 a1] [0] (canH 1 [⟨false, [.int .i64], b0⟩]) (keepB 1 K) = (ro (runW (R25_0) (((b0.length : Int) - 0).toNat + 1) (a1, 0, b0)) none (fun p21 => K (AV.int .i64 p21.1) [⟨false, [.int .i64], p21.2⟩])) := by kernel_rfl
theorem r25 (a1 : Int) (b0 : List AV) (K : AV → List Blk → Option AV) (h : q25 a1 b0 = true) : inlA c25 1 25 [AV.own [1], AV.int .i64 a1] [0] (canH 1 [⟨false, [.int .i64], b0⟩]) (keepB 1 K) = K (AV.int .i64 (v25_0 a1 b0)) [⟨false, [.int .i64], (v25_1 a1 b0)⟩] := (e25 a1 b0 K).trans ((brO (fun o : Option ((Int × (List AV))) => K (AV.int .i64 (ro o 0 (fun p21 => p21.1))) [⟨false, [.int .i64], (ro o [] (fun p21 => p21.2))⟩]) (fun p21 => (fun _ => rfl))) h)
def m25 : WModel
  | [.own g0, .int .i64 a1], [⟨false, g1, b0⟩] => bif nmEq g0 ([1]) && ctsEq g1 ([.int .i64]) then some (q25 a1 b0, AV.int .i64 (v25_0 a1 b0), [⟨false, [.int .i64], (v25_1 a1 b0)⟩]) else none
  | _, _ => none
theorem k25 : Known Try.prog 25 := ⟨Try.f25, Try.func25, by kernel_rfl, by kernel_rfl⟩
theorem meets25 : MeetsM Try.prog 25 m25 := by
  refine meetM (f := Try.f25) (l := [(0, sub [1, 0, 1, 0, 0] (body Try.f25))]) (hs := [(25, 0, [0, 1, 5]), (25, 999, [4]), (25, 1000, [1]), (25, 1001, [0, 1, 5])]) (ts := []) (ws := []) (is := []) (ls := [(25, 0, l25_0)]) (lvl := 0) mixed k25 Try.func25 (by kernel_rfl) (loops_cons ok25_0 noLoop) allT_nil allM_nil noI fun C w xs us bs r bs' hl hv hh h K => ?_
  unfold m25 at h
  split at h
  · rename_i g0 a1 g1 b0
    obtain ⟨hg, h⟩ := bif_pair h
    simp only [Bool.and_eq_true] at hg
    obtain ⟨q0, q1⟩ := hg
    obtain rfl := (nmEq_iff _ _).1 q0
    obtain rfl := ctsEq_eq _ _ q1
    obtain ⟨h1, rfl, rfl⟩ := trip_inj h
    exact r25 a1 b0 K h1
  · cases h

/-! ### 29 loop.example/g01984/laws.markRangeS -/
def F29_0 (t1 : Int) (t5 : Int) (h0 : List AV) : Out ((Int × Int × (List AV))) ((Int × (List AV))) := (bif decide (t5 < (h0.length : Int)) then (bif (decide (0 ≤ t5) && decide (t5 < (h0.length : Int))) then (bif (decide (0 ≤ t5) && decide (t5 < ((h0.set t5.toNat (AV.agg [AV.int .i64 t1, AV.int .i64 (fI (h0.getD t5.toNat AV.undef) 1)])).length : Int))) then .next (IntKind.i64.wrap (IntKind.i64.wrap (t1 + 1) + 1), IntKind.i64.wrap (t5 + 1), (h0.set t5.toNat (AV.agg [AV.int .i64 t1, AV.int .i64 (fI (h0.getD t5.toNat AV.undef) 1)])).set t5.toNat (AV.agg [AV.int .i64 (fI ((h0.set t5.toNat (AV.agg [AV.int .i64 t1, AV.int .i64 (fI (h0.getD t5.toNat AV.undef) 1)])).getD t5.toNat AV.undef) 0), AV.int .i64 (IntKind.i64.wrap (t1 + 1))]))
    else .fail)
   else .fail)
  else .stop (t1, h0))
def R29_0 : ((Int × Int × (List AV))) → Out ((Int × Int × (List AV))) ((Int × (List AV))) := fun s : Int × Int × (List AV) => F29_0 s.1 s.2.1 s.2.2
def l29_0 : LModel := fun _ _ st k => match st with
  | ⟨[(0, .own g0), (1, .int .i64 t1), (5, .int .i64 t5)], [(g1, ⟨false, g2, h0⟩)]⟩ => bif nmEq g0 ([1]) && nmEq g1 ([1]) && ctsEq g2 ([.int .i64, .int .i64]) then ro (runW (R29_0) (((h0.length : Int) - t5).toNat + 1) (t1, t5, h0)) none (fun p : Int × (List AV) => k (.exit 0) ⟨[(1, AV.int .i64 p.1)], [([1], ⟨false, [.int .i64, .int .i64], p.2⟩)]⟩) else none
  | _ => none
noncomputable def c29 : Cfg := cfg Try.prog [(29, 0, [0, 1, 5]), (29, 999, [4]), (29, 1000, [1]), (29, 1001, [0, 1, 5])] [] [] [] [(29, 0, l29_0)]
theorem s29_0 (ce : CallE) (t1 : Int) (t5 : Int) (h0 : List AV) (next : St → Option AV) (k : Kont) : stepA (codeA c29 ce [0] 29 0 (sub [1, 0, 1, 0, 0] (body Try.f29))) (normA [0] [0, 1, 5]) next ⟨[(0, AV.own [1]), (1, AV.int .i64 t1), (5, AV.int .i64 t5)], [([1], ⟨false, [.int .i64, .int .i64], h0⟩)]⟩ k = (bif decide (t5 < (h0.length : Int)) then (bif (decide (0 ≤ t5) && decide (t5 < (h0.length : Int))) then (bif (decide (0 ≤ t5) && decide (t5 < ((h0.set t5.toNat (AV.agg [AV.int .i64 t1, AV.int .i64 (fI (h0.getD t5.toNat AV.undef) 1)])).length : Int))) then next ⟨[(0, AV.own [1]), (1, AV.int .i64 (IntKind.i64.wrap (IntKind.i64.wrap (t1 + 1) + 1))), (5, AV.int .i64 (IntKind.i64.wrap (t5 + 1)))], [([1], ⟨false, [.int .i64, .int .i64], (h0.set t5.toNat (AV.agg [AV.int .i64 t1, AV.int .i64 (fI (h0.getD t5.toNat AV.undef) 1)])).set t5.toNat (AV.agg [AV.int .i64 (fI ((h0.set t5.toNat (AV.agg [AV.int .i64 t1, AV.int .i64 (fI (h0.getD t5.toNat AV.undef) 1)])).getD t5.toNat AV.undef) 0), AV.int .i64 (IntKind.i64.wrap (t1 + 1))])⟩)]⟩
    else none)
   else none)
  else k (.exit 0) ⟨[(1, AV.int .i64 t1)], [([1], ⟨false, [.int .i64, .int .i64], h0⟩)]⟩) := by kernel_rfl
theorem st29_0 (ce : CallE) (k : Kont) (s : (Int × Int × (List AV))) (next : St → Option AV) : stepA (codeA c29 ce [0] 29 0 (sub [1, 0, 1, 0, 0] (body Try.f29))) (normA [0] [0, 1, 5]) next ((fun s : Int × Int × (List AV) => ⟨[(0, AV.own [1]), (1, AV.int .i64 s.1), (5, AV.int .i64 s.2.1)], [([1], ⟨false, [.int .i64, .int .i64], s.2.2⟩)]⟩) s) k = (R29_0 s).el none (fun s => next ((fun s : Int × Int × (List AV) => ⟨[(0, AV.own [1]), (1, AV.int .i64 s.1), (5, AV.int .i64 s.2.1)], [([1], ⟨false, [.int .i64, .int .i64], s.2.2⟩)]⟩) s)) (fun p : Int × (List AV) => k (.exit 0) ⟨[(1, AV.int .i64 p.1)], [([1], ⟨false, [.int .i64, .int .i64], p.2⟩)]⟩) := (s29_0 ce s.1 s.2.1 s.2.2 next k).trans (by unfold R29_0; unfold F29_0; simp only [el_cond, el_ro, el_sum, el_fail, el_next, el_stop] <;> rfl)
theorem ok29_0 : LoopOK c29 [0] 29 0 (sub [1, 0, 1, 0, 0] (body Try.f29)) := by
  intro m hm ce st k r h
  obtain rfl : l29_0 = m := Option.some.inj hm
  unfold l29_0 at h
  split at h
  · rename_i g0 t1 t5 g1 g2 h0
    obtain ⟨hg, h⟩ := bif_some h
    simp only [Bool.and_eq_true] at hg
    obtain ⟨⟨q0, q1⟩, q2⟩ := hg
    obtain rfl := (nmEq_iff _ _).1 q0
    obtain rfl := (nmEq_iff _ _).1 q1
    obtain rfl := ctsEq_eq _ _ q2
    refine ⟨(((h0.length : Int) - t5).toNat + 1), ?_⟩
    rw [← h]
    exact loop_run (fun s : Int × Int × (List AV) => ⟨[(0, AV.own [1]), (1, AV.int .i64 s.1), (5, AV.int .i64 s.2.1)], [([1], ⟨false, [.int .i64, .int .i64], s.2.2⟩)]⟩) (fun p : Int × (List AV) => k (.exit 0) ⟨[(1, AV.int .i64 p.1)], [([1], ⟨false, [.int .i64, .int .i64], p.2⟩)]⟩) (st29_0 ce k) _ (t1, t5, h0)
  · cases h
def q29 (a1 : Int) (b0 : List AV) : Bool := (ro (runW (R29_0) (((b0.length : Int) - 0).toNat + 1) (a1, 0, b0)) false (fun p22 => true))
def v29_0 (a1 : Int) (b0 : List AV) : Int := (ro (runW (R29_0) (((b0.length : Int) - 0).toNat + 1) (a1, 0, b0)) 0 (fun p22 => p22.1))
def v29_1 (a1 : Int) (b0 : List AV) : List AV := (ro (runW (R29_0) (((b0.length : Int) - 0).toNat + 1) (a1, 0, b0)) [] (fun p22 => p22.2))
theorem e29 (a1 : Int) (b0 : List AV) (K : AV → List Blk → Option AV) : inlA c29 1 29 [AV.own [1], AV.int .i64 a1] [0] (canH 1 [⟨false, [.int .i64, .int .i64], b0⟩]) (keepB 1 K) = (ro (runW (R29_0) (((b0.length : Int) - 0).toNat + 1) (a1, 0, b0)) none (fun p22 => K (AV.int .i64 p22.1) [⟨false, [.int .i64, .int .i64], p22.2⟩])) := by kernel_rfl
theorem r29 (a1 : Int) (b0 : List AV) (K : AV → List Blk → Option AV) (h : q29 a1 b0 = true) : inlA c29 1 29 [AV.own [1], AV.int .i64 a1] [0] (canH 1 [⟨false, [.int .i64, .int .i64], b0⟩]) (keepB 1 K) = K (AV.int .i64 (v29_0 a1 b0)) [⟨false, [.int .i64, .int .i64], (v29_1 a1 b0)⟩] := (e29 a1 b0 K).trans ((brO (fun o : Option ((Int × (List AV))) => K (AV.int .i64 (ro o 0 (fun p22 => p22.1))) [⟨false, [.int .i64, .int .i64], (ro o [] (fun p22 => p22.2))⟩]) (fun p22 => (fun _ => rfl))) h)
def m29 : WModel
  | [.own g0, .int .i64 a1], [⟨false, g1, b0⟩] => bif nmEq g0 ([1]) && ctsEq g1 ([.int .i64, .int .i64]) then some (q29 a1 b0, AV.int .i64 (v29_0 a1 b0), [⟨false, [.int .i64, .int .i64], (v29_1 a1 b0)⟩]) else none
  | _, _ => none
theorem k29 : Known Try.prog 29 := ⟨Try.f29, Try.func29, by kernel_rfl, by kernel_rfl⟩
theorem meets29 : MeetsM Try.prog 29 m29 := by
  refine meetM (f := Try.f29) (l := [(0, sub [1, 0, 1, 0, 0] (body Try.f29))]) (hs := [(29, 0, [0, 1, 5]), (29, 999, [4]), (29, 1000, [1]), (29, 1001, [0, 1, 5])]) (ts := []) (ws := []) (is := []) (ls := [(29, 0, l29_0)]) (lvl := 0) mixed k29 Try.func29 (by kernel_rfl) (loops_cons ok29_0 noLoop) allT_nil allM_nil noI fun C w xs us bs r bs' hl hv hh h K => ?_
  unfold m29 at h
  split at h
  · rename_i g0 a1 g1 b0
    obtain ⟨hg, h⟩ := bif_pair h
    simp only [Bool.and_eq_true] at hg
    obtain ⟨q0, q1⟩ := hg
    obtain rfl := (nmEq_iff _ _).1 q0
    obtain rfl := ctsEq_eq _ _ q1
    obtain ⟨h1, rfl, rfl⟩ := trip_inj h
    exact r29 a1 b0 K h1
  · cases h

/-! ### 26 loop.example/g01984/laws.heldIntS -/
def F26_0 (t0 : List AV) (t1 : Int) (t5 : Int) : Out ((Int × Int)) (Int ⊕ Unit) := (bif decide (t5 < (t0.length : Int)) then (bif (decide (0 ≤ t5) && decide (t5 < (t0.length : Int))) then (bif !decide (fI (t0.getD t5.toNat AV.undef) 0 = t1) then .stop (.inr ())
    else .next (IntKind.i64.wrap (t1 + 1), IntKind.i64.wrap (t5 + 1)))
   else .fail)
  else .stop (.inl t1))
def R26_0 (t0 : List AV) : ((Int × Int)) → Out ((Int × Int)) (Int ⊕ Unit) := fun s : Int × Int => F26_0 t0 s.1 s.2
def l26_0 : LModel := fun _ _ st k => match st with
  | ⟨[(0, .sl g0 t0), (1, .int .i64 t1), (5, .int .i64 t5)], []⟩ => bif ctsEq g0 ([.int .i64]) then ro (runW (R26_0 t0) (((t0.length : Int) - t5).toNat + 1) (t1, t5)) none (sumE (fun p : Int => k (.exit 0) ⟨[(1, AV.int .i64 p)], []⟩) (fun _ : Unit => k .ret ⟨[(4, AV.int .i64 (-1))], []⟩)) else none
  | _ => none
noncomputable def c26 : Cfg := cfg Try.prog [(26, 0, [0, 1, 5]), (26, 999, [4]), (26, 1000, [1]), (26, 1001, [0, 1, 5])] [] [] [] [(26, 0, l26_0)]
theorem s26_0 (ce : CallE) (t0 : List AV) (t1 : Int) (t5 : Int) (next : St → Option AV) (k : Kont) : stepA (codeA c26 ce [] 26 0 (sub [1, 0, 1, 0, 0] (body Try.f26))) (normA [] [0, 1, 5]) next ⟨[(0, AV.sl [.int .i64] t0), (1, AV.int .i64 t1), (5, AV.int .i64 t5)], []⟩ k = (bif decide (t5 < (t0.length : Int)) then (bif (decide (0 ≤ t5) && decide (t5 < (t0.length : Int))) then (bif !decide (fI (t0.getD t5.toNat AV.undef) 0 = t1) then k .ret ⟨[(4, AV.int .i64 (-1))], []⟩
    else next ⟨[(0, AV.sl [.int .i64] t0), (1, AV.int .i64 (IntKind.i64.wrap (t1 + 1))), (5, AV.int .i64 (IntKind.i64.wrap (t5 + 1)))], []⟩)
   else none)
  else k (.exit 0) ⟨[(1, AV.int .i64 t1)], []⟩) := by kernel_rfl
theorem st26_0 (t0 : List AV) (ce : CallE) (k : Kont) (s : (Int × Int)) (next : St → Option AV) : stepA (codeA c26 ce [] 26 0 (sub [1, 0, 1, 0, 0] (body Try.f26))) (normA [] [0, 1, 5]) next ((fun s : Int × Int => ⟨[(0, AV.sl [.int .i64] t0), (1, AV.int .i64 s.1), (5, AV.int .i64 s.2)], []⟩) s) k = (R26_0 t0 s).el none (fun s => next ((fun s : Int × Int => ⟨[(0, AV.sl [.int .i64] t0), (1, AV.int .i64 s.1), (5, AV.int .i64 s.2)], []⟩) s)) (sumE (fun p : Int => k (.exit 0) ⟨[(1, AV.int .i64 p)], []⟩) (fun _ : Unit => k .ret ⟨[(4, AV.int .i64 (-1))], []⟩)) := (s26_0 ce t0 s.1 s.2 next k).trans (by unfold R26_0; unfold F26_0; simp only [el_cond, el_ro, el_sum, el_fail, el_next, el_stop] <;> rfl)
theorem ok26_0 : LoopOK c26 [] 26 0 (sub [1, 0, 1, 0, 0] (body Try.f26)) := by
  intro m hm ce st k r h
  obtain rfl : l26_0 = m := Option.some.inj hm
  unfold l26_0 at h
  split at h
  · rename_i g0 t0 t1 t5
    obtain ⟨hg, h⟩ := bif_some h
    have q0 := hg
    obtain rfl := ctsEq_eq _ _ q0
    refine ⟨(((t0.length : Int) - t5).toNat + 1), ?_⟩
    rw [← h]
    exact loop_run (fun s : Int × Int => ⟨[(0, AV.sl [.int .i64] t0), (1, AV.int .i64 s.1), (5, AV.int .i64 s.2)], []⟩) (sumE (fun p : Int => k (.exit 0) ⟨[(1, AV.int .i64 p)], []⟩) (fun _ : Unit => k .ret ⟨[(4, AV.int .i64 (-1))], []⟩)) (st26_0 t0 ce k) _ (t1, t5)
  · cases h
def q26 (a0 : List AV) (a1 : Int) : Bool := (ro (runW (R26_0 a0) (((a0.length : Int) - 0).toNat + 1) (a1, 0)) false (sumE (fun p23 => true) (fun _ => true)))
def v26_0 (a0 : List AV) (a1 : Int) : Int := (ro (runW (R26_0 a0) (((a0.length : Int) - 0).toNat + 1) (a1, 0)) 0 (sumE (fun p23 => p23) (fun _ => (-1))))
theorem e26 (a0 : List AV) (a1 : Int) : funA c26 0 26 [AV.sl [.int .i64] a0, AV.int .i64 a1] = (ro (runW (R26_0 a0) (((a0.length : Int) - 0).toNat + 1) (a1, 0)) none (sumE (fun p23 => some (AV.int .i64 p23)) (fun _ => some (AV.int .i64 (-1))))) := by kernel_rfl
theorem r26 (a0 : List AV) (a1 : Int) (h : q26 a0 a1 = true) : funA c26 0 26 [AV.sl [.int .i64] a0, AV.int .i64 a1] = some (AV.int .i64 (v26_0 a0 a1)) := (e26 a0 a1).trans ((brO (fun o : Option (Int ⊕ Unit) => some (AV.int .i64 (ro o 0 (sumE (fun p23 => p23) (fun _ => (-1)))))) (brS (fun o : Int ⊕ Unit => some (AV.int .i64 ((sumE (fun p23 => p23) (fun _ => (-1))) o))) (fun p23 => (fun _ => rfl)) (fun _ => (fun _ => rfl)))) h)
def m26 : TModel
  | [.sl g0 a0, .int .i64 a1] => bif ctsEq g0 ([.int .i64]) then some (q26 a0 a1, AV.int .i64 (v26_0 a0 a1)) else none
  | _ => none
theorem k26 : Known Try.prog 26 := ⟨Try.f26, Try.func26, by kernel_rfl, by kernel_rfl⟩
theorem meets26 : Meets Try.prog 26 m26 := by
  refine meet (f := Try.f26) (l := [(0, sub [1, 0, 1, 0, 0] (body Try.f26))]) (hs := [(26, 0, [0, 1, 5]), (26, 999, [4]), (26, 1000, [1]), (26, 1001, [0, 1, 5])]) (ts := []) (ws := []) (is := []) (ls := [(26, 0, l26_0)]) (lvl := 0) mixed k26 Try.func26 (by kernel_rfl) (loops_cons ok26_0 noLoop) allT_nil allM_nil noI fun w xs us r hl hv h => ?_
  unfold m26 at h
  split at h
  · rename_i g0 a0 a1
    obtain ⟨hg, h⟩ := bif_pair h
    have q0 := hg
    obtain rfl := ctsEq_eq _ _ q0
    obtain ⟨h1, rfl⟩ := pair_inj h
    exact r26 a0 a1 h1
  · cases h

/-! ### 8 loop.example/g01984/laws.FnExactColdRows -/
noncomputable def c8 : Cfg := cfg Try.prog [(8, 999, [4])] [(13, m13), (15, m15), (17, m17), (22, m22), (26, m26), (34, m34), (36, m36), (37, m37)] [(25, m25), (29, m29)] [] []
def q8 (a0 : List AV) (a1 : List AV) : Bool := (bif decide ((a0.length : Int) > 1048576) then true else (bif decide ((v13_0 a1 1048576) < 0) then true else (q34 a0 && (q15 a1 && (q36 (v34_0 a0) (v15_0 a1) && (q34 a0 && (q15 a1 && (q37 (v34_0 a0) (v15_0 a1) && (q22 (v37_0 (v34_0 a0) (v15_0 a1)) (v36_0 (v34_0 a0) (v15_0 a1)) && (bif !(v22_0 (v37_0 (v34_0 a0) (v15_0 a1)) (v36_0 (v34_0 a0) (v15_0 a1))) then true else (q34 a0 && (q22 (v34_0 a0) (v34_0 a0) && (bif !(v22_0 (v34_0 a0) (v34_0 a0)) then true else (q15 a1 && (q17 (v15_0 a1) (v15_0 a1) && (bif !(v17_0 (v15_0 a1) (v15_0 a1)) then true else (q25 1 (v34_0 a0) && (q29 (v25_0 1 (v34_0 a0)) (v15_0 a1) && (bif decide ((v29_0 (v25_0 1 (v34_0 a0)) (v15_0 a1)) < 0) then true else (q22 (v37_0 (v34_0 a0) (v15_0 a1)) (v36_0 (v34_0 a0) (v15_0 a1)) && (bif !(v22_0 (v37_0 (v34_0 a0) (v15_0 a1)) (v36_0 (v34_0 a0) (v15_0 a1))) then true else (q25 1 (v37_0 (v34_0 a0) (v15_0 a1)) && (q26 (v25_1 1 (v37_0 (v34_0 a0) (v15_0 a1))) 1 && (bif decide ((v26_0 (v25_1 1 (v37_0 (v34_0 a0) (v15_0 a1))) 1) < 0) then true else (bif !decide ((v26_0 (v25_1 1 (v37_0 (v34_0 a0) (v15_0 a1))) 1) = (v25_0 1 (v37_0 (v34_0 a0) (v15_0 a1)))) then true else (q34 a0 && (q15 a1 && (q37 (v34_0 a0) (v15_0 a1) && (q22 (v37_0 (v34_0 a0) (v15_0 a1)) (v36_0 (v34_0 a0) (v15_0 a1)) && (bif !(v22_0 (v37_0 (v34_0 a0) (v15_0 a1)) (v36_0 (v34_0 a0) (v15_0 a1))) then true else q26 (v25_1 1 (v37_0 (v34_0 a0) (v15_0 a1))) 1))))))))))))))))))))))))))))))
def v8_0 (a0 : List AV) (a1 : List AV) : Bool := (bif decide ((a0.length : Int) > 1048576) then true else (bif decide ((v13_0 a1 1048576) < 0) then true else (bif !(v22_0 (v37_0 (v34_0 a0) (v15_0 a1)) (v36_0 (v34_0 a0) (v15_0 a1))) then false else (bif !(v22_0 (v34_0 a0) (v34_0 a0)) then false else (bif !(v17_0 (v15_0 a1) (v15_0 a1)) then false else (bif decide ((v29_0 (v25_0 1 (v34_0 a0)) (v15_0 a1)) < 0) then false else (bif !(v22_0 (v37_0 (v34_0 a0) (v15_0 a1)) (v36_0 (v34_0 a0) (v15_0 a1))) then false else (bif decide ((v26_0 (v25_1 1 (v37_0 (v34_0 a0) (v15_0 a1))) 1) < 0) then false else (bif !decide ((v26_0 (v25_1 1 (v37_0 (v34_0 a0) (v15_0 a1))) 1) = (v25_0 1 (v37_0 (v34_0 a0) (v15_0 a1)))) then false else (bif !(v22_0 (v37_0 (v34_0 a0) (v15_0 a1)) (v36_0 (v34_0 a0) (v15_0 a1))) then false else (bif decide ((v26_0 (v25_1 1 (v37_0 (v34_0 a0) (v15_0 a1))) 1) < 0) then false else (bif !decide ((v26_0 (v25_1 1 (v37_0 (v34_0 a0) (v15_0 a1))) 1) = (v25_0 1 (v37_0 (v34_0 a0) (v15_0 a1)))) then false else true))))))))))))
theorem e8 (a0 : List AV) (a1 : List AV) : funA c8 0 8 [AV.sl [.int .i64] a0, AV.sl [.int .i64, .int .i64] a1] = (bif decide ((a0.length : Int) > 1048576) then some (AV.bool true)
  else (bif decide ((v13_0 a1 1048576) < 0) then some (AV.bool true)
   else (bif q34 a0 then (bif q15 a1 then (bif q36 (v34_0 a0) (v15_0 a1) then (bif q34 a0 then (bif q15 a1 then (bif q37 (v34_0 a0) (v15_0 a1) then (bif q22 (v37_0 (v34_0 a0) (v15_0 a1)) (v36_0 (v34_0 a0) (v15_0 a1)) then (bif !(v22_0 (v37_0 (v34_0 a0) (v15_0 a1)) (v36_0 (v34_0 a0) (v15_0 a1))) then some (AV.bool false)
           else (bif q34 a0 then (bif q22 (v34_0 a0) (v34_0 a0) then (bif !(v22_0 (v34_0 a0) (v34_0 a0)) then some (AV.bool false)
              else (bif q15 a1 then (bif q17 (v15_0 a1) (v15_0 a1) then (bif !(v17_0 (v15_0 a1) (v15_0 a1)) then some (AV.bool false)
                 else (bif q25 1 (v34_0 a0) then (bif q29 (v25_0 1 (v34_0 a0)) (v15_0 a1) then (bif decide ((v29_0 (v25_0 1 (v34_0 a0)) (v15_0 a1)) < 0) then some (AV.bool false)
                    else (bif q22 (v37_0 (v34_0 a0) (v15_0 a1)) (v36_0 (v34_0 a0) (v15_0 a1)) then (bif !(v22_0 (v37_0 (v34_0 a0) (v15_0 a1)) (v36_0 (v34_0 a0) (v15_0 a1))) then some (AV.bool false)
                      else (bif q25 1 (v37_0 (v34_0 a0) (v15_0 a1)) then (bif q26 (v25_1 1 (v37_0 (v34_0 a0) (v15_0 a1))) 1 then (bif decide ((v26_0 (v25_1 1 (v37_0 (v34_0 a0) (v15_0 a1))) 1) < 0) then some (AV.bool false)
                         else (bif !decide ((v26_0 (v25_1 1 (v37_0 (v34_0 a0) (v15_0 a1))) 1) = (v25_0 1 (v37_0 (v34_0 a0) (v15_0 a1)))) then some (AV.bool false)
                          else (bif q34 a0 then (bif q15 a1 then (bif q37 (v34_0 a0) (v15_0 a1) then (bif q22 (v37_0 (v34_0 a0) (v15_0 a1)) (v36_0 (v34_0 a0) (v15_0 a1)) then (bif !(v22_0 (v37_0 (v34_0 a0) (v15_0 a1)) (v36_0 (v34_0 a0) (v15_0 a1))) then some (AV.bool false)
                               else (bif q26 (v25_1 1 (v37_0 (v34_0 a0) (v15_0 a1))) 1 then (bif decide ((v26_0 (v25_1 1 (v37_0 (v34_0 a0) (v15_0 a1))) 1) < 0) then some (AV.bool false)
                                 else (bif !decide ((v26_0 (v25_1 1 (v37_0 (v34_0 a0) (v15_0 a1))) 1) = (v25_0 1 (v37_0 (v34_0 a0) (v15_0 a1)))) then some (AV.bool false)
                                  else some (AV.bool true)))
                                else none))
                              else none)
                             else none)
                            else none)
                           else none)))
                        else none)
                       else none))
                     else none))
                   else none)
                  else none))
                else none)
               else none))
             else none)
            else none))
          else none)
         else none)
        else none)
       else none)
      else none)
     else none)
    else none))) := by kernel_rfl
theorem r8 (a0 : List AV) (a1 : List AV) (h : q8 a0 a1 = true) : funA c8 0 8 [AV.sl [.int .i64] a0, AV.sl [.int .i64, .int .i64] a1] = some (AV.bool (v8_0 a0 a1)) := (e8 a0 a1).trans ((br (fun b => some (AV.bool (bif b then true else (bif decide ((v13_0 a1 1048576) < 0) then true else (bif !(v22_0 (v37_0 (v34_0 a0) (v15_0 a1)) (v36_0 (v34_0 a0) (v15_0 a1))) then false else (bif !(v22_0 (v34_0 a0) (v34_0 a0)) then false else (bif !(v17_0 (v15_0 a1) (v15_0 a1)) then false else (bif decide ((v29_0 (v25_0 1 (v34_0 a0)) (v15_0 a1)) < 0) then false else (bif !(v22_0 (v37_0 (v34_0 a0) (v15_0 a1)) (v36_0 (v34_0 a0) (v15_0 a1))) then false else (bif decide ((v26_0 (v25_1 1 (v37_0 (v34_0 a0) (v15_0 a1))) 1) < 0) then false else (bif !decide ((v26_0 (v25_1 1 (v37_0 (v34_0 a0) (v15_0 a1))) 1) = (v25_0 1 (v37_0 (v34_0 a0) (v15_0 a1)))) then false else (bif !(v22_0 (v37_0 (v34_0 a0) (v15_0 a1)) (v36_0 (v34_0 a0) (v15_0 a1))) then false else (bif decide ((v26_0 (v25_1 1 (v37_0 (v34_0 a0) (v15_0 a1))) 1) < 0) then false else (bif !decide ((v26_0 (v25_1 1 (v37_0 (v34_0 a0) (v15_0 a1))) 1) = (v25_0 1 (v37_0 (v34_0 a0) (v15_0 a1)))) then false else true)))))))))))))) (fun _ => rfl) (br (fun b => some (AV.bool (bif b then true else (bif !(v22_0 (v37_0 (v34_0 a0) (v15_0 a1)) (v36_0 (v34_0 a0) (v15_0 a1))) then false else (bif !(v22_0 (v34_0 a0) (v34_0 a0)) then false else (bif !(v17_0 (v15_0 a1) (v15_0 a1)) then false else (bif decide ((v29_0 (v25_0 1 (v34_0 a0)) (v15_0 a1)) < 0) then false else (bif !(v22_0 (v37_0 (v34_0 a0) (v15_0 a1)) (v36_0 (v34_0 a0) (v15_0 a1))) then false else (bif decide ((v26_0 (v25_1 1 (v37_0 (v34_0 a0) (v15_0 a1))) 1) < 0) then false else (bif !decide ((v26_0 (v25_1 1 (v37_0 (v34_0 a0) (v15_0 a1))) 1) = (v25_0 1 (v37_0 (v34_0 a0) (v15_0 a1)))) then false else (bif !(v22_0 (v37_0 (v34_0 a0) (v15_0 a1)) (v36_0 (v34_0 a0) (v15_0 a1))) then false else (bif decide ((v26_0 (v25_1 1 (v37_0 (v34_0 a0) (v15_0 a1))) 1) < 0) then false else (bif !decide ((v26_0 (v25_1 1 (v37_0 (v34_0 a0) (v15_0 a1))) 1) = (v25_0 1 (v37_0 (v34_0 a0) (v15_0 a1)))) then false else true))))))))))))) (fun _ => rfl) (brL (brL (brL (brL (brL (brL (brL (br (fun b => some (AV.bool (bif b then false else (bif !(v22_0 (v34_0 a0) (v34_0 a0)) then false else (bif !(v17_0 (v15_0 a1) (v15_0 a1)) then false else (bif decide ((v29_0 (v25_0 1 (v34_0 a0)) (v15_0 a1)) < 0) then false else (bif !(v22_0 (v37_0 (v34_0 a0) (v15_0 a1)) (v36_0 (v34_0 a0) (v15_0 a1))) then false else (bif decide ((v26_0 (v25_1 1 (v37_0 (v34_0 a0) (v15_0 a1))) 1) < 0) then false else (bif !decide ((v26_0 (v25_1 1 (v37_0 (v34_0 a0) (v15_0 a1))) 1) = (v25_0 1 (v37_0 (v34_0 a0) (v15_0 a1)))) then false else (bif !(v22_0 (v37_0 (v34_0 a0) (v15_0 a1)) (v36_0 (v34_0 a0) (v15_0 a1))) then false else (bif decide ((v26_0 (v25_1 1 (v37_0 (v34_0 a0) (v15_0 a1))) 1) < 0) then false else (bif !decide ((v26_0 (v25_1 1 (v37_0 (v34_0 a0) (v15_0 a1))) 1) = (v25_0 1 (v37_0 (v34_0 a0) (v15_0 a1)))) then false else true)))))))))))) (fun _ => rfl) (brL (brL (br (fun b => some (AV.bool (bif b then false else (bif !(v17_0 (v15_0 a1) (v15_0 a1)) then false else (bif decide ((v29_0 (v25_0 1 (v34_0 a0)) (v15_0 a1)) < 0) then false else (bif !(v22_0 (v37_0 (v34_0 a0) (v15_0 a1)) (v36_0 (v34_0 a0) (v15_0 a1))) then false else (bif decide ((v26_0 (v25_1 1 (v37_0 (v34_0 a0) (v15_0 a1))) 1) < 0) then false else (bif !decide ((v26_0 (v25_1 1 (v37_0 (v34_0 a0) (v15_0 a1))) 1) = (v25_0 1 (v37_0 (v34_0 a0) (v15_0 a1)))) then false else (bif !(v22_0 (v37_0 (v34_0 a0) (v15_0 a1)) (v36_0 (v34_0 a0) (v15_0 a1))) then false else (bif decide ((v26_0 (v25_1 1 (v37_0 (v34_0 a0) (v15_0 a1))) 1) < 0) then false else (bif !decide ((v26_0 (v25_1 1 (v37_0 (v34_0 a0) (v15_0 a1))) 1) = (v25_0 1 (v37_0 (v34_0 a0) (v15_0 a1)))) then false else true))))))))))) (fun _ => rfl) (brL (brL (br (fun b => some (AV.bool (bif b then false else (bif decide ((v29_0 (v25_0 1 (v34_0 a0)) (v15_0 a1)) < 0) then false else (bif !(v22_0 (v37_0 (v34_0 a0) (v15_0 a1)) (v36_0 (v34_0 a0) (v15_0 a1))) then false else (bif decide ((v26_0 (v25_1 1 (v37_0 (v34_0 a0) (v15_0 a1))) 1) < 0) then false else (bif !decide ((v26_0 (v25_1 1 (v37_0 (v34_0 a0) (v15_0 a1))) 1) = (v25_0 1 (v37_0 (v34_0 a0) (v15_0 a1)))) then false else (bif !(v22_0 (v37_0 (v34_0 a0) (v15_0 a1)) (v36_0 (v34_0 a0) (v15_0 a1))) then false else (bif decide ((v26_0 (v25_1 1 (v37_0 (v34_0 a0) (v15_0 a1))) 1) < 0) then false else (bif !decide ((v26_0 (v25_1 1 (v37_0 (v34_0 a0) (v15_0 a1))) 1) = (v25_0 1 (v37_0 (v34_0 a0) (v15_0 a1)))) then false else true)))))))))) (fun _ => rfl) (brL (brL (br (fun b => some (AV.bool (bif b then false else (bif !(v22_0 (v37_0 (v34_0 a0) (v15_0 a1)) (v36_0 (v34_0 a0) (v15_0 a1))) then false else (bif decide ((v26_0 (v25_1 1 (v37_0 (v34_0 a0) (v15_0 a1))) 1) < 0) then false else (bif !decide ((v26_0 (v25_1 1 (v37_0 (v34_0 a0) (v15_0 a1))) 1) = (v25_0 1 (v37_0 (v34_0 a0) (v15_0 a1)))) then false else (bif !(v22_0 (v37_0 (v34_0 a0) (v15_0 a1)) (v36_0 (v34_0 a0) (v15_0 a1))) then false else (bif decide ((v26_0 (v25_1 1 (v37_0 (v34_0 a0) (v15_0 a1))) 1) < 0) then false else (bif !decide ((v26_0 (v25_1 1 (v37_0 (v34_0 a0) (v15_0 a1))) 1) = (v25_0 1 (v37_0 (v34_0 a0) (v15_0 a1)))) then false else true))))))))) (fun _ => rfl) (brL (br (fun b => some (AV.bool (bif b then false else (bif decide ((v26_0 (v25_1 1 (v37_0 (v34_0 a0) (v15_0 a1))) 1) < 0) then false else (bif !decide ((v26_0 (v25_1 1 (v37_0 (v34_0 a0) (v15_0 a1))) 1) = (v25_0 1 (v37_0 (v34_0 a0) (v15_0 a1)))) then false else (bif !(v22_0 (v37_0 (v34_0 a0) (v15_0 a1)) (v36_0 (v34_0 a0) (v15_0 a1))) then false else (bif decide ((v26_0 (v25_1 1 (v37_0 (v34_0 a0) (v15_0 a1))) 1) < 0) then false else (bif !decide ((v26_0 (v25_1 1 (v37_0 (v34_0 a0) (v15_0 a1))) 1) = (v25_0 1 (v37_0 (v34_0 a0) (v15_0 a1)))) then false else true)))))))) (fun _ => rfl) (brL (brL (br (fun b => some (AV.bool (bif b then false else (bif !decide ((v26_0 (v25_1 1 (v37_0 (v34_0 a0) (v15_0 a1))) 1) = (v25_0 1 (v37_0 (v34_0 a0) (v15_0 a1)))) then false else (bif !(v22_0 (v37_0 (v34_0 a0) (v15_0 a1)) (v36_0 (v34_0 a0) (v15_0 a1))) then false else (bif decide ((v26_0 (v25_1 1 (v37_0 (v34_0 a0) (v15_0 a1))) 1) < 0) then false else (bif !decide ((v26_0 (v25_1 1 (v37_0 (v34_0 a0) (v15_0 a1))) 1) = (v25_0 1 (v37_0 (v34_0 a0) (v15_0 a1)))) then false else true))))))) (fun _ => rfl) (br (fun b => some (AV.bool (bif b then false else (bif !(v22_0 (v37_0 (v34_0 a0) (v15_0 a1)) (v36_0 (v34_0 a0) (v15_0 a1))) then false else (bif decide ((v26_0 (v25_1 1 (v37_0 (v34_0 a0) (v15_0 a1))) 1) < 0) then false else (bif !decide ((v26_0 (v25_1 1 (v37_0 (v34_0 a0) (v15_0 a1))) 1) = (v25_0 1 (v37_0 (v34_0 a0) (v15_0 a1)))) then false else true)))))) (fun _ => rfl) (brL (brL (brL (brL (br (fun b => some (AV.bool (bif b then false else (bif decide ((v26_0 (v25_1 1 (v37_0 (v34_0 a0) (v15_0 a1))) 1) < 0) then false else (bif !decide ((v26_0 (v25_1 1 (v37_0 (v34_0 a0) (v15_0 a1))) 1) = (v25_0 1 (v37_0 (v34_0 a0) (v15_0 a1)))) then false else true))))) (fun _ => rfl) (brL1 (brT (fun b => some (AV.bool (bif b then false else (bif !decide ((v26_0 (v25_1 1 (v37_0 (v34_0 a0) (v15_0 a1))) 1) = (v25_0 1 (v37_0 (v34_0 a0) (v15_0 a1)))) then false else true)))) (fun _ => rfl) (brT (fun b => some (AV.bool (bif b then false else true))) (fun _ => rfl) (fun _ => rfl)))))))))))))))))))))))))))))))))) h)
def m8 : TModel
  | [.sl g0 a0, .sl g1 a1] => bif ctsEq g0 ([.int .i64]) && ctsEq g1 ([.int .i64, .int .i64]) then some (q8 a0 a1, AV.bool (v8_0 a0 a1)) else none
  | _ => none
theorem k8 : Known Try.prog 8 := ⟨Try.f8, Try.func8, by kernel_rfl, by kernel_rfl⟩
theorem meets8 : Meets Try.prog 8 m8 := by
  refine meet (f := Try.f8) (l := []) (hs := [(8, 999, [4])]) (ts := [(13, m13), (15, m15), (17, m17), (22, m22), (26, m26), (34, m34), (36, m36), (37, m37)]) (ws := [(25, m25), (29, m29)]) (is := []) (ls := []) (lvl := 0) mixed k8 Try.func8 (by kernel_rfl) noLoop (allT_cons meets13 (allT_cons meets15 (allT_cons meets17 (allT_cons meets22 (allT_cons meets26 (allT_cons meets34 (allT_cons meets36 (allT_cons meets37 allT_nil)))))))) (allM_cons meets25 (allM_cons meets29 allM_nil)) noI fun w xs us r hl hv h => ?_
  unfold m8 at h
  split at h
  · rename_i g0 a0 g1 a1
    obtain ⟨hg, h⟩ := bif_pair h
    simp only [Bool.and_eq_true] at hg
    obtain ⟨q0, q1⟩ := hg
    obtain rfl := ctsEq_eq _ _ q0
    obtain rfl := ctsEq_eq _ _ q1
    obtain ⟨h1, rfl⟩ := pair_inj h
    exact r8 a0 a1 h1
  · cases h
end Go.Proofs.Ytbomegcdjhljeaa
