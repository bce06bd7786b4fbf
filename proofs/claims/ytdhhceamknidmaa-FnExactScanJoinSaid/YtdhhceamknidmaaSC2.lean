/- The walk of what this claim reaches: printed by a program, each equation checked by the kernel. -/
import Derived.Test.YtdhhceamknidmaaSC1
import Derived.Test.YtdhhceamknidmaaProg
import Derived.KernelRfl
namespace Go.Proofs.Ytdhhceamknidmaa
open Go Go.Proofs.VE
set_option linter.unusedVariables false
set_option linter.unusedSimpArgs false
set_option maxRecDepth 100000
set_option maxHeartbeats 4000000
/-! ### 96 loop.example/g01984/impl.match -/
def F96_2 (t1 : List AV) (t11 : List AV) (t12 : Int) (t13 : Int) (t17 : List AV) (t18 : Int) (h1_0 : Int) (h1_1 : Int) (t19 : Int) (h0 : List AV) : Out ((Int × (List AV))) (((List AV))) := (bif decide (t19 < t18) then (bif (decide (0 ≤ t19) && decide (t19 < (t17.length : Int))) then (bif decide (h1_0 = fI (t17.getD t19.toNat AV.undef) 0) then (bif (decide ((h0.length + ([AV.agg [AV.int .i64 h1_1, AV.int .i64 (fI (t17.getD t19.toNat AV.undef) 1)]]).length) * 16 ≤ 140737488355328) && decide ((h0.length + ([AV.agg [AV.int .i64 h1_1, AV.int .i64 (fI (t17.getD t19.toNat AV.undef) 1)]]).length) ≤ 140737488355328)) then .next (IntKind.i64.wrap (t19 + 1), h0 ++ ([AV.agg [AV.int .i64 h1_1, AV.int .i64 (fI (t17.getD t19.toNat AV.undef) 1)]]))
  else .fail)
  else .next (IntKind.i64.wrap (t19 + 1), h0))
  else .fail)
  else .stop h0)
def R96_2 (t1 : List AV) (t11 : List AV) (t12 : Int) (t13 : Int) (t17 : List AV) (t18 : Int) (h1_0 : Int) (h1_1 : Int) : ((Int × (List AV))) → Out ((Int × (List AV))) (((List AV))) := fun s : Int × (List AV) => F96_2 t1 t11 t12 t13 t17 t18 h1_0 h1_1 s.1 s.2
def l96_2 : LModel := fun _ _ st k => match st with
  | ⟨[(1, .sl g0 t1), (5, .own g1), (7, .ptr g2 g3 g4), (11, .sl g5 t11), (12, .int .i64 t12), (13, .int .i64 t13), (17, .sl g6 t17), (18, .int .i64 t18), (19, .int .i64 t19)], [(g7, ⟨false, g8, h0⟩), (g9, ⟨true, [], [.agg [.int .i64 h1_0, .int .i64 h1_1]]⟩)]⟩ => bif ctsEq g0 ([.int .i64, .int .i64]) && nmEq g1 ([0, 5]) && nmEq g2 ([0, 7]) && Nat.beq g3 0 && Nat.beq g4 0 && ctsEq g5 ([.int .i64, .int .i64]) && ctsEq g6 ([.int .i64, .int .i64]) && nmEq g7 ([0, 5]) && ctsEq g8 ([.int .i64, .int .i64]) && nmEq g9 ([0, 7]) then ro (runW (R96_2 t1 t11 t12 t13 t17 t18 h1_0 h1_1) ((t18 - t19 : Int).toNat + 1) (t19, h0)) none (fun p : (List AV) => k (.exit 2) ⟨[(1, AV.sl [.int .i64, .int .i64] t1), (5, AV.own [0, 5]), (11, AV.sl [.int .i64, .int .i64] t11), (12, AV.int .i64 t12), (13, AV.int .i64 t13)], [([0, 5], ⟨false, [.int .i64, .int .i64], p⟩), ([0, 7], ⟨true, [], [AV.agg [AV.int .i64 h1_0, AV.int .i64 h1_1]]⟩)]⟩) else none
  | _ => none
def F96_0 (t1 : List AV) (t11 : List AV) (t12 : Int) (t13 : Int) (h0 : List AV) : Out ((Int × (List AV))) (((List AV))) := (bif decide (t13 < t12) then (bif (decide (0 ≤ t13) && decide (t13 < (t11.length : Int))) then (ro (runW (R96_2 t1 t11 t12 t13 t1 (t1.length : Int) (fI (t11.getD t13.toNat AV.undef) 0) (fI (t11.getD t13.toNat AV.undef) 1)) (((t1.length : Int) - 0 : Int).toNat + 1) (0, h0)) .fail (fun p40 => .next (IntKind.i64.wrap (t13 + 1), p40)))
  else .fail)
  else .stop h0)
def R96_0 (t1 : List AV) (t11 : List AV) (t12 : Int) : ((Int × (List AV))) → Out ((Int × (List AV))) (((List AV))) := fun s : Int × (List AV) => F96_0 t1 t11 t12 s.1 s.2
def l96_0 : LModel := fun _ _ st k => match st with
  | ⟨[(1, .sl g0 t1), (5, .own g1), (11, .sl g2 t11), (12, .int .i64 t12), (13, .int .i64 t13)], [(g3, ⟨false, g4, h0⟩)]⟩ => bif ctsEq g0 ([.int .i64, .int .i64]) && nmEq g1 ([0, 5]) && ctsEq g2 ([.int .i64, .int .i64]) && nmEq g3 ([0, 5]) && ctsEq g4 ([.int .i64, .int .i64]) then ro (runW (R96_0 t1 t11 t12) ((t12 - t13 : Int).toNat + 1) (t13, h0)) none (fun p : (List AV) => k (.exit 0) ⟨[(5, AV.own [0, 5])], [([0, 5], ⟨false, [.int .i64, .int .i64], p⟩)]⟩) else none
  | _ => none
noncomputable def c96 : Cfg := cfg Try.prog [(96, 0, [1, 5, 11, 12, 13]), (96, 2, [1, 5, 7, 11, 12, 13, 17, 18, 19]), (96, 999, [4]), (96, 1000, [5]), (96, 1001, [1, 5, 11, 12, 13]), (96, 1002, [1, 5, 11, 12, 13]), (96, 1003, [1, 5, 7, 11, 12, 13, 17, 18, 19])] [] [(126, m126)] [] [(96, 0, l96_0), (96, 2, l96_2)]
theorem s96_2 (ce : CallE) (t1 : List AV) (t11 : List AV) (t12 : Int) (t13 : Int) (t17 : List AV) (t18 : Int) (t19 : Int) (h0 : List AV) (h1_0 : Int) (h1_1 : Int) (next : St → Option AV) (k : Kont) : stepA (codeA c96 ce [] 96 2 (sub [1, 1, 0, 1, 0, 0, 1, 1, 0, 0, 1, 1, 0, 0] (body Try.f96))) (normA [] [1, 5, 7, 11, 12, 13, 17, 18, 19]) next ⟨[(1, AV.sl [.int .i64, .int .i64] t1), (5, AV.own [0, 5]), (7, AV.ptr [0, 7] 0 0), (11, AV.sl [.int .i64, .int .i64] t11), (12, AV.int .i64 t12), (13, AV.int .i64 t13), (17, AV.sl [.int .i64, .int .i64] t17), (18, AV.int .i64 t18), (19, AV.int .i64 t19)], [([0, 5], ⟨false, [.int .i64, .int .i64], h0⟩), ([0, 7], ⟨true, [], [AV.agg [AV.int .i64 h1_0, AV.int .i64 h1_1]]⟩)]⟩ k = (bif decide (t19 < t18) then (bif (decide (0 ≤ t19) && decide (t19 < (t17.length : Int))) then (bif decide (h1_0 = fI (t17.getD t19.toNat AV.undef) 0) then (bif (decide ((h0.length + ([AV.agg [AV.int .i64 h1_1, AV.int .i64 (fI (t17.getD t19.toNat AV.undef) 1)]]).length) * 16 ≤ 140737488355328) && decide ((h0.length + ([AV.agg [AV.int .i64 h1_1, AV.int .i64 (fI (t17.getD t19.toNat AV.undef) 1)]]).length) ≤ 140737488355328)) then next ⟨[(1, AV.sl [.int .i64, .int .i64] t1), (5, AV.own [0, 5]), (7, AV.ptr [0, 7] 0 0), (11, AV.sl [.int .i64, .int .i64] t11), (12, AV.int .i64 t12), (13, AV.int .i64 t13), (17, AV.sl [.int .i64, .int .i64] t17), (18, AV.int .i64 t18), (19, AV.int .i64 (IntKind.i64.wrap (t19 + 1)))], [([0, 5], ⟨false, [.int .i64, .int .i64], h0 ++ ([AV.agg [AV.int .i64 h1_1, AV.int .i64 (fI (t17.getD t19.toNat AV.undef) 1)]])⟩), ([0, 7], ⟨true, [], [AV.agg [AV.int .i64 h1_0, AV.int .i64 h1_1]]⟩)]⟩
  else none)
  else next ⟨[(1, AV.sl [.int .i64, .int .i64] t1), (5, AV.own [0, 5]), (7, AV.ptr [0, 7] 0 0), (11, AV.sl [.int .i64, .int .i64] t11), (12, AV.int .i64 t12), (13, AV.int .i64 t13), (17, AV.sl [.int .i64, .int .i64] t17), (18, AV.int .i64 t18), (19, AV.int .i64 (IntKind.i64.wrap (t19 + 1)))], [([0, 5], ⟨false, [.int .i64, .int .i64], h0⟩), ([0, 7], ⟨true, [], [AV.agg [AV.int .i64 h1_0, AV.int .i64 h1_1]]⟩)]⟩)
  else none)
  else k (.exit 2) ⟨[(1, AV.sl [.int .i64, .int .i64] t1), (5, AV.own [0, 5]), (11, AV.sl [.int .i64, .int .i64] t11), (12, AV.int .i64 t12), (13, AV.int .i64 t13)], [([0, 5], ⟨false, [.int .i64, .int .i64], h0⟩), ([0, 7], ⟨true, [], [AV.agg [AV.int .i64 h1_0, AV.int .i64 h1_1]]⟩)]⟩) := by kernel_rfl
theorem st96_2 (t1 : List AV) (t11 : List AV) (t12 : Int) (t13 : Int) (t17 : List AV) (t18 : Int) (h1_0 : Int) (h1_1 : Int) (ce : CallE) (k : Kont) (s : (Int × (List AV))) (next : St → Option AV) : stepA (codeA c96 ce [] 96 2 (sub [1, 1, 0, 1, 0, 0, 1, 1, 0, 0, 1, 1, 0, 0] (body Try.f96))) (normA [] [1, 5, 7, 11, 12, 13, 17, 18, 19]) next ((fun s : Int × (List AV) => ⟨[(1, AV.sl [.int .i64, .int .i64] t1), (5, AV.own [0, 5]), (7, AV.ptr [0, 7] 0 0), (11, AV.sl [.int .i64, .int .i64] t11), (12, AV.int .i64 t12), (13, AV.int .i64 t13), (17, AV.sl [.int .i64, .int .i64] t17), (18, AV.int .i64 t18), (19, AV.int .i64 s.1)], [([0, 5], ⟨false, [.int .i64, .int .i64], s.2⟩), ([0, 7], ⟨true, [], [AV.agg [AV.int .i64 h1_0, AV.int .i64 h1_1]]⟩)]⟩) s) k = (R96_2 t1 t11 t12 t13 t17 t18 h1_0 h1_1 s).el none (fun s => next ((fun s : Int × (List AV) => ⟨[(1, AV.sl [.int .i64, .int .i64] t1), (5, AV.own [0, 5]), (7, AV.ptr [0, 7] 0 0), (11, AV.sl [.int .i64, .int .i64] t11), (12, AV.int .i64 t12), (13, AV.int .i64 t13), (17, AV.sl [.int .i64, .int .i64] t17), (18, AV.int .i64 t18), (19, AV.int .i64 s.1)], [([0, 5], ⟨false, [.int .i64, .int .i64], s.2⟩), ([0, 7], ⟨true, [], [AV.agg [AV.int .i64 h1_0, AV.int .i64 h1_1]]⟩)]⟩) s)) (fun p : (List AV) => k (.exit 2) ⟨[(1, AV.sl [.int .i64, .int .i64] t1), (5, AV.own [0, 5]), (11, AV.sl [.int .i64, .int .i64] t11), (12, AV.int .i64 t12), (13, AV.int .i64 t13)], [([0, 5], ⟨false, [.int .i64, .int .i64], p⟩), ([0, 7], ⟨true, [], [AV.agg [AV.int .i64 h1_0, AV.int .i64 h1_1]]⟩)]⟩) := (s96_2 ce t1 t11 t12 t13 t17 t18 s.1 s.2 h1_0 h1_1 next k).trans (by unfold R96_2; unfold F96_2; simp only [el_cond, el_ro, el_sum, el_fail, el_next, el_stop] <;> rfl)
theorem ok96_2 {ce : CallE} : LoopOK c96 ce [] 96 2 (sub [1, 1, 0, 1, 0, 0, 1, 1, 0, 0, 1, 1, 0, 0] (body Try.f96)) := by
  intro m hm st k r h
  obtain rfl : l96_2 = m := Option.some.inj hm
  unfold l96_2 at h
  split at h
  · rename_i g0 t1 g1 g2 g3 g4 g5 t11 t12 t13 g6 t17 t18 t19 g7 g8 h0 g9 h1_0 h1_1
    obtain ⟨hg, h⟩ := bif_some h
    simp only [Bool.and_eq_true] at hg
    obtain ⟨⟨⟨⟨⟨⟨⟨⟨⟨q0, q1⟩, q2⟩, q3⟩, q4⟩, q5⟩, q6⟩, q7⟩, q8⟩, q9⟩ := hg
    obtain rfl := ctsEq_eq _ _ q0
    obtain rfl := (nmEq_iff _ _).1 q1
    obtain rfl := (nmEq_iff _ _).1 q2
    obtain rfl := Nat.eq_of_beq_eq_true q3
    obtain rfl := Nat.eq_of_beq_eq_true q4
    obtain rfl := ctsEq_eq _ _ q5
    obtain rfl := ctsEq_eq _ _ q6
    obtain rfl := (nmEq_iff _ _).1 q7
    obtain rfl := ctsEq_eq _ _ q8
    obtain rfl := (nmEq_iff _ _).1 q9
    refine ⟨((t18 - t19 : Int).toNat + 1), ?_⟩
    rw [← h]
    exact loop_run (fun s : Int × (List AV) => ⟨[(1, AV.sl [.int .i64, .int .i64] t1), (5, AV.own [0, 5]), (7, AV.ptr [0, 7] 0 0), (11, AV.sl [.int .i64, .int .i64] t11), (12, AV.int .i64 t12), (13, AV.int .i64 t13), (17, AV.sl [.int .i64, .int .i64] t17), (18, AV.int .i64 t18), (19, AV.int .i64 s.1)], [([0, 5], ⟨false, [.int .i64, .int .i64], s.2⟩), ([0, 7], ⟨true, [], [AV.agg [AV.int .i64 h1_0, AV.int .i64 h1_1]]⟩)]⟩) (fun p : (List AV) => k (.exit 2) ⟨[(1, AV.sl [.int .i64, .int .i64] t1), (5, AV.own [0, 5]), (11, AV.sl [.int .i64, .int .i64] t11), (12, AV.int .i64 t12), (13, AV.int .i64 t13)], [([0, 5], ⟨false, [.int .i64, .int .i64], p⟩), ([0, 7], ⟨true, [], [AV.agg [AV.int .i64 h1_0, AV.int .i64 h1_1]]⟩)]⟩) (st96_2 t1 t11 t12 t13 t17 t18 h1_0 h1_1 ce k) _ (t19, h0)
  · cases h
theorem s96_0 (ce : CallE) (t1 : List AV) (t11 : List AV) (t12 : Int) (t13 : Int) (h0 : List AV) (next : St → Option AV) (k : Kont) : stepA (codeA c96 ce [] 96 0 (sub [1, 1, 0, 1, 0, 0] (body Try.f96))) (normA [] [1, 5, 11, 12, 13]) next ⟨[(1, AV.sl [.int .i64, .int .i64] t1), (5, AV.own [0, 5]), (11, AV.sl [.int .i64, .int .i64] t11), (12, AV.int .i64 t12), (13, AV.int .i64 t13)], [([0, 5], ⟨false, [.int .i64, .int .i64], h0⟩)]⟩ k = (bif decide (t13 < t12) then (bif (decide (0 ≤ t13) && decide (t13 < (t11.length : Int))) then (ro (runW (R96_2 t1 t11 t12 t13 t1 (t1.length : Int) (fI (t11.getD t13.toNat AV.undef) 0) (fI (t11.getD t13.toNat AV.undef) 1)) (((t1.length : Int) - 0 : Int).toNat + 1) (0, h0)) none (fun p40 => next ⟨[(1, AV.sl [.int .i64, .int .i64] t1), (5, AV.own [0, 5]), (11, AV.sl [.int .i64, .int .i64] t11), (12, AV.int .i64 t12), (13, AV.int .i64 (IntKind.i64.wrap (t13 + 1)))], [([0, 5], ⟨false, [.int .i64, .int .i64], p40⟩)]⟩))
  else none)
  else k (.exit 0) ⟨[(5, AV.own [0, 5])], [([0, 5], ⟨false, [.int .i64, .int .i64], h0⟩)]⟩) := by kernel_rfl
theorem st96_0 (t1 : List AV) (t11 : List AV) (t12 : Int) (ce : CallE) (k : Kont) (s : (Int × (List AV))) (next : St → Option AV) : stepA (codeA c96 ce [] 96 0 (sub [1, 1, 0, 1, 0, 0] (body Try.f96))) (normA [] [1, 5, 11, 12, 13]) next ((fun s : Int × (List AV) => ⟨[(1, AV.sl [.int .i64, .int .i64] t1), (5, AV.own [0, 5]), (11, AV.sl [.int .i64, .int .i64] t11), (12, AV.int .i64 t12), (13, AV.int .i64 s.1)], [([0, 5], ⟨false, [.int .i64, .int .i64], s.2⟩)]⟩) s) k = (R96_0 t1 t11 t12 s).el none (fun s => next ((fun s : Int × (List AV) => ⟨[(1, AV.sl [.int .i64, .int .i64] t1), (5, AV.own [0, 5]), (11, AV.sl [.int .i64, .int .i64] t11), (12, AV.int .i64 t12), (13, AV.int .i64 s.1)], [([0, 5], ⟨false, [.int .i64, .int .i64], s.2⟩)]⟩) s)) (fun p : (List AV) => k (.exit 0) ⟨[(5, AV.own [0, 5])], [([0, 5], ⟨false, [.int .i64, .int .i64], p⟩)]⟩) := (s96_0 ce t1 t11 t12 s.1 s.2 next k).trans (by unfold R96_0; unfold F96_0; simp only [el_cond, el_ro, el_sum, el_fail, el_next, el_stop] <;> rfl)
theorem ok96_0 {ce : CallE} : LoopOK c96 ce [] 96 0 (sub [1, 1, 0, 1, 0, 0] (body Try.f96)) := by
  intro m hm st k r h
  obtain rfl : l96_0 = m := Option.some.inj hm
  unfold l96_0 at h
  split at h
  · rename_i g0 t1 g1 g2 t11 t12 t13 g3 g4 h0
    obtain ⟨hg, h⟩ := bif_some h
    simp only [Bool.and_eq_true] at hg
    obtain ⟨⟨⟨⟨q0, q1⟩, q2⟩, q3⟩, q4⟩ := hg
    obtain rfl := ctsEq_eq _ _ q0
    obtain rfl := (nmEq_iff _ _).1 q1
    obtain rfl := ctsEq_eq _ _ q2
    obtain rfl := (nmEq_iff _ _).1 q3
    obtain rfl := ctsEq_eq _ _ q4
    refine ⟨((t12 - t13 : Int).toNat + 1), ?_⟩
    rw [← h]
    exact loop_run (fun s : Int × (List AV) => ⟨[(1, AV.sl [.int .i64, .int .i64] t1), (5, AV.own [0, 5]), (11, AV.sl [.int .i64, .int .i64] t11), (12, AV.int .i64 t12), (13, AV.int .i64 s.1)], [([0, 5], ⟨false, [.int .i64, .int .i64], s.2⟩)]⟩) (fun p : (List AV) => k (.exit 0) ⟨[(5, AV.own [0, 5])], [([0, 5], ⟨false, [.int .i64, .int .i64], p⟩)]⟩) (st96_0 t1 t11 t12 ce k) _ (t13, h0)
  · cases h
def q96 (a0 : List AV) (a1 : List AV) : Bool := (ro (runW (R96_0 a1 a0 (a0.length : Int)) (((a0.length : Int) - 0 : Int).toNat + 1) (0, ([] : List AV))) false (fun p41 => q126 p41))
def v96_0 (a0 : List AV) (a1 : List AV) : List AV := (ro (runW (R96_0 a1 a0 (a0.length : Int)) (((a0.length : Int) - 0 : Int).toNat + 1) (0, ([] : List AV))) [] (fun p41 => (v126_0 p41)))
theorem e96 (a0 : List AV) (a1 : List AV) : funA c96 0 96 [AV.sl [.int .i64, .int .i64] a0, AV.sl [.int .i64, .int .i64] a1] = (ro (runW (R96_0 a1 a0 (a0.length : Int)) (((a0.length : Int) - 0 : Int).toNat + 1) (0, ([] : List AV))) none (fun p41 => (bif q126 p41 then some (AV.fl [.int .i64, .int .i64] (v126_0 p41))
  else none))) := by kernel_rfl
theorem r96 (a0 : List AV) (a1 : List AV) (h : q96 a0 a1 = true) : funA c96 0 96 [AV.sl [.int .i64, .int .i64] a0, AV.sl [.int .i64, .int .i64] a1] = some (AV.fl [.int .i64, .int .i64] (v96_0 a0 a1)) := (e96 a0 a1).trans ((brO (fun o : Option (((List AV))) => some (AV.fl [.int .i64, .int .i64] (ro o [] (fun p41 => (v126_0 p41))))) (fun p41 => (brL1 (fun _ => rfl)))) h)
def m96 : TModel
  | [.sl g0 a0, .sl g1 a1] => bif ctsEq g0 ([.int .i64, .int .i64]) && ctsEq g1 ([.int .i64, .int .i64]) then some (q96 a0 a1, AV.fl [.int .i64, .int .i64] (v96_0 a0 a1)) else none
  | _ => none
theorem k96 : Known Try.prog 96 := ⟨Try.f96, Try.func96, by kernel_rfl, by kernel_rfl⟩
theorem meets96 : Meets Try.prog 96 m96 := by
  refine meet (f := Try.f96) (l := [(0, sub [1, 1, 0, 1, 0, 0] (body Try.f96)), (2, sub [1, 1, 0, 1, 0, 0, 1, 1, 0, 0, 1, 1, 0, 0] (body Try.f96))]) (hs := [(96, 0, [1, 5, 11, 12, 13]), (96, 2, [1, 5, 7, 11, 12, 13, 17, 18, 19]), (96, 999, [4]), (96, 1000, [5]), (96, 1001, [1, 5, 11, 12, 13]), (96, 1002, [1, 5, 11, 12, 13]), (96, 1003, [1, 5, 7, 11, 12, 13, 17, 18, 19])]) (ts := []) (ws := [(126, m126)]) (is := []) (ls := [(96, 0, l96_0), (96, 2, l96_2)]) (lvl := 0) mixed k96 Try.func96 (by kernel_rfl) (loops_cons ok96_0 (loops_cons ok96_2 noLoop)) allT_nil (allM_cons meets126 allM_nil) noI fun w xs us r hl hv h => ?_
  unfold m96 at h
  split at h
  · rename_i g0 a0 g1 a1
    obtain ⟨hg, h⟩ := bif_pair h
    simp only [Bool.and_eq_true] at hg
    obtain ⟨q0, q1⟩ := hg
    obtain rfl := ctsEq_eq _ _ q0
    obtain rfl := ctsEq_eq _ _ q1
    obtain ⟨h1, rfl⟩ := pair_inj h
    exact r96 a0 a1 h1
  · cases h

/-! ### 47 loop.example/g01984/impl.ScanJoin -/
noncomputable def c47 : Cfg := cfg Try.prog [(47, 999, [6])] [(70, m70), (96, m96), (97, m97)] [] [] []
def q47 (a0_0 : List AV) (a0_1 : List AV) (a0_2 : List AV) (a1_0 : List AV) (a1_1 : List AV) (a1_2 : List AV) (a2_0 : Int) (a2_1 : Int) : Bool := (q70 a0_0 a0_1 a0_2 && (bif !(v70_0 a0_0 a0_1 a0_2) then true else (q70 a1_0 a1_1 a1_2 && (bif !(v70_0 a1_0 a1_1 a1_2) then true else (q97 a0_0 a0_1 a0_2 a2_0 a2_1 && (q97 a1_0 a1_1 a1_2 a2_0 a2_1 && q96 (v97_0 a0_0 a0_1 a0_2 a2_0 a2_1) (v97_0 a1_0 a1_1 a1_2 a2_0 a2_1)))))))
def v47_0 (a0_0 : List AV) (a0_1 : List AV) (a0_2 : List AV) (a1_0 : List AV) (a1_1 : List AV) (a1_2 : List AV) (a2_0 : Int) (a2_1 : Int) : List AV := (bif !(v70_0 a0_0 a0_1 a0_2) then ([] : List AV) else (bif !(v70_0 a1_0 a1_1 a1_2) then ([] : List AV) else (v96_0 (v97_0 a0_0 a0_1 a0_2 a2_0 a2_1) (v97_0 a1_0 a1_1 a1_2 a2_0 a2_1))))
theorem e47 (a0_0 : List AV) (a0_1 : List AV) (a0_2 : List AV) (a1_0 : List AV) (a1_1 : List AV) (a1_2 : List AV) (a2_0 : Int) (a2_1 : Int) : funA c47 0 47 [AV.agg [AV.sl [.int .i64] a0_0, AV.sl [.int .i64] a0_1, AV.sl [.int .i64, .int .i64] a0_2], AV.agg [AV.sl [.int .i64] a1_0, AV.sl [.int .i64] a1_1, AV.sl [.int .i64, .int .i64] a1_2], AV.agg [AV.int .i64 a2_0, AV.int .i64 a2_1]] = (bif q70 a0_0 a0_1 a0_2 then (bif !(v70_0 a0_0 a0_1 a0_2) then some (AV.fl [.int .i64, .int .i64] ([] : List AV))
  else (bif q70 a1_0 a1_1 a1_2 then (bif !(v70_0 a1_0 a1_1 a1_2) then some (AV.fl [.int .i64, .int .i64] ([] : List AV))
  else (bif q97 a0_0 a0_1 a0_2 a2_0 a2_1 then (bif q97 a1_0 a1_1 a1_2 a2_0 a2_1 then (bif q96 (v97_0 a0_0 a0_1 a0_2 a2_0 a2_1) (v97_0 a1_0 a1_1 a1_2 a2_0 a2_1) then some (AV.fl [.int .i64, .int .i64] (v96_0 (v97_0 a0_0 a0_1 a0_2 a2_0 a2_1) (v97_0 a1_0 a1_1 a1_2 a2_0 a2_1)))
  else none)
  else none)
  else none))
  else none))
  else none) := by kernel_rfl
theorem r47 (a0_0 : List AV) (a0_1 : List AV) (a0_2 : List AV) (a1_0 : List AV) (a1_1 : List AV) (a1_2 : List AV) (a2_0 : Int) (a2_1 : Int) (h : q47 a0_0 a0_1 a0_2 a1_0 a1_1 a1_2 a2_0 a2_1 = true) : funA c47 0 47 [AV.agg [AV.sl [.int .i64] a0_0, AV.sl [.int .i64] a0_1, AV.sl [.int .i64, .int .i64] a0_2], AV.agg [AV.sl [.int .i64] a1_0, AV.sl [.int .i64] a1_1, AV.sl [.int .i64, .int .i64] a1_2], AV.agg [AV.int .i64 a2_0, AV.int .i64 a2_1]] = some (AV.fl [.int .i64, .int .i64] (v47_0 a0_0 a0_1 a0_2 a1_0 a1_1 a1_2 a2_0 a2_1)) := (e47 a0_0 a0_1 a0_2 a1_0 a1_1 a1_2 a2_0 a2_1).trans ((brL (br (fun b => some (AV.fl [.int .i64, .int .i64] (bif b then ([] : List AV) else (bif !(v70_0 a1_0 a1_1 a1_2) then ([] : List AV) else (v96_0 (v97_0 a0_0 a0_1 a0_2 a2_0 a2_1) (v97_0 a1_0 a1_1 a1_2 a2_0 a2_1)))))) (fun _ => rfl) (brL (br (fun b => some (AV.fl [.int .i64, .int .i64] (bif b then ([] : List AV) else (v96_0 (v97_0 a0_0 a0_1 a0_2 a2_0 a2_1) (v97_0 a1_0 a1_1 a1_2 a2_0 a2_1))))) (fun _ => rfl) (brL (brL (brL1 (fun _ => rfl)))))))) h)
def m47 : TModel
  | [.agg [.sl g0 a0_0, .sl g1 a0_1, .sl g2 a0_2], .agg [.sl g3 a1_0, .sl g4 a1_1, .sl g5 a1_2], .agg [.int .i64 a2_0, .int .i64 a2_1]] => bif ctsEq g0 ([.int .i64]) && ctsEq g1 ([.int .i64]) && ctsEq g2 ([.int .i64, .int .i64]) && ctsEq g3 ([.int .i64]) && ctsEq g4 ([.int .i64]) && ctsEq g5 ([.int .i64, .int .i64]) then some (q47 a0_0 a0_1 a0_2 a1_0 a1_1 a1_2 a2_0 a2_1, AV.fl [.int .i64, .int .i64] (v47_0 a0_0 a0_1 a0_2 a1_0 a1_1 a1_2 a2_0 a2_1)) else none
  | _ => none
theorem k47 : Known Try.prog 47 := ⟨Try.f47, Try.func47, by kernel_rfl, by kernel_rfl⟩
theorem meets47 : Meets Try.prog 47 m47 := by
  refine meet (f := Try.f47) (l := []) (hs := [(47, 999, [6])]) (ts := [(70, m70), (96, m96), (97, m97)]) (ws := []) (is := []) (ls := []) (lvl := 0) mixed k47 Try.func47 (by kernel_rfl) noLoop (allT_cons meets70 (allT_cons meets96 (allT_cons meets97 allT_nil))) allM_nil noI fun w xs us r hl hv h => ?_
  unfold m47 at h
  split at h
  · rename_i g0 a0_0 g1 a0_1 g2 a0_2 g3 a1_0 g4 a1_1 g5 a1_2 a2_0 a2_1
    obtain ⟨hg, h⟩ := bif_pair h
    simp only [Bool.and_eq_true] at hg
    obtain ⟨⟨⟨⟨⟨q0, q1⟩, q2⟩, q3⟩, q4⟩, q5⟩ := hg
    obtain rfl := ctsEq_eq _ _ q0
    obtain rfl := ctsEq_eq _ _ q1
    obtain rfl := ctsEq_eq _ _ q2
    obtain rfl := ctsEq_eq _ _ q3
    obtain rfl := ctsEq_eq _ _ q4
    obtain rfl := ctsEq_eq _ _ q5
    obtain ⟨h1, rfl⟩ := pair_inj h
    exact r47 a0_0 a0_1 a0_2 a1_0 a1_1 a1_2 a2_0 a2_1 h1
  · cases h

/-! ### 98 loop.example/g01984/laws.eqPair -/
noncomputable def c98 : Cfg := cfg Try.prog [(98, 999, [4])] [] [] [] []
def q98 (a0_0 : Int) (a0_1 : Int) (a1_0 : Int) (a1_1 : Int) : Bool := true
def v98_0 (a0_0 : Int) (a0_1 : Int) (a1_0 : Int) (a1_1 : Int) : Bool := (bif !decide (a0_0 = a1_0) then false else (bif !decide (a0_1 = a1_1) then false else true))
theorem e98 (a0_0 : Int) (a0_1 : Int) (a1_0 : Int) (a1_1 : Int) : funA c98 0 98 [AV.agg [AV.int .i64 a0_0, AV.int .i64 a0_1], AV.agg [AV.int .i64 a1_0, AV.int .i64 a1_1]] = (bif !decide (a0_0 = a1_0) then some (AV.bool false)
  else (bif !decide (a0_1 = a1_1) then some (AV.bool false)
  else some (AV.bool true))) := by kernel_rfl
theorem r98 (a0_0 : Int) (a0_1 : Int) (a1_0 : Int) (a1_1 : Int) : funA c98 0 98 [AV.agg [AV.int .i64 a0_0, AV.int .i64 a0_1], AV.agg [AV.int .i64 a1_0, AV.int .i64 a1_1]] = some (AV.bool (v98_0 a0_0 a0_1 a1_0 a1_1)) := (e98 a0_0 a0_1 a1_0 a1_1).trans (of_tt (brT (fun b => some (AV.bool (bif b then false else (bif !decide (a0_1 = a1_1) then false else true)))) (fun _ => rfl) (brT (fun b => some (AV.bool (bif b then false else true))) (fun _ => rfl) (fun _ => rfl))))
def m98 : TModel
  | [.agg [.int .i64 a0_0, .int .i64 a0_1], .agg [.int .i64 a1_0, .int .i64 a1_1]] => some (true, AV.bool (v98_0 a0_0 a0_1 a1_0 a1_1))
  | _ => none
theorem k98 : Known Try.prog 98 := ⟨Try.f98, Try.func98, by kernel_rfl, by kernel_rfl⟩
theorem meets98 : Meets Try.prog 98 m98 := by
  refine meet (f := Try.f98) (l := []) (hs := [(98, 999, [4])]) (ts := []) (ws := []) (is := []) (ls := []) (lvl := 0) mixed k98 Try.func98 (by kernel_rfl) noLoop allT_nil allM_nil noI fun w xs us r hl hv h => ?_
  unfold m98 at h
  split at h
  · rename_i a0_0 a0_1 a1_0 a1_1
    obtain ⟨h1, rfl⟩ := pair_inj h
    exact r98 a0_0 a0_1 a1_0 a1_1
  · cases h

/-! ### 48 loop.example/g01984/laws.eqPairS -/
def F48_0 (t0 : List AV) (t1 : List AV) (t5 : Int) : Out (Int) (Unit ⊕ Unit) := (bif decide (t5 < (t0.length : Int)) then (bif (decide (0 ≤ t5) && decide (t5 < (t0.length : Int))) then (bif (decide (0 ≤ t5) && decide (t5 < (t1.length : Int))) then (bif !(v98_0 (fI (t0.getD t5.toNat AV.undef) 0) (fI (t0.getD t5.toNat AV.undef) 1) (fI (t1.getD t5.toNat AV.undef) 0) (fI (t1.getD t5.toNat AV.undef) 1)) then .stop (.inr ())
  else .next (IntKind.i64.wrap (t5 + 1)))
  else .fail)
  else .fail)
  else .stop (.inl ()))
def R48_0 (t0 : List AV) (t1 : List AV) : (Int) → Out (Int) (Unit ⊕ Unit) := fun s : Int => F48_0 t0 t1 s
def l48_0 : LModel := fun _ _ st k => match st with
  | ⟨[(0, .sl g0 t0), (1, .sl g1 t1), (5, .int .i64 t5)], []⟩ => bif ctsEq g0 ([.int .i64, .int .i64]) && ctsEq g1 ([.int .i64, .int .i64]) then ro (runW (R48_0 t0 t1) (((t0.length : Int) - t5 : Int).toNat + 1) t5) none (sumE (fun _ : Unit => k (.exit 0) ⟨[], []⟩) (fun _ : Unit => k .ret ⟨[(4, AV.bool false)], []⟩)) else none
  | _ => none
noncomputable def c48 : Cfg := cfg Try.prog [(48, 0, [0, 1, 5]), (48, 999, [4]), (48, 1000, []), (48, 1001, [0, 1, 5])] [(98, m98)] [] [] [(48, 0, l48_0)]
theorem s48_0 (ce : CallE) (t0 : List AV) (t1 : List AV) (t5 : Int) (next : St → Option AV) (k : Kont) : stepA (codeA c48 ce [] 48 0 (sub [1, 1, 0, 1, 0, 0] (body Try.f48))) (normA [] [0, 1, 5]) next ⟨[(0, AV.sl [.int .i64, .int .i64] t0), (1, AV.sl [.int .i64, .int .i64] t1), (5, AV.int .i64 t5)], []⟩ k = (bif decide (t5 < (t0.length : Int)) then (bif (decide (0 ≤ t5) && decide (t5 < (t0.length : Int))) then (bif (decide (0 ≤ t5) && decide (t5 < (t1.length : Int))) then (bif !(v98_0 (fI (t0.getD t5.toNat AV.undef) 0) (fI (t0.getD t5.toNat AV.undef) 1) (fI (t1.getD t5.toNat AV.undef) 0) (fI (t1.getD t5.toNat AV.undef) 1)) then k .ret ⟨[(4, AV.bool false)], []⟩
  else next ⟨[(0, AV.sl [.int .i64, .int .i64] t0), (1, AV.sl [.int .i64, .int .i64] t1), (5, AV.int .i64 (IntKind.i64.wrap (t5 + 1)))], []⟩)
  else none)
  else none)
  else k (.exit 0) ⟨[], []⟩) := by kernel_rfl
theorem st48_0 (t0 : List AV) (t1 : List AV) (ce : CallE) (k : Kont) (s : Int) (next : St → Option AV) : stepA (codeA c48 ce [] 48 0 (sub [1, 1, 0, 1, 0, 0] (body Try.f48))) (normA [] [0, 1, 5]) next ((fun s : Int => ⟨[(0, AV.sl [.int .i64, .int .i64] t0), (1, AV.sl [.int .i64, .int .i64] t1), (5, AV.int .i64 s)], []⟩) s) k = (R48_0 t0 t1 s).el none (fun s => next ((fun s : Int => ⟨[(0, AV.sl [.int .i64, .int .i64] t0), (1, AV.sl [.int .i64, .int .i64] t1), (5, AV.int .i64 s)], []⟩) s)) (sumE (fun _ : Unit => k (.exit 0) ⟨[], []⟩) (fun _ : Unit => k .ret ⟨[(4, AV.bool false)], []⟩)) := (s48_0 ce t0 t1 s next k).trans (by unfold R48_0; unfold F48_0; simp only [el_cond, el_ro, el_sum, el_fail, el_next, el_stop] <;> rfl)
theorem ok48_0 {ce : CallE} : LoopOK c48 ce [] 48 0 (sub [1, 1, 0, 1, 0, 0] (body Try.f48)) := by
  intro m hm st k r h
  obtain rfl : l48_0 = m := Option.some.inj hm
  unfold l48_0 at h
  split at h
  · rename_i g0 t0 g1 t1 t5
    obtain ⟨hg, h⟩ := bif_some h
    simp only [Bool.and_eq_true] at hg
    obtain ⟨q0, q1⟩ := hg
    obtain rfl := ctsEq_eq _ _ q0
    obtain rfl := ctsEq_eq _ _ q1
    refine ⟨(((t0.length : Int) - t5 : Int).toNat + 1), ?_⟩
    rw [← h]
    exact loop_run (fun s : Int => ⟨[(0, AV.sl [.int .i64, .int .i64] t0), (1, AV.sl [.int .i64, .int .i64] t1), (5, AV.int .i64 s)], []⟩) (sumE (fun _ : Unit => k (.exit 0) ⟨[], []⟩) (fun _ : Unit => k .ret ⟨[(4, AV.bool false)], []⟩)) (st48_0 t0 t1 ce k) _ t5
  · cases h
def q48 (a0 : List AV) (a1 : List AV) : Bool := (bif !decide ((a0.length : Int) = (a1.length : Int)) then true else (ro (runW (R48_0 a0 a1) (((a0.length : Int) - 0 : Int).toNat + 1) 0) false (sumE (fun _ => true) (fun _ => true))))
def v48_0 (a0 : List AV) (a1 : List AV) : Bool := (bif !decide ((a0.length : Int) = (a1.length : Int)) then false else (ro (runW (R48_0 a0 a1) (((a0.length : Int) - 0 : Int).toNat + 1) 0) false (sumE (fun _ => true) (fun _ => false))))
theorem e48 (a0 : List AV) (a1 : List AV) : funA c48 0 48 [AV.sl [.int .i64, .int .i64] a0, AV.sl [.int .i64, .int .i64] a1] = (bif !decide ((a0.length : Int) = (a1.length : Int)) then some (AV.bool false)
  else (ro (runW (R48_0 a0 a1) (((a0.length : Int) - 0 : Int).toNat + 1) 0) none (sumE (fun _ => some (AV.bool true)) (fun _ => some (AV.bool false))))) := by kernel_rfl
theorem r48 (a0 : List AV) (a1 : List AV) (h : q48 a0 a1 = true) : funA c48 0 48 [AV.sl [.int .i64, .int .i64] a0, AV.sl [.int .i64, .int .i64] a1] = some (AV.bool (v48_0 a0 a1)) := (e48 a0 a1).trans ((br (fun b => some (AV.bool (bif b then false else (ro (runW (R48_0 a0 a1) (((a0.length : Int) - 0 : Int).toNat + 1) 0) false (sumE (fun _ => true) (fun _ => false)))))) (fun _ => rfl) (brO (fun o : Option (Unit ⊕ Unit) => some (AV.bool (ro o false (sumE (fun _ => true) (fun _ => false))))) (brS (fun o : Unit ⊕ Unit => some (AV.bool ((sumE (fun _ => true) (fun _ => false)) o))) (fun _ => (fun _ => rfl)) (fun _ => (fun _ => rfl))))) h)
def m48 : TModel
  | [.sl g0 a0, .sl g1 a1] => bif ctsEq g0 ([.int .i64, .int .i64]) && ctsEq g1 ([.int .i64, .int .i64]) then some (q48 a0 a1, AV.bool (v48_0 a0 a1)) else none
  | _ => none
theorem k48 : Known Try.prog 48 := ⟨Try.f48, Try.func48, by kernel_rfl, by kernel_rfl⟩
theorem meets48 : Meets Try.prog 48 m48 := by
  refine meet (f := Try.f48) (l := [(0, sub [1, 1, 0, 1, 0, 0] (body Try.f48))]) (hs := [(48, 0, [0, 1, 5]), (48, 999, [4]), (48, 1000, []), (48, 1001, [0, 1, 5])]) (ts := [(98, m98)]) (ws := []) (is := []) (ls := [(48, 0, l48_0)]) (lvl := 0) mixed k48 Try.func48 (by kernel_rfl) (loops_cons ok48_0 noLoop) (allT_cons meets98 allT_nil) allM_nil noI fun w xs us r hl hv h => ?_
  unfold m48 at h
  split at h
  · rename_i g0 a0 g1 a1
    obtain ⟨hg, h⟩ := bif_pair h
    simp only [Bool.and_eq_true] at hg
    obtain ⟨q0, q1⟩ := hg
    obtain rfl := ctsEq_eq _ _ q0
    obtain rfl := ctsEq_eq _ _ q1
    obtain ⟨h1, rfl⟩ := pair_inj h
    exact r48 a0 a1 h1
  · cases h

/-! ### 30 loop.example/g01984/laws.eqIntS -/
def F30_0 (t0 : List AV) (t1 : List AV) (t5 : Int) : Out (Int) (Unit ⊕ Unit) := (bif decide (t5 < (t0.length : Int)) then (bif (decide (0 ≤ t5) && decide (t5 < (t0.length : Int))) then (bif (decide (0 ≤ t5) && decide (t5 < (t1.length : Int))) then (bif !decide (fI (t0.getD t5.toNat AV.undef) 0 = fI (t1.getD t5.toNat AV.undef) 0) then .stop (.inr ())
  else .next (IntKind.i64.wrap (t5 + 1)))
  else .fail)
  else .fail)
  else .stop (.inl ()))
def R30_0 (t0 : List AV) (t1 : List AV) : (Int) → Out (Int) (Unit ⊕ Unit) := fun s : Int => F30_0 t0 t1 s
def l30_0 : LModel := fun _ _ st k => match st with
  | ⟨[(0, .sl g0 t0), (1, .sl g1 t1), (5, .int .i64 t5)], []⟩ => bif ctsEq g0 ([.int .i64]) && ctsEq g1 ([.int .i64]) then ro (runW (R30_0 t0 t1) (((t0.length : Int) - t5 : Int).toNat + 1) t5) none (sumE (fun _ : Unit => k (.exit 0) ⟨[], []⟩) (fun _ : Unit => k .ret ⟨[(4, AV.bool false)], []⟩)) else none
  | _ => none
noncomputable def c30 : Cfg := cfg Try.prog [(30, 0, [0, 1, 5]), (30, 999, [4]), (30, 1000, []), (30, 1001, [0, 1, 5])] [] [] [] [(30, 0, l30_0)]
theorem s30_0 (ce : CallE) (t0 : List AV) (t1 : List AV) (t5 : Int) (next : St → Option AV) (k : Kont) : stepA (codeA c30 ce [] 30 0 (sub [1, 1, 0, 1, 0, 0] (body Try.f30))) (normA [] [0, 1, 5]) next ⟨[(0, AV.sl [.int .i64] t0), (1, AV.sl [.int .i64] t1), (5, AV.int .i64 t5)], []⟩ k = (bif decide (t5 < (t0.length : Int)) then (bif (decide (0 ≤ t5) && decide (t5 < (t0.length : Int))) then (bif (decide (0 ≤ t5) && decide (t5 < (t1.length : Int))) then (bif !decide (fI (t0.getD t5.toNat AV.undef) 0 = fI (t1.getD t5.toNat AV.undef) 0) then k .ret ⟨[(4, AV.bool false)], []⟩
  else next ⟨[(0, AV.sl [.int .i64] t0), (1, AV.sl [.int .i64] t1), (5, AV.int .i64 (IntKind.i64.wrap (t5 + 1)))], []⟩)
  else none)
  else none)
  else k (.exit 0) ⟨[], []⟩) := by kernel_rfl
theorem st30_0 (t0 : List AV) (t1 : List AV) (ce : CallE) (k : Kont) (s : Int) (next : St → Option AV) : stepA (codeA c30 ce [] 30 0 (sub [1, 1, 0, 1, 0, 0] (body Try.f30))) (normA [] [0, 1, 5]) next ((fun s : Int => ⟨[(0, AV.sl [.int .i64] t0), (1, AV.sl [.int .i64] t1), (5, AV.int .i64 s)], []⟩) s) k = (R30_0 t0 t1 s).el none (fun s => next ((fun s : Int => ⟨[(0, AV.sl [.int .i64] t0), (1, AV.sl [.int .i64] t1), (5, AV.int .i64 s)], []⟩) s)) (sumE (fun _ : Unit => k (.exit 0) ⟨[], []⟩) (fun _ : Unit => k .ret ⟨[(4, AV.bool false)], []⟩)) := (s30_0 ce t0 t1 s next k).trans (by unfold R30_0; unfold F30_0; simp only [el_cond, el_ro, el_sum, el_fail, el_next, el_stop] <;> rfl)
theorem ok30_0 {ce : CallE} : LoopOK c30 ce [] 30 0 (sub [1, 1, 0, 1, 0, 0] (body Try.f30)) := by
  intro m hm st k r h
  obtain rfl : l30_0 = m := Option.some.inj hm
  unfold l30_0 at h
  split at h
  · rename_i g0 t0 g1 t1 t5
    obtain ⟨hg, h⟩ := bif_some h
    simp only [Bool.and_eq_true] at hg
    obtain ⟨q0, q1⟩ := hg
    obtain rfl := ctsEq_eq _ _ q0
    obtain rfl := ctsEq_eq _ _ q1
    refine ⟨(((t0.length : Int) - t5 : Int).toNat + 1), ?_⟩
    rw [← h]
    exact loop_run (fun s : Int => ⟨[(0, AV.sl [.int .i64] t0), (1, AV.sl [.int .i64] t1), (5, AV.int .i64 s)], []⟩) (sumE (fun _ : Unit => k (.exit 0) ⟨[], []⟩) (fun _ : Unit => k .ret ⟨[(4, AV.bool false)], []⟩)) (st30_0 t0 t1 ce k) _ t5
  · cases h
def q30 (a0 : List AV) (a1 : List AV) : Bool := (bif !decide ((a0.length : Int) = (a1.length : Int)) then true else (ro (runW (R30_0 a0 a1) (((a0.length : Int) - 0 : Int).toNat + 1) 0) false (sumE (fun _ => true) (fun _ => true))))
def v30_0 (a0 : List AV) (a1 : List AV) : Bool := (bif !decide ((a0.length : Int) = (a1.length : Int)) then false else (ro (runW (R30_0 a0 a1) (((a0.length : Int) - 0 : Int).toNat + 1) 0) false (sumE (fun _ => true) (fun _ => false))))
theorem e30 (a0 : List AV) (a1 : List AV) : funA c30 0 30 [AV.sl [.int .i64] a0, AV.sl [.int .i64] a1] = (bif !decide ((a0.length : Int) = (a1.length : Int)) then some (AV.bool false)
  else (ro (runW (R30_0 a0 a1) (((a0.length : Int) - 0 : Int).toNat + 1) 0) none (sumE (fun _ => some (AV.bool true)) (fun _ => some (AV.bool false))))) := by kernel_rfl
theorem r30 (a0 : List AV) (a1 : List AV) (h : q30 a0 a1 = true) : funA c30 0 30 [AV.sl [.int .i64] a0, AV.sl [.int .i64] a1] = some (AV.bool (v30_0 a0 a1)) := (e30 a0 a1).trans ((br (fun b => some (AV.bool (bif b then false else (ro (runW (R30_0 a0 a1) (((a0.length : Int) - 0 : Int).toNat + 1) 0) false (sumE (fun _ => true) (fun _ => false)))))) (fun _ => rfl) (brO (fun o : Option (Unit ⊕ Unit) => some (AV.bool (ro o false (sumE (fun _ => true) (fun _ => false))))) (brS (fun o : Unit ⊕ Unit => some (AV.bool ((sumE (fun _ => true) (fun _ => false)) o))) (fun _ => (fun _ => rfl)) (fun _ => (fun _ => rfl))))) h)
def m30 : TModel
  | [.sl g0 a0, .sl g1 a1] => bif ctsEq g0 ([.int .i64]) && ctsEq g1 ([.int .i64]) then some (q30 a0 a1, AV.bool (v30_0 a0 a1)) else none
  | _ => none
theorem k30 : Known Try.prog 30 := ⟨Try.f30, Try.func30, by kernel_rfl, by kernel_rfl⟩
theorem meets30 : Meets Try.prog 30 m30 := by
  refine meet (f := Try.f30) (l := [(0, sub [1, 1, 0, 1, 0, 0] (body Try.f30))]) (hs := [(30, 0, [0, 1, 5]), (30, 999, [4]), (30, 1000, []), (30, 1001, [0, 1, 5])]) (ts := []) (ws := []) (is := []) (ls := [(30, 0, l30_0)]) (lvl := 0) mixed k30 Try.func30 (by kernel_rfl) (loops_cons ok30_0 noLoop) allT_nil allM_nil noI fun w xs us r hl hv h => ?_
  unfold m30 at h
  split at h
  · rename_i g0 a0 g1 a1
    obtain ⟨hg, h⟩ := bif_pair h
    simp only [Bool.and_eq_true] at hg
    obtain ⟨q0, q1⟩ := hg
    obtain rfl := ctsEq_eq _ _ q0
    obtain rfl := ctsEq_eq _ _ q1
    obtain ⟨h1, rfl⟩ := pair_inj h
    exact r30 a0 a1 h1
  · cases h

/-! ### 122 loop.example/g01984/laws.eqPivot -/
noncomputable def c122 : Cfg := cfg Try.prog [(122, 999, [4])] [] [] [] []
def q122 (a0_0 : Int) (a0_1 : Int) (a1_0 : Int) (a1_1 : Int) : Bool := true
def v122_0 (a0_0 : Int) (a0_1 : Int) (a1_0 : Int) (a1_1 : Int) : Bool := (bif !decide (a0_0 = a1_0) then false else (bif !decide (a0_1 = a1_1) then false else true))
theorem e122 (a0_0 : Int) (a0_1 : Int) (a1_0 : Int) (a1_1 : Int) : funA c122 0 122 [AV.agg [AV.int .i64 a0_0, AV.int .i64 a0_1], AV.agg [AV.int .i64 a1_0, AV.int .i64 a1_1]] = (bif !decide (a0_0 = a1_0) then some (AV.bool false)
  else (bif !decide (a0_1 = a1_1) then some (AV.bool false)
  else some (AV.bool true))) := by kernel_rfl
theorem r122 (a0_0 : Int) (a0_1 : Int) (a1_0 : Int) (a1_1 : Int) : funA c122 0 122 [AV.agg [AV.int .i64 a0_0, AV.int .i64 a0_1], AV.agg [AV.int .i64 a1_0, AV.int .i64 a1_1]] = some (AV.bool (v122_0 a0_0 a0_1 a1_0 a1_1)) := (e122 a0_0 a0_1 a1_0 a1_1).trans (of_tt (brT (fun b => some (AV.bool (bif b then false else (bif !decide (a0_1 = a1_1) then false else true)))) (fun _ => rfl) (brT (fun b => some (AV.bool (bif b then false else true))) (fun _ => rfl) (fun _ => rfl))))
def m122 : TModel
  | [.agg [.int .i64 a0_0, .int .i64 a0_1], .agg [.int .i64 a1_0, .int .i64 a1_1]] => some (true, AV.bool (v122_0 a0_0 a0_1 a1_0 a1_1))
  | _ => none
theorem k122 : Known Try.prog 122 := ⟨Try.f122, Try.func122, by kernel_rfl, by kernel_rfl⟩
theorem meets122 : Meets Try.prog 122 m122 := by
  refine meet (f := Try.f122) (l := []) (hs := [(122, 999, [4])]) (ts := []) (ws := []) (is := []) (ls := []) (lvl := 0) mixed k122 Try.func122 (by kernel_rfl) noLoop allT_nil allM_nil noI fun w xs us r hl hv h => ?_
  unfold m122 at h
  split at h
  · rename_i a0_0 a0_1 a1_0 a1_1
    obtain ⟨h1, rfl⟩ := pair_inj h
    exact r122 a0_0 a0_1 a1_0 a1_1
  · cases h

/-! ### 90 loop.example/g01984/laws.eqPivotS -/
def F90_0 (t0 : List AV) (t1 : List AV) (t5 : Int) : Out (Int) (Unit ⊕ Unit) := (bif decide (t5 < (t0.length : Int)) then (bif (decide (0 ≤ t5) && decide (t5 < (t0.length : Int))) then (bif (decide (0 ≤ t5) && decide (t5 < (t1.length : Int))) then (bif !(v122_0 (fI (t0.getD t5.toNat AV.undef) 0) (fI (t0.getD t5.toNat AV.undef) 1) (fI (t1.getD t5.toNat AV.undef) 0) (fI (t1.getD t5.toNat AV.undef) 1)) then .stop (.inr ())
  else .next (IntKind.i64.wrap (t5 + 1)))
  else .fail)
  else .fail)
  else .stop (.inl ()))
def R90_0 (t0 : List AV) (t1 : List AV) : (Int) → Out (Int) (Unit ⊕ Unit) := fun s : Int => F90_0 t0 t1 s
def l90_0 : LModel := fun _ _ st k => match st with
  | ⟨[(0, .sl g0 t0), (1, .sl g1 t1), (5, .int .i64 t5)], []⟩ => bif ctsEq g0 ([.int .i64, .int .i64]) && ctsEq g1 ([.int .i64, .int .i64]) then ro (runW (R90_0 t0 t1) (((t0.length : Int) - t5 : Int).toNat + 1) t5) none (sumE (fun _ : Unit => k (.exit 0) ⟨[], []⟩) (fun _ : Unit => k .ret ⟨[(4, AV.bool false)], []⟩)) else none
  | _ => none
noncomputable def c90 : Cfg := cfg Try.prog [(90, 0, [0, 1, 5]), (90, 999, [4]), (90, 1000, []), (90, 1001, [0, 1, 5])] [(122, m122)] [] [] [(90, 0, l90_0)]
theorem s90_0 (ce : CallE) (t0 : List AV) (t1 : List AV) (t5 : Int) (next : St → Option AV) (k : Kont) : stepA (codeA c90 ce [] 90 0 (sub [1, 1, 0, 1, 0, 0] (body Try.f90))) (normA [] [0, 1, 5]) next ⟨[(0, AV.sl [.int .i64, .int .i64] t0), (1, AV.sl [.int .i64, .int .i64] t1), (5, AV.int .i64 t5)], []⟩ k = (bif decide (t5 < (t0.length : Int)) then (bif (decide (0 ≤ t5) && decide (t5 < (t0.length : Int))) then (bif (decide (0 ≤ t5) && decide (t5 < (t1.length : Int))) then (bif !(v122_0 (fI (t0.getD t5.toNat AV.undef) 0) (fI (t0.getD t5.toNat AV.undef) 1) (fI (t1.getD t5.toNat AV.undef) 0) (fI (t1.getD t5.toNat AV.undef) 1)) then k .ret ⟨[(4, AV.bool false)], []⟩
  else next ⟨[(0, AV.sl [.int .i64, .int .i64] t0), (1, AV.sl [.int .i64, .int .i64] t1), (5, AV.int .i64 (IntKind.i64.wrap (t5 + 1)))], []⟩)
  else none)
  else none)
  else k (.exit 0) ⟨[], []⟩) := by kernel_rfl
theorem st90_0 (t0 : List AV) (t1 : List AV) (ce : CallE) (k : Kont) (s : Int) (next : St → Option AV) : stepA (codeA c90 ce [] 90 0 (sub [1, 1, 0, 1, 0, 0] (body Try.f90))) (normA [] [0, 1, 5]) next ((fun s : Int => ⟨[(0, AV.sl [.int .i64, .int .i64] t0), (1, AV.sl [.int .i64, .int .i64] t1), (5, AV.int .i64 s)], []⟩) s) k = (R90_0 t0 t1 s).el none (fun s => next ((fun s : Int => ⟨[(0, AV.sl [.int .i64, .int .i64] t0), (1, AV.sl [.int .i64, .int .i64] t1), (5, AV.int .i64 s)], []⟩) s)) (sumE (fun _ : Unit => k (.exit 0) ⟨[], []⟩) (fun _ : Unit => k .ret ⟨[(4, AV.bool false)], []⟩)) := (s90_0 ce t0 t1 s next k).trans (by unfold R90_0; unfold F90_0; simp only [el_cond, el_ro, el_sum, el_fail, el_next, el_stop] <;> rfl)
theorem ok90_0 {ce : CallE} : LoopOK c90 ce [] 90 0 (sub [1, 1, 0, 1, 0, 0] (body Try.f90)) := by
  intro m hm st k r h
  obtain rfl : l90_0 = m := Option.some.inj hm
  unfold l90_0 at h
  split at h
  · rename_i g0 t0 g1 t1 t5
    obtain ⟨hg, h⟩ := bif_some h
    simp only [Bool.and_eq_true] at hg
    obtain ⟨q0, q1⟩ := hg
    obtain rfl := ctsEq_eq _ _ q0
    obtain rfl := ctsEq_eq _ _ q1
    refine ⟨(((t0.length : Int) - t5 : Int).toNat + 1), ?_⟩
    rw [← h]
    exact loop_run (fun s : Int => ⟨[(0, AV.sl [.int .i64, .int .i64] t0), (1, AV.sl [.int .i64, .int .i64] t1), (5, AV.int .i64 s)], []⟩) (sumE (fun _ : Unit => k (.exit 0) ⟨[], []⟩) (fun _ : Unit => k .ret ⟨[(4, AV.bool false)], []⟩)) (st90_0 t0 t1 ce k) _ t5
  · cases h
def q90 (a0 : List AV) (a1 : List AV) : Bool := (bif !decide ((a0.length : Int) = (a1.length : Int)) then true else (ro (runW (R90_0 a0 a1) (((a0.length : Int) - 0 : Int).toNat + 1) 0) false (sumE (fun _ => true) (fun _ => true))))
def v90_0 (a0 : List AV) (a1 : List AV) : Bool := (bif !decide ((a0.length : Int) = (a1.length : Int)) then false else (ro (runW (R90_0 a0 a1) (((a0.length : Int) - 0 : Int).toNat + 1) 0) false (sumE (fun _ => true) (fun _ => false))))
theorem e90 (a0 : List AV) (a1 : List AV) : funA c90 0 90 [AV.sl [.int .i64, .int .i64] a0, AV.sl [.int .i64, .int .i64] a1] = (bif !decide ((a0.length : Int) = (a1.length : Int)) then some (AV.bool false)
  else (ro (runW (R90_0 a0 a1) (((a0.length : Int) - 0 : Int).toNat + 1) 0) none (sumE (fun _ => some (AV.bool true)) (fun _ => some (AV.bool false))))) := by kernel_rfl
theorem r90 (a0 : List AV) (a1 : List AV) (h : q90 a0 a1 = true) : funA c90 0 90 [AV.sl [.int .i64, .int .i64] a0, AV.sl [.int .i64, .int .i64] a1] = some (AV.bool (v90_0 a0 a1)) := (e90 a0 a1).trans ((br (fun b => some (AV.bool (bif b then false else (ro (runW (R90_0 a0 a1) (((a0.length : Int) - 0 : Int).toNat + 1) 0) false (sumE (fun _ => true) (fun _ => false)))))) (fun _ => rfl) (brO (fun o : Option (Unit ⊕ Unit) => some (AV.bool (ro o false (sumE (fun _ => true) (fun _ => false))))) (brS (fun o : Unit ⊕ Unit => some (AV.bool ((sumE (fun _ => true) (fun _ => false)) o))) (fun _ => (fun _ => rfl)) (fun _ => (fun _ => rfl))))) h)
def m90 : TModel
  | [.sl g0 a0, .sl g1 a1] => bif ctsEq g0 ([.int .i64, .int .i64]) && ctsEq g1 ([.int .i64, .int .i64]) then some (q90 a0 a1, AV.bool (v90_0 a0 a1)) else none
  | _ => none
theorem k90 : Known Try.prog 90 := ⟨Try.f90, Try.func90, by kernel_rfl, by kernel_rfl⟩
theorem meets90 : Meets Try.prog 90 m90 := by
  refine meet (f := Try.f90) (l := [(0, sub [1, 1, 0, 1, 0, 0] (body Try.f90))]) (hs := [(90, 0, [0, 1, 5]), (90, 999, [4]), (90, 1000, []), (90, 1001, [0, 1, 5])]) (ts := [(122, m122)]) (ws := []) (is := []) (ls := [(90, 0, l90_0)]) (lvl := 0) mixed k90 Try.func90 (by kernel_rfl) (loops_cons ok90_0 noLoop) (allT_cons meets122 allT_nil) allM_nil noI fun w xs us r hl hv h => ?_
  unfold m90 at h
  split at h
  · rename_i g0 a0 g1 a1
    obtain ⟨hg, h⟩ := bif_pair h
    simp only [Bool.and_eq_true] at hg
    obtain ⟨q0, q1⟩ := hg
    obtain rfl := ctsEq_eq _ _ q0
    obtain rfl := ctsEq_eq _ _ q1
    obtain ⟨h1, rfl⟩ := pair_inj h
    exact r90 a0 a1 h1
  · cases h

/-! ### 40 loop.example/g01984/laws.eqCracker -/
noncomputable def c40 : Cfg := cfg Try.prog [(40, 999, [4])] [(30, m30), (90, m90)] [] [] []
def q40 (a0_0 : List AV) (a0_1 : List AV) (a0_2 : List AV) (a1_0 : List AV) (a1_1 : List AV) (a1_2 : List AV) : Bool := (q30 a0_0 a1_0 && (bif !(v30_0 a0_0 a1_0) then true else (q30 a0_1 a1_1 && (bif !(v30_0 a0_1 a1_1) then true else q90 a0_2 a1_2))))
def v40_0 (a0_0 : List AV) (a0_1 : List AV) (a0_2 : List AV) (a1_0 : List AV) (a1_1 : List AV) (a1_2 : List AV) : Bool := (bif !(v30_0 a0_0 a1_0) then false else (bif !(v30_0 a0_1 a1_1) then false else (bif !(v90_0 a0_2 a1_2) then false else true)))
theorem e40 (a0_0 : List AV) (a0_1 : List AV) (a0_2 : List AV) (a1_0 : List AV) (a1_1 : List AV) (a1_2 : List AV) : funA c40 0 40 [AV.agg [AV.sl [.int .i64] a0_0, AV.sl [.int .i64] a0_1, AV.sl [.int .i64, .int .i64] a0_2], AV.agg [AV.sl [.int .i64] a1_0, AV.sl [.int .i64] a1_1, AV.sl [.int .i64, .int .i64] a1_2]] = (bif q30 a0_0 a1_0 then (bif !(v30_0 a0_0 a1_0) then some (AV.bool false)
  else (bif q30 a0_1 a1_1 then (bif !(v30_0 a0_1 a1_1) then some (AV.bool false)
  else (bif q90 a0_2 a1_2 then (bif !(v90_0 a0_2 a1_2) then some (AV.bool false)
  else some (AV.bool true))
  else none))
  else none))
  else none) := by kernel_rfl
theorem r40 (a0_0 : List AV) (a0_1 : List AV) (a0_2 : List AV) (a1_0 : List AV) (a1_1 : List AV) (a1_2 : List AV) (h : q40 a0_0 a0_1 a0_2 a1_0 a1_1 a1_2 = true) : funA c40 0 40 [AV.agg [AV.sl [.int .i64] a0_0, AV.sl [.int .i64] a0_1, AV.sl [.int .i64, .int .i64] a0_2], AV.agg [AV.sl [.int .i64] a1_0, AV.sl [.int .i64] a1_1, AV.sl [.int .i64, .int .i64] a1_2]] = some (AV.bool (v40_0 a0_0 a0_1 a0_2 a1_0 a1_1 a1_2)) := (e40 a0_0 a0_1 a0_2 a1_0 a1_1 a1_2).trans ((brL (br (fun b => some (AV.bool (bif b then false else (bif !(v30_0 a0_1 a1_1) then false else (bif !(v90_0 a0_2 a1_2) then false else true))))) (fun _ => rfl) (brL (br (fun b => some (AV.bool (bif b then false else (bif !(v90_0 a0_2 a1_2) then false else true)))) (fun _ => rfl) (brL1 (brT (fun b => some (AV.bool (bif b then false else true))) (fun _ => rfl) (fun _ => rfl))))))) h)
def m40 : TModel
  | [.agg [.sl g0 a0_0, .sl g1 a0_1, .sl g2 a0_2], .agg [.sl g3 a1_0, .sl g4 a1_1, .sl g5 a1_2]] => bif ctsEq g0 ([.int .i64]) && ctsEq g1 ([.int .i64]) && ctsEq g2 ([.int .i64, .int .i64]) && ctsEq g3 ([.int .i64]) && ctsEq g4 ([.int .i64]) && ctsEq g5 ([.int .i64, .int .i64]) then some (q40 a0_0 a0_1 a0_2 a1_0 a1_1 a1_2, AV.bool (v40_0 a0_0 a0_1 a0_2 a1_0 a1_1 a1_2)) else none
  | _ => none
theorem k40 : Known Try.prog 40 := ⟨Try.f40, Try.func40, by kernel_rfl, by kernel_rfl⟩
theorem meets40 : Meets Try.prog 40 m40 := by
  refine meet (f := Try.f40) (l := []) (hs := [(40, 999, [4])]) (ts := [(30, m30), (90, m90)]) (ws := []) (is := []) (ls := []) (lvl := 0) mixed k40 Try.func40 (by kernel_rfl) noLoop (allT_cons meets30 (allT_cons meets90 allT_nil)) allM_nil noI fun w xs us r hl hv h => ?_
  unfold m40 at h
  split at h
  · rename_i g0 a0_0 g1 a0_1 g2 a0_2 g3 a1_0 g4 a1_1 g5 a1_2
    obtain ⟨hg, h⟩ := bif_pair h
    simp only [Bool.and_eq_true] at hg
    obtain ⟨⟨⟨⟨⟨q0, q1⟩, q2⟩, q3⟩, q4⟩, q5⟩ := hg
    obtain rfl := ctsEq_eq _ _ q0
    obtain rfl := ctsEq_eq _ _ q1
    obtain rfl := ctsEq_eq _ _ q2
    obtain rfl := ctsEq_eq _ _ q3
    obtain rfl := ctsEq_eq _ _ q4
    obtain rfl := ctsEq_eq _ _ q5
    obtain ⟨h1, rfl⟩ := pair_inj h
    exact r40 a0_0 a0_1 a0_2 a1_0 a1_1 a1_2 h1
  · cases h

/-! ### 32 loop.example/g01984/laws.markIntS -/
def F32_0 (t1 : Int) (t5 : Int) (h0 : List AV) : Out ((Int × Int × (List AV))) ((Int × (List AV))) := (bif decide (t5 < (h0.length : Int)) then (bif (decide (0 ≤ t5) && decide (t5 < (h0.length : Int))) then .next (IntKind.i64.wrap (t1 + 1), IntKind.i64.wrap (t5 + 1), h0.set t5.toNat (AV.agg [AV.int .i64 t1]))
  else .fail)
  else .stop (t1, h0))
def R32_0 : ((Int × Int × (List AV))) → Out ((Int × Int × (List AV))) ((Int × (List AV))) := fun s : Int × Int × (List AV) => F32_0 s.1 s.2.1 s.2.2
def l32_0 : LModel := fun _ _ st k => match st with
  | ⟨[(0, .own g0), (1, .int .i64 t1), (5, .int .i64 t5)], [(g1, ⟨false, g2, h0⟩)]⟩ => bif nmEq g0 ([1]) && nmEq g1 ([1]) && ctsEq g2 ([.int .i64]) then ro (runW (R32_0) (((h0.length : Int) - t5 : Int).toNat + 1) (t1, t5, h0)) none (fun p : Int × (List AV) => k (.exit 0) ⟨[(1, AV.int .i64 p.1)], [([1], ⟨false, [.int .i64], p.2⟩)]⟩) else none
  | _ => none
noncomputable def c32 : Cfg := cfg Try.prog [(32, 0, [0, 1, 5]), (32, 999, [4]), (32, 1000, [1]), (32, 1001, [0, 1, 5])] [] [] [] [(32, 0, l32_0)]
theorem s32_0 (ce : CallE) (t1 : Int) (t5 : Int) (h0 : List AV) (next : St → Option AV) (k : Kont) : stepA (codeA c32 ce [0] 32 0 (sub [1, 0, 1, 0, 0] (body Try.f32))) (normA [0] [0, 1, 5]) next ⟨[(0, AV.own [1]), (1, AV.int .i64 t1), (5, AV.int .i64 t5)], [([1], ⟨false, [.int .i64], h0⟩)]⟩ k = (bif decide (t5 < (h0.length : Int)) then (bif (decide (0 ≤ t5) && decide (t5 < (h0.length : Int))) then next ⟨[(0, AV.own [1]), (1, AV.int .i64 (IntKind.i64.wrap (t1 + 1))), (5, AV.int .i64 (IntKind.i64.wrap (t5 + 1)))], [([1], ⟨false, [.int .i64], h0.set t5.toNat (AV.agg [AV.int .i64 t1])⟩)]⟩
  else none)
  else k (.exit 0) ⟨[(1, AV.int .i64 t1)], [([1], ⟨false, [.int .i64], h0⟩)]⟩) := by kernel_rfl
theorem st32_0 (ce : CallE) (k : Kont) (s : (Int × Int × (List AV))) (next : St → Option AV) : stepA (codeA c32 ce [0] 32 0 (sub [1, 0, 1, 0, 0] (body Try.f32))) (normA [0] [0, 1, 5]) next ((fun s : Int × Int × (List AV) => ⟨[(0, AV.own [1]), (1, AV.int .i64 s.1), (5, AV.int .i64 s.2.1)], [([1], ⟨false, [.int .i64], s.2.2⟩)]⟩) s) k = (R32_0 s).el none (fun s => next ((fun s : Int × Int × (List AV) => ⟨[(0, AV.own [1]), (1, AV.int .i64 s.1), (5, AV.int .i64 s.2.1)], [([1], ⟨false, [.int .i64], s.2.2⟩)]⟩) s)) (fun p : Int × (List AV) => k (.exit 0) ⟨[(1, AV.int .i64 p.1)], [([1], ⟨false, [.int .i64], p.2⟩)]⟩) := (s32_0 ce s.1 s.2.1 s.2.2 next k).trans (by unfold R32_0; unfold F32_0; simp only [el_cond, el_ro, el_sum, el_fail, el_next, el_stop] <;> rfl)
theorem ok32_0 {ce : CallE} : LoopOK c32 ce [0] 32 0 (sub [1, 0, 1, 0, 0] (body Try.f32)) := by
  intro m hm st k r h
  obtain rfl : l32_0 = m := Option.some.inj hm
  unfold l32_0 at h
  split at h
  · rename_i g0 t1 t5 g1 g2 h0
    obtain ⟨hg, h⟩ := bif_some h
    simp only [Bool.and_eq_true] at hg
    obtain ⟨⟨q0, q1⟩, q2⟩ := hg
    obtain rfl := (nmEq_iff _ _).1 q0
    obtain rfl := (nmEq_iff _ _).1 q1
    obtain rfl := ctsEq_eq _ _ q2
    refine ⟨(((h0.length : Int) - t5 : Int).toNat + 1), ?_⟩
    rw [← h]
    exact loop_run (fun s : Int × Int × (List AV) => ⟨[(0, AV.own [1]), (1, AV.int .i64 s.1), (5, AV.int .i64 s.2.1)], [([1], ⟨false, [.int .i64], s.2.2⟩)]⟩) (fun p : Int × (List AV) => k (.exit 0) ⟨[(1, AV.int .i64 p.1)], [([1], ⟨false, [.int .i64], p.2⟩)]⟩) (st32_0 ce k) _ (t1, t5, h0)
  · cases h
def q32 (a1 : Int) (b0 : List AV) : Bool := (ro (runW (R32_0) (((b0.length : Int) - 0 : Int).toNat + 1) (a1, 0, b0)) false (fun p48 => true))
def v32_0 (a1 : Int) (b0 : List AV) : Int := (ro (runW (R32_0) (((b0.length : Int) - 0 : Int).toNat + 1) (a1, 0, b0)) 0 (fun p48 => p48.1))
def v32_1 (a1 : Int) (b0 : List AV) : List AV := (ro (runW (R32_0) (((b0.length : Int) - 0 : Int).toNat + 1) (a1, 0, b0)) [] (fun p48 => p48.2))
theorem e32 (a1 : Int) (b0 : List AV) (K : AV → List Blk → Option AV) : inlA c32 1 32 [AV.own [1], AV.int .i64 a1] [0] (canH 1 [⟨false, [.int .i64], b0⟩]) (keepB 1 K) = (ro (runW (R32_0) (((b0.length : Int) - 0 : Int).toNat + 1) (a1, 0, b0)) none (fun p48 => K (AV.int .i64 p48.1) [⟨false, [.int .i64], p48.2⟩])) := by kernel_rfl
theorem r32 (a1 : Int) (b0 : List AV) (K : AV → List Blk → Option AV) (h : q32 a1 b0 = true) : inlA c32 1 32 [AV.own [1], AV.int .i64 a1] [0] (canH 1 [⟨false, [.int .i64], b0⟩]) (keepB 1 K) = K (AV.int .i64 (v32_0 a1 b0)) [⟨false, [.int .i64], (v32_1 a1 b0)⟩] := (e32 a1 b0 K).trans ((brO (fun o : Option ((Int × (List AV))) => K (AV.int .i64 (ro o 0 (fun p48 => p48.1))) [⟨false, [.int .i64], (ro o [] (fun p48 => p48.2))⟩]) (fun p48 => (fun _ => rfl))) h)
def m32 : WModel
  | [.own g0, .int .i64 a1], [⟨false, g1, b0⟩] => bif nmEq g0 ([1]) && ctsEq g1 ([.int .i64]) then some (q32 a1 b0, AV.int .i64 (v32_0 a1 b0), [⟨false, [.int .i64], (v32_1 a1 b0)⟩]) else none
  | _, _ => none
theorem k32 : Known Try.prog 32 := ⟨Try.f32, Try.func32, by kernel_rfl, by kernel_rfl⟩
theorem meets32 : MeetsM Try.prog 32 m32 := by
  refine meetM (f := Try.f32) (l := [(0, sub [1, 0, 1, 0, 0] (body Try.f32))]) (hs := [(32, 0, [0, 1, 5]), (32, 999, [4]), (32, 1000, [1]), (32, 1001, [0, 1, 5])]) (ts := []) (ws := []) (is := []) (ls := [(32, 0, l32_0)]) (lvl := 0) mixed k32 Try.func32 (by kernel_rfl) (loops_cons ok32_0 noLoop) allT_nil allM_nil noI fun C w xs us bs r bs' hl hv hh h K => ?_
  unfold m32 at h
  split at h
  · rename_i g0 a1 g1 b0
    obtain ⟨hg, h⟩ := bif_pair h
    simp only [Bool.and_eq_true] at hg
    obtain ⟨q0, q1⟩ := hg
    obtain rfl := (nmEq_iff _ _).1 q0
    obtain rfl := ctsEq_eq _ _ q1
    obtain ⟨h1, rfl, rfl⟩ := trip_inj h
    exact r32 a1 b0 K h1
  · cases h

/-! ### 94 loop.example/g01984/laws.markPivotS -/
def F94_0 (t1 : Int) (t5 : Int) (h0 : List AV) : Out ((Int × Int × (List AV))) ((Int × (List AV))) := (bif decide (t5 < (h0.length : Int)) then (bif (decide (0 ≤ t5) && decide (t5 < (h0.length : Int))) then (bif (decide (0 ≤ t5) && decide (t5 < ((h0.set t5.toNat (AV.agg [AV.int .i64 t1, AV.int .i64 (fI (h0.getD t5.toNat AV.undef) 1)])).length : Int))) then .next (IntKind.i64.wrap (IntKind.i64.wrap (t1 + 1) + 1), IntKind.i64.wrap (t5 + 1), (h0.set t5.toNat (AV.agg [AV.int .i64 t1, AV.int .i64 (fI (h0.getD t5.toNat AV.undef) 1)])).set t5.toNat (AV.agg [AV.int .i64 (fI ((h0.set t5.toNat (AV.agg [AV.int .i64 t1, AV.int .i64 (fI (h0.getD t5.toNat AV.undef) 1)])).getD t5.toNat AV.undef) 0), AV.int .i64 (IntKind.i64.wrap (t1 + 1))]))
  else .fail)
  else .fail)
  else .stop (t1, h0))
def R94_0 : ((Int × Int × (List AV))) → Out ((Int × Int × (List AV))) ((Int × (List AV))) := fun s : Int × Int × (List AV) => F94_0 s.1 s.2.1 s.2.2
def l94_0 : LModel := fun _ _ st k => match st with
  | ⟨[(0, .own g0), (1, .int .i64 t1), (5, .int .i64 t5)], [(g1, ⟨false, g2, h0⟩)]⟩ => bif nmEq g0 ([1]) && nmEq g1 ([1]) && ctsEq g2 ([.int .i64, .int .i64]) then ro (runW (R94_0) (((h0.length : Int) - t5 : Int).toNat + 1) (t1, t5, h0)) none (fun p : Int × (List AV) => k (.exit 0) ⟨[(1, AV.int .i64 p.1)], [([1], ⟨false, [.int .i64, .int .i64], p.2⟩)]⟩) else none
  | _ => none
noncomputable def c94 : Cfg := cfg Try.prog [(94, 0, [0, 1, 5]), (94, 999, [4]), (94, 1000, [1]), (94, 1001, [0, 1, 5])] [] [] [] [(94, 0, l94_0)]
theorem s94_0 (ce : CallE) (t1 : Int) (t5 : Int) (h0 : List AV) (next : St → Option AV) (k : Kont) : stepA (codeA c94 ce [0] 94 0 (sub [1, 0, 1, 0, 0] (body Try.f94))) (normA [0] [0, 1, 5]) next ⟨[(0, AV.own [1]), (1, AV.int .i64 t1), (5, AV.int .i64 t5)], [([1], ⟨false, [.int .i64, .int .i64], h0⟩)]⟩ k = (bif decide (t5 < (h0.length : Int)) then (bif (decide (0 ≤ t5) && decide (t5 < (h0.length : Int))) then (bif (decide (0 ≤ t5) && decide (t5 < ((h0.set t5.toNat (AV.agg [AV.int .i64 t1, AV.int .i64 (fI (h0.getD t5.toNat AV.undef) 1)])).length : Int))) then next ⟨[(0, AV.own [1]), (1, AV.int .i64 (IntKind.i64.wrap (IntKind.i64.wrap (t1 + 1) + 1))), (5, AV.int .i64 (IntKind.i64.wrap (t5 + 1)))], [([1], ⟨false, [.int .i64, .int .i64], (h0.set t5.toNat (AV.agg [AV.int .i64 t1, AV.int .i64 (fI (h0.getD t5.toNat AV.undef) 1)])).set t5.toNat (AV.agg [AV.int .i64 (fI ((h0.set t5.toNat (AV.agg [AV.int .i64 t1, AV.int .i64 (fI (h0.getD t5.toNat AV.undef) 1)])).getD t5.toNat AV.undef) 0), AV.int .i64 (IntKind.i64.wrap (t1 + 1))])⟩)]⟩
  else none)
  else none)
  else k (.exit 0) ⟨[(1, AV.int .i64 t1)], [([1], ⟨false, [.int .i64, .int .i64], h0⟩)]⟩) := by kernel_rfl
theorem st94_0 (ce : CallE) (k : Kont) (s : (Int × Int × (List AV))) (next : St → Option AV) : stepA (codeA c94 ce [0] 94 0 (sub [1, 0, 1, 0, 0] (body Try.f94))) (normA [0] [0, 1, 5]) next ((fun s : Int × Int × (List AV) => ⟨[(0, AV.own [1]), (1, AV.int .i64 s.1), (5, AV.int .i64 s.2.1)], [([1], ⟨false, [.int .i64, .int .i64], s.2.2⟩)]⟩) s) k = (R94_0 s).el none (fun s => next ((fun s : Int × Int × (List AV) => ⟨[(0, AV.own [1]), (1, AV.int .i64 s.1), (5, AV.int .i64 s.2.1)], [([1], ⟨false, [.int .i64, .int .i64], s.2.2⟩)]⟩) s)) (fun p : Int × (List AV) => k (.exit 0) ⟨[(1, AV.int .i64 p.1)], [([1], ⟨false, [.int .i64, .int .i64], p.2⟩)]⟩) := (s94_0 ce s.1 s.2.1 s.2.2 next k).trans (by unfold R94_0; unfold F94_0; simp only [el_cond, el_ro, el_sum, el_fail, el_next, el_stop] <;> rfl)
theorem ok94_0 {ce : CallE} : LoopOK c94 ce [0] 94 0 (sub [1, 0, 1, 0, 0] (body Try.f94)) := by
  intro m hm st k r h
  obtain rfl : l94_0 = m := Option.some.inj hm
  unfold l94_0 at h
  split at h
  · rename_i g0 t1 t5 g1 g2 h0
    obtain ⟨hg, h⟩ := bif_some h
    simp only [Bool.and_eq_true] at hg
    obtain ⟨⟨q0, q1⟩, q2⟩ := hg
    obtain rfl := (nmEq_iff _ _).1 q0
    obtain rfl := (nmEq_iff _ _).1 q1
    obtain rfl := ctsEq_eq _ _ q2
    refine ⟨(((h0.length : Int) - t5 : Int).toNat + 1), ?_⟩
    rw [← h]
    exact loop_run (fun s : Int × Int × (List AV) => ⟨[(0, AV.own [1]), (1, AV.int .i64 s.1), (5, AV.int .i64 s.2.1)], [([1], ⟨false, [.int .i64, .int .i64], s.2.2⟩)]⟩) (fun p : Int × (List AV) => k (.exit 0) ⟨[(1, AV.int .i64 p.1)], [([1], ⟨false, [.int .i64, .int .i64], p.2⟩)]⟩) (st94_0 ce k) _ (t1, t5, h0)
  · cases h
def q94 (a1 : Int) (b0 : List AV) : Bool := (ro (runW (R94_0) (((b0.length : Int) - 0 : Int).toNat + 1) (a1, 0, b0)) false (fun p49 => true))
def v94_0 (a1 : Int) (b0 : List AV) : Int := (ro (runW (R94_0) (((b0.length : Int) - 0 : Int).toNat + 1) (a1, 0, b0)) 0 (fun p49 => p49.1))
def v94_1 (a1 : Int) (b0 : List AV) : List AV := (ro (runW (R94_0) (((b0.length : Int) - 0 : Int).toNat + 1) (a1, 0, b0)) [] (fun p49 => p49.2))
theorem e94 (a1 : Int) (b0 : List AV) (K : AV → List Blk → Option AV) : inlA c94 1 94 [AV.own [1], AV.int .i64 a1] [0] (canH 1 [⟨false, [.int .i64, .int .i64], b0⟩]) (keepB 1 K) = (ro (runW (R94_0) (((b0.length : Int) - 0 : Int).toNat + 1) (a1, 0, b0)) none (fun p49 => K (AV.int .i64 p49.1) [⟨false, [.int .i64, .int .i64], p49.2⟩])) := by kernel_rfl
theorem r94 (a1 : Int) (b0 : List AV) (K : AV → List Blk → Option AV) (h : q94 a1 b0 = true) : inlA c94 1 94 [AV.own [1], AV.int .i64 a1] [0] (canH 1 [⟨false, [.int .i64, .int .i64], b0⟩]) (keepB 1 K) = K (AV.int .i64 (v94_0 a1 b0)) [⟨false, [.int .i64, .int .i64], (v94_1 a1 b0)⟩] := (e94 a1 b0 K).trans ((brO (fun o : Option ((Int × (List AV))) => K (AV.int .i64 (ro o 0 (fun p49 => p49.1))) [⟨false, [.int .i64, .int .i64], (ro o [] (fun p49 => p49.2))⟩]) (fun p49 => (fun _ => rfl))) h)
def m94 : WModel
  | [.own g0, .int .i64 a1], [⟨false, g1, b0⟩] => bif nmEq g0 ([1]) && ctsEq g1 ([.int .i64, .int .i64]) then some (q94 a1 b0, AV.int .i64 (v94_0 a1 b0), [⟨false, [.int .i64, .int .i64], (v94_1 a1 b0)⟩]) else none
  | _, _ => none
theorem k94 : Known Try.prog 94 := ⟨Try.f94, Try.func94, by kernel_rfl, by kernel_rfl⟩
theorem meets94 : MeetsM Try.prog 94 m94 := by
  refine meetM (f := Try.f94) (l := [(0, sub [1, 0, 1, 0, 0] (body Try.f94))]) (hs := [(94, 0, [0, 1, 5]), (94, 999, [4]), (94, 1000, [1]), (94, 1001, [0, 1, 5])]) (ts := []) (ws := []) (is := []) (ls := [(94, 0, l94_0)]) (lvl := 0) mixed k94 Try.func94 (by kernel_rfl) (loops_cons ok94_0 noLoop) allT_nil allM_nil noI fun C w xs us bs r bs' hl hv hh h K => ?_
  unfold m94 at h
  split at h
  · rename_i g0 a1 g1 b0
    obtain ⟨hg, h⟩ := bif_pair h
    simp only [Bool.and_eq_true] at hg
    obtain ⟨q0, q1⟩ := hg
    obtain rfl := (nmEq_iff _ _).1 q0
    obtain rfl := ctsEq_eq _ _ q1
    obtain ⟨h1, rfl, rfl⟩ := trip_inj h
    exact r94 a1 b0 K h1
  · cases h

/-! ### 43 loop.example/g01984/laws.markCracker -/
noncomputable def c43 : Cfg := cfg Try.prog [(43, 999, [4])] [] [(32, m32), (94, m94)] [] []
def q43 (a1 : Int) (b0 : List AV) (b1 : List AV) (b2 : List AV) : Bool := (q32 a1 b0 && (q32 (v32_0 a1 b0) b1 && q94 (v32_0 (v32_0 a1 b0) b1) b2))
def v43_0 (a1 : Int) (b0 : List AV) (b1 : List AV) (b2 : List AV) : Int := (v94_0 (v32_0 (v32_0 a1 b0) b1) b2)
def v43_1 (a1 : Int) (b0 : List AV) (b1 : List AV) (b2 : List AV) : List AV := (v32_1 a1 b0)
def v43_2 (a1 : Int) (b0 : List AV) (b1 : List AV) (b2 : List AV) : List AV := (v32_1 (v32_0 a1 b0) b1)
def v43_3 (a1 : Int) (b0 : List AV) (b1 : List AV) (b2 : List AV) : List AV := (v94_1 (v32_0 (v32_0 a1 b0) b1) b2)
theorem e43 (a1 : Int) (b0 : List AV) (b1 : List AV) (b2 : List AV) (K : AV → List Blk → Option AV) : inlA c43 1 43 [AV.agg [AV.own [1], AV.own [2], AV.own [3]], AV.int .i64 a1] [0] (canH 1 [⟨false, [.int .i64], b0⟩, ⟨false, [.int .i64], b1⟩, ⟨false, [.int .i64, .int .i64], b2⟩]) (keepB 3 K) = (bif q32 a1 b0 then (bif q32 (v32_0 a1 b0) b1 then (bif q94 (v32_0 (v32_0 a1 b0) b1) b2 then K (AV.int .i64 (v94_0 (v32_0 (v32_0 a1 b0) b1) b2)) [⟨false, [.int .i64], (v32_1 a1 b0)⟩, ⟨false, [.int .i64], (v32_1 (v32_0 a1 b0) b1)⟩, ⟨false, [.int .i64, .int .i64], (v94_1 (v32_0 (v32_0 a1 b0) b1) b2)⟩]
  else none)
  else none)
  else none) := by kernel_rfl
theorem r43 (a1 : Int) (b0 : List AV) (b1 : List AV) (b2 : List AV) (K : AV → List Blk → Option AV) (h : q43 a1 b0 b1 b2 = true) : inlA c43 1 43 [AV.agg [AV.own [1], AV.own [2], AV.own [3]], AV.int .i64 a1] [0] (canH 1 [⟨false, [.int .i64], b0⟩, ⟨false, [.int .i64], b1⟩, ⟨false, [.int .i64, .int .i64], b2⟩]) (keepB 3 K) = K (AV.int .i64 (v43_0 a1 b0 b1 b2)) [⟨false, [.int .i64], (v43_1 a1 b0 b1 b2)⟩, ⟨false, [.int .i64], (v43_2 a1 b0 b1 b2)⟩, ⟨false, [.int .i64, .int .i64], (v43_3 a1 b0 b1 b2)⟩] := (e43 a1 b0 b1 b2 K).trans ((brL (brL (brL1 (fun _ => rfl)))) h)
def m43 : WModel
  | [.agg [.own g0, .own g1, .own g2], .int .i64 a1], [⟨false, g3, b0⟩, ⟨false, g4, b1⟩, ⟨false, g5, b2⟩] => bif nmEq g0 ([1]) && nmEq g1 ([2]) && nmEq g2 ([3]) && ctsEq g3 ([.int .i64]) && ctsEq g4 ([.int .i64]) && ctsEq g5 ([.int .i64, .int .i64]) then some (q43 a1 b0 b1 b2, AV.int .i64 (v43_0 a1 b0 b1 b2), [⟨false, [.int .i64], (v43_1 a1 b0 b1 b2)⟩, ⟨false, [.int .i64], (v43_2 a1 b0 b1 b2)⟩, ⟨false, [.int .i64, .int .i64], (v43_3 a1 b0 b1 b2)⟩]) else none
  | _, _ => none
theorem k43 : Known Try.prog 43 := ⟨Try.f43, Try.func43, by kernel_rfl, by kernel_rfl⟩
theorem meets43 : MeetsM Try.prog 43 m43 := by
  refine meetM (f := Try.f43) (l := []) (hs := [(43, 999, [4])]) (ts := []) (ws := [(32, m32), (94, m94)]) (is := []) (ls := []) (lvl := 0) mixed k43 Try.func43 (by kernel_rfl) noLoop allT_nil (allM_cons meets32 (allM_cons meets94 allM_nil)) noI fun C w xs us bs r bs' hl hv hh h K => ?_
  unfold m43 at h
  split at h
  · rename_i g0 g1 g2 a1 g3 b0 g4 b1 g5 b2
    obtain ⟨hg, h⟩ := bif_pair h
    simp only [Bool.and_eq_true] at hg
    obtain ⟨⟨⟨⟨⟨q0, q1⟩, q2⟩, q3⟩, q4⟩, q5⟩ := hg
    obtain rfl := (nmEq_iff _ _).1 q0
    obtain rfl := (nmEq_iff _ _).1 q1
    obtain rfl := (nmEq_iff _ _).1 q2
    obtain rfl := ctsEq_eq _ _ q3
    obtain rfl := ctsEq_eq _ _ q4
    obtain rfl := ctsEq_eq _ _ q5
    obtain ⟨h1, rfl, rfl⟩ := trip_inj h
    exact r43 a1 b0 b1 b2 K h1
  · cases h

/-! ### 49 loop.example/g01984/laws.markPairS -/
def F49_0 (t1 : Int) (t5 : Int) (h0 : List AV) : Out ((Int × Int × (List AV))) ((Int × (List AV))) := (bif decide (t5 < (h0.length : Int)) then (bif (decide (0 ≤ t5) && decide (t5 < (h0.length : Int))) then (bif (decide (0 ≤ t5) && decide (t5 < ((h0.set t5.toNat (AV.agg [AV.int .i64 t1, AV.int .i64 (fI (h0.getD t5.toNat AV.undef) 1)])).length : Int))) then .next (IntKind.i64.wrap (IntKind.i64.wrap (t1 + 1) + 1), IntKind.i64.wrap (t5 + 1), (h0.set t5.toNat (AV.agg [AV.int .i64 t1, AV.int .i64 (fI (h0.getD t5.toNat AV.undef) 1)])).set t5.toNat (AV.agg [AV.int .i64 (fI ((h0.set t5.toNat (AV.agg [AV.int .i64 t1, AV.int .i64 (fI (h0.getD t5.toNat AV.undef) 1)])).getD t5.toNat AV.undef) 0), AV.int .i64 (IntKind.i64.wrap (t1 + 1))]))
  else .fail)
  else .fail)
  else .stop (t1, h0))
def R49_0 : ((Int × Int × (List AV))) → Out ((Int × Int × (List AV))) ((Int × (List AV))) := fun s : Int × Int × (List AV) => F49_0 s.1 s.2.1 s.2.2
def l49_0 : LModel := fun _ _ st k => match st with
  | ⟨[(0, .own g0), (1, .int .i64 t1), (5, .int .i64 t5)], [(g1, ⟨false, g2, h0⟩)]⟩ => bif nmEq g0 ([1]) && nmEq g1 ([1]) && ctsEq g2 ([.int .i64, .int .i64]) then ro (runW (R49_0) (((h0.length : Int) - t5 : Int).toNat + 1) (t1, t5, h0)) none (fun p : Int × (List AV) => k (.exit 0) ⟨[(1, AV.int .i64 p.1)], [([1], ⟨false, [.int .i64, .int .i64], p.2⟩)]⟩) else none
  | _ => none
noncomputable def c49 : Cfg := cfg Try.prog [(49, 0, [0, 1, 5]), (49, 999, [4]), (49, 1000, [1]), (49, 1001, [0, 1, 5])] [] [] [] [(49, 0, l49_0)]
theorem s49_0 (ce : CallE) (t1 : Int) (t5 : Int) (h0 : List AV) (next : St → Option AV) (k : Kont) : stepA (codeA c49 ce [0] 49 0 (sub [1, 0, 1, 0, 0] (body Try.f49))) (normA [0] [0, 1, 5]) next ⟨[(0, AV.own [1]), (1, AV.int .i64 t1), (5, AV.int .i64 t5)], [([1], ⟨false, [.int .i64, .int .i64], h0⟩)]⟩ k = (bif decide (t5 < (h0.length : Int)) then (bif (decide (0 ≤ t5) && decide (t5 < (h0.length : Int))) then (bif (decide (0 ≤ t5) && decide (t5 < ((h0.set t5.toNat (AV.agg [AV.int .i64 t1, AV.int .i64 (fI (h0.getD t5.toNat AV.undef) 1)])).length : Int))) then next ⟨[(0, AV.own [1]), (1, AV.int .i64 (IntKind.i64.wrap (IntKind.i64.wrap (t1 + 1) + 1))), (5, AV.int .i64 (IntKind.i64.wrap (t5 + 1)))], [([1], ⟨false, [.int .i64, .int .i64], (h0.set t5.toNat (AV.agg [AV.int .i64 t1, AV.int .i64 (fI (h0.getD t5.toNat AV.undef) 1)])).set t5.toNat (AV.agg [AV.int .i64 (fI ((h0.set t5.toNat (AV.agg [AV.int .i64 t1, AV.int .i64 (fI (h0.getD t5.toNat AV.undef) 1)])).getD t5.toNat AV.undef) 0), AV.int .i64 (IntKind.i64.wrap (t1 + 1))])⟩)]⟩
  else none)
  else none)
  else k (.exit 0) ⟨[(1, AV.int .i64 t1)], [([1], ⟨false, [.int .i64, .int .i64], h0⟩)]⟩) := by kernel_rfl
theorem st49_0 (ce : CallE) (k : Kont) (s : (Int × Int × (List AV))) (next : St → Option AV) : stepA (codeA c49 ce [0] 49 0 (sub [1, 0, 1, 0, 0] (body Try.f49))) (normA [0] [0, 1, 5]) next ((fun s : Int × Int × (List AV) => ⟨[(0, AV.own [1]), (1, AV.int .i64 s.1), (5, AV.int .i64 s.2.1)], [([1], ⟨false, [.int .i64, .int .i64], s.2.2⟩)]⟩) s) k = (R49_0 s).el none (fun s => next ((fun s : Int × Int × (List AV) => ⟨[(0, AV.own [1]), (1, AV.int .i64 s.1), (5, AV.int .i64 s.2.1)], [([1], ⟨false, [.int .i64, .int .i64], s.2.2⟩)]⟩) s)) (fun p : Int × (List AV) => k (.exit 0) ⟨[(1, AV.int .i64 p.1)], [([1], ⟨false, [.int .i64, .int .i64], p.2⟩)]⟩) := (s49_0 ce s.1 s.2.1 s.2.2 next k).trans (by unfold R49_0; unfold F49_0; simp only [el_cond, el_ro, el_sum, el_fail, el_next, el_stop] <;> rfl)
theorem ok49_0 {ce : CallE} : LoopOK c49 ce [0] 49 0 (sub [1, 0, 1, 0, 0] (body Try.f49)) := by
  intro m hm st k r h
  obtain rfl : l49_0 = m := Option.some.inj hm
  unfold l49_0 at h
  split at h
  · rename_i g0 t1 t5 g1 g2 h0
    obtain ⟨hg, h⟩ := bif_some h
    simp only [Bool.and_eq_true] at hg
    obtain ⟨⟨q0, q1⟩, q2⟩ := hg
    obtain rfl := (nmEq_iff _ _).1 q0
    obtain rfl := (nmEq_iff _ _).1 q1
    obtain rfl := ctsEq_eq _ _ q2
    refine ⟨(((h0.length : Int) - t5 : Int).toNat + 1), ?_⟩
    rw [← h]
    exact loop_run (fun s : Int × Int × (List AV) => ⟨[(0, AV.own [1]), (1, AV.int .i64 s.1), (5, AV.int .i64 s.2.1)], [([1], ⟨false, [.int .i64, .int .i64], s.2.2⟩)]⟩) (fun p : Int × (List AV) => k (.exit 0) ⟨[(1, AV.int .i64 p.1)], [([1], ⟨false, [.int .i64, .int .i64], p.2⟩)]⟩) (st49_0 ce k) _ (t1, t5, h0)
  · cases h
def q49 (a1 : Int) (b0 : List AV) : Bool := (ro (runW (R49_0) (((b0.length : Int) - 0 : Int).toNat + 1) (a1, 0, b0)) false (fun p50 => true))
def v49_0 (a1 : Int) (b0 : List AV) : Int := (ro (runW (R49_0) (((b0.length : Int) - 0 : Int).toNat + 1) (a1, 0, b0)) 0 (fun p50 => p50.1))
def v49_1 (a1 : Int) (b0 : List AV) : List AV := (ro (runW (R49_0) (((b0.length : Int) - 0 : Int).toNat + 1) (a1, 0, b0)) [] (fun p50 => p50.2))
theorem e49 (a1 : Int) (b0 : List AV) (K : AV → List Blk → Option AV) : inlA c49 1 49 [AV.own [1], AV.int .i64 a1] [0] (canH 1 [⟨false, [.int .i64, .int .i64], b0⟩]) (keepB 1 K) = (ro (runW (R49_0) (((b0.length : Int) - 0 : Int).toNat + 1) (a1, 0, b0)) none (fun p50 => K (AV.int .i64 p50.1) [⟨false, [.int .i64, .int .i64], p50.2⟩])) := by kernel_rfl
theorem r49 (a1 : Int) (b0 : List AV) (K : AV → List Blk → Option AV) (h : q49 a1 b0 = true) : inlA c49 1 49 [AV.own [1], AV.int .i64 a1] [0] (canH 1 [⟨false, [.int .i64, .int .i64], b0⟩]) (keepB 1 K) = K (AV.int .i64 (v49_0 a1 b0)) [⟨false, [.int .i64, .int .i64], (v49_1 a1 b0)⟩] := (e49 a1 b0 K).trans ((brO (fun o : Option ((Int × (List AV))) => K (AV.int .i64 (ro o 0 (fun p50 => p50.1))) [⟨false, [.int .i64, .int .i64], (ro o [] (fun p50 => p50.2))⟩]) (fun p50 => (fun _ => rfl))) h)
def m49 : WModel
  | [.own g0, .int .i64 a1], [⟨false, g1, b0⟩] => bif nmEq g0 ([1]) && ctsEq g1 ([.int .i64, .int .i64]) then some (q49 a1 b0, AV.int .i64 (v49_0 a1 b0), [⟨false, [.int .i64, .int .i64], (v49_1 a1 b0)⟩]) else none
  | _, _ => none
theorem k49 : Known Try.prog 49 := ⟨Try.f49, Try.func49, by kernel_rfl, by kernel_rfl⟩
theorem meets49 : MeetsM Try.prog 49 m49 := by
  refine meetM (f := Try.f49) (l := [(0, sub [1, 0, 1, 0, 0] (body Try.f49))]) (hs := [(49, 0, [0, 1, 5]), (49, 999, [4]), (49, 1000, [1]), (49, 1001, [0, 1, 5])]) (ts := []) (ws := []) (is := []) (ls := [(49, 0, l49_0)]) (lvl := 0) mixed k49 Try.func49 (by kernel_rfl) (loops_cons ok49_0 noLoop) allT_nil allM_nil noI fun C w xs us bs r bs' hl hv hh h K => ?_
  unfold m49 at h
  split at h
  · rename_i g0 a1 g1 b0
    obtain ⟨hg, h⟩ := bif_pair h
    simp only [Bool.and_eq_true] at hg
    obtain ⟨q0, q1⟩ := hg
    obtain rfl := (nmEq_iff _ _).1 q0
    obtain rfl := ctsEq_eq _ _ q1
    obtain ⟨h1, rfl, rfl⟩ := trip_inj h
    exact r49 a1 b0 K h1
  · cases h

/-! ### 50 loop.example/g01984/laws.heldPairS -/
def F50_0 (t0 : List AV) (t1 : Int) (t5 : Int) : Out ((Int × Int)) (Int ⊕ Unit) := (bif decide (t5 < (t0.length : Int)) then (bif (decide (0 ≤ t5) && decide (t5 < (t0.length : Int))) then (bif !decide (fI (t0.getD t5.toNat AV.undef) 0 = t1) then .stop (.inr ())
  else (bif (decide (0 ≤ t5) && decide (t5 < (t0.length : Int))) then (bif !decide (fI (t0.getD t5.toNat AV.undef) 1 = IntKind.i64.wrap (t1 + 1)) then .stop (.inr ())
  else .next (IntKind.i64.wrap (IntKind.i64.wrap (t1 + 1) + 1), IntKind.i64.wrap (t5 + 1)))
  else .fail))
  else .fail)
  else .stop (.inl t1))
def R50_0 (t0 : List AV) : ((Int × Int)) → Out ((Int × Int)) (Int ⊕ Unit) := fun s : Int × Int => F50_0 t0 s.1 s.2
def l50_0 : LModel := fun _ _ st k => match st with
  | ⟨[(0, .sl g0 t0), (1, .int .i64 t1), (5, .int .i64 t5)], []⟩ => bif ctsEq g0 ([.int .i64, .int .i64]) then ro (runW (R50_0 t0) (((t0.length : Int) - t5 : Int).toNat + 1) (t1, t5)) none (sumE (fun p : Int => k (.exit 0) ⟨[(1, AV.int .i64 p)], []⟩) (fun _ : Unit => k .ret ⟨[(4, AV.int .i64 (-1))], []⟩)) else none
  | _ => none
noncomputable def c50 : Cfg := cfg Try.prog [(50, 0, [0, 1, 5]), (50, 999, [4]), (50, 1000, [1]), (50, 1001, [0, 1, 5])] [] [] [] [(50, 0, l50_0)]
theorem s50_0 (ce : CallE) (t0 : List AV) (t1 : Int) (t5 : Int) (next : St → Option AV) (k : Kont) : stepA (codeA c50 ce [] 50 0 (sub [1, 0, 1, 0, 0] (body Try.f50))) (normA [] [0, 1, 5]) next ⟨[(0, AV.sl [.int .i64, .int .i64] t0), (1, AV.int .i64 t1), (5, AV.int .i64 t5)], []⟩ k = (bif decide (t5 < (t0.length : Int)) then (bif (decide (0 ≤ t5) && decide (t5 < (t0.length : Int))) then (bif !decide (fI (t0.getD t5.toNat AV.undef) 0 = t1) then k .ret ⟨[(4, AV.int .i64 (-1))], []⟩
  else (bif (decide (0 ≤ t5) && decide (t5 < (t0.length : Int))) then (bif !decide (fI (t0.getD t5.toNat AV.undef) 1 = IntKind.i64.wrap (t1 + 1)) then k .ret ⟨[(4, AV.int .i64 (-1))], []⟩
  else next ⟨[(0, AV.sl [.int .i64, .int .i64] t0), (1, AV.int .i64 (IntKind.i64.wrap (IntKind.i64.wrap (t1 + 1) + 1))), (5, AV.int .i64 (IntKind.i64.wrap (t5 + 1)))], []⟩)
  else none))
  else none)
  else k (.exit 0) ⟨[(1, AV.int .i64 t1)], []⟩) := by kernel_rfl
theorem st50_0 (t0 : List AV) (ce : CallE) (k : Kont) (s : (Int × Int)) (next : St → Option AV) : stepA (codeA c50 ce [] 50 0 (sub [1, 0, 1, 0, 0] (body Try.f50))) (normA [] [0, 1, 5]) next ((fun s : Int × Int => ⟨[(0, AV.sl [.int .i64, .int .i64] t0), (1, AV.int .i64 s.1), (5, AV.int .i64 s.2)], []⟩) s) k = (R50_0 t0 s).el none (fun s => next ((fun s : Int × Int => ⟨[(0, AV.sl [.int .i64, .int .i64] t0), (1, AV.int .i64 s.1), (5, AV.int .i64 s.2)], []⟩) s)) (sumE (fun p : Int => k (.exit 0) ⟨[(1, AV.int .i64 p)], []⟩) (fun _ : Unit => k .ret ⟨[(4, AV.int .i64 (-1))], []⟩)) := (s50_0 ce t0 s.1 s.2 next k).trans (by unfold R50_0; unfold F50_0; simp only [el_cond, el_ro, el_sum, el_fail, el_next, el_stop] <;> rfl)
theorem ok50_0 {ce : CallE} : LoopOK c50 ce [] 50 0 (sub [1, 0, 1, 0, 0] (body Try.f50)) := by
  intro m hm st k r h
  obtain rfl : l50_0 = m := Option.some.inj hm
  unfold l50_0 at h
  split at h
  · rename_i g0 t0 t1 t5
    obtain ⟨hg, h⟩ := bif_some h
    have q0 := hg
    obtain rfl := ctsEq_eq _ _ q0
    refine ⟨(((t0.length : Int) - t5 : Int).toNat + 1), ?_⟩
    rw [← h]
    exact loop_run (fun s : Int × Int => ⟨[(0, AV.sl [.int .i64, .int .i64] t0), (1, AV.int .i64 s.1), (5, AV.int .i64 s.2)], []⟩) (sumE (fun p : Int => k (.exit 0) ⟨[(1, AV.int .i64 p)], []⟩) (fun _ : Unit => k .ret ⟨[(4, AV.int .i64 (-1))], []⟩)) (st50_0 t0 ce k) _ (t1, t5)
  · cases h
def q50 (a0 : List AV) (a1 : Int) : Bool := (ro (runW (R50_0 a0) (((a0.length : Int) - 0 : Int).toNat + 1) (a1, 0)) false (sumE (fun p51 => true) (fun _ => true)))
def v50_0 (a0 : List AV) (a1 : Int) : Int := (ro (runW (R50_0 a0) (((a0.length : Int) - 0 : Int).toNat + 1) (a1, 0)) 0 (sumE (fun p51 => p51) (fun _ => (-1))))
theorem e50 (a0 : List AV) (a1 : Int) : funA c50 0 50 [AV.sl [.int .i64, .int .i64] a0, AV.int .i64 a1] = (ro (runW (R50_0 a0) (((a0.length : Int) - 0 : Int).toNat + 1) (a1, 0)) none (sumE (fun p51 => some (AV.int .i64 p51)) (fun _ => some (AV.int .i64 (-1))))) := by kernel_rfl
theorem r50 (a0 : List AV) (a1 : Int) (h : q50 a0 a1 = true) : funA c50 0 50 [AV.sl [.int .i64, .int .i64] a0, AV.int .i64 a1] = some (AV.int .i64 (v50_0 a0 a1)) := (e50 a0 a1).trans ((brO (fun o : Option (Int ⊕ Unit) => some (AV.int .i64 (ro o 0 (sumE (fun p51 => p51) (fun _ => (-1)))))) (brS (fun o : Int ⊕ Unit => some (AV.int .i64 ((sumE (fun p51 => p51) (fun _ => (-1))) o))) (fun p51 => (fun _ => rfl)) (fun _ => (fun _ => rfl)))) h)
def m50 : TModel
  | [.sl g0 a0, .int .i64 a1] => bif ctsEq g0 ([.int .i64, .int .i64]) then some (q50 a0 a1, AV.int .i64 (v50_0 a0 a1)) else none
  | _ => none
theorem k50 : Known Try.prog 50 := ⟨Try.f50, Try.func50, by kernel_rfl, by kernel_rfl⟩
theorem meets50 : Meets Try.prog 50 m50 := by
  refine meet (f := Try.f50) (l := [(0, sub [1, 0, 1, 0, 0] (body Try.f50))]) (hs := [(50, 0, [0, 1, 5]), (50, 999, [4]), (50, 1000, [1]), (50, 1001, [0, 1, 5])]) (ts := []) (ws := []) (is := []) (ls := [(50, 0, l50_0)]) (lvl := 0) mixed k50 Try.func50 (by kernel_rfl) (loops_cons ok50_0 noLoop) allT_nil allM_nil noI fun w xs us r hl hv h => ?_
  unfold m50 at h
  split at h
  · rename_i g0 a0 a1
    obtain ⟨hg, h⟩ := bif_pair h
    have q0 := hg
    obtain rfl := ctsEq_eq _ _ q0
    obtain ⟨h1, rfl⟩ := pair_inj h
    exact r50 a0 a1 h1
  · cases h

/-! ### 10 loop.example/g01984/laws.FnExactScanJoin -/
noncomputable def c10 : Cfg := cfg Try.prog [(10, 999, [6])] [(36, m36), (38, m38), (40, m40), (45, m45), (46, m46), (47, m47), (48, m48), (50, m50)] [(43, m43), (49, m49)] [] []
def raw10 (a0_0 : List AV) (a0_1 : List AV) (a0_2 : List AV) (a1_0 : List AV) (a1_1 : List AV) (a1_2 : List AV) (a2_0 : Int) (a2_1 : Int) : Option AV := (bif decide ((v36_0 a0_0 a0_1 a0_2 1048576) < 0) then some (AV.bool true)
  else (bif decide ((v36_0 a1_0 a1_1 a1_2 (v36_0 a0_0 a0_1 a0_2 1048576)) < 0) then some (AV.bool true)
  else (bif q38 a0_0 a0_1 a0_2 then (bif q38 a1_0 a1_1 a1_2 then (bif q45 (v38_0 a0_0 a0_1 a0_2) (v38_1 a0_0 a0_1 a0_2) (v38_2 a0_0 a0_1 a0_2) (v38_0 a1_0 a1_1 a1_2) (v38_1 a1_0 a1_1 a1_2) (v38_2 a1_0 a1_1 a1_2) (v46_0 a2_0 a2_1) (v46_1 a2_0 a2_1) then (bif q38 a0_0 a0_1 a0_2 then (bif q38 a1_0 a1_1 a1_2 then (bif q47 (v38_0 a0_0 a0_1 a0_2) (v38_1 a0_0 a0_1 a0_2) (v38_2 a0_0 a0_1 a0_2) (v38_0 a1_0 a1_1 a1_2) (v38_1 a1_0 a1_1 a1_2) (v38_2 a1_0 a1_1 a1_2) (v46_0 a2_0 a2_1) (v46_1 a2_0 a2_1) then (bif q48 (v47_0 (v38_0 a0_0 a0_1 a0_2) (v38_1 a0_0 a0_1 a0_2) (v38_2 a0_0 a0_1 a0_2) (v38_0 a1_0 a1_1 a1_2) (v38_1 a1_0 a1_1 a1_2) (v38_2 a1_0 a1_1 a1_2) (v46_0 a2_0 a2_1) (v46_1 a2_0 a2_1)) (v45_0 (v38_0 a0_0 a0_1 a0_2) (v38_1 a0_0 a0_1 a0_2) (v38_2 a0_0 a0_1 a0_2) (v38_0 a1_0 a1_1 a1_2) (v38_1 a1_0 a1_1 a1_2) (v38_2 a1_0 a1_1 a1_2) (v46_0 a2_0 a2_1) (v46_1 a2_0 a2_1)) then (bif !(v48_0 (v47_0 (v38_0 a0_0 a0_1 a0_2) (v38_1 a0_0 a0_1 a0_2) (v38_2 a0_0 a0_1 a0_2) (v38_0 a1_0 a1_1 a1_2) (v38_1 a1_0 a1_1 a1_2) (v38_2 a1_0 a1_1 a1_2) (v46_0 a2_0 a2_1) (v46_1 a2_0 a2_1)) (v45_0 (v38_0 a0_0 a0_1 a0_2) (v38_1 a0_0 a0_1 a0_2) (v38_2 a0_0 a0_1 a0_2) (v38_0 a1_0 a1_1 a1_2) (v38_1 a1_0 a1_1 a1_2) (v38_2 a1_0 a1_1 a1_2) (v46_0 a2_0 a2_1) (v46_1 a2_0 a2_1))) then some (AV.bool false)
  else (bif q38 a0_0 a0_1 a0_2 then (bif q40 (v38_0 a0_0 a0_1 a0_2) (v38_1 a0_0 a0_1 a0_2) (v38_2 a0_0 a0_1 a0_2) (v38_0 a0_0 a0_1 a0_2) (v38_1 a0_0 a0_1 a0_2) (v38_2 a0_0 a0_1 a0_2) then (bif !(v40_0 (v38_0 a0_0 a0_1 a0_2) (v38_1 a0_0 a0_1 a0_2) (v38_2 a0_0 a0_1 a0_2) (v38_0 a0_0 a0_1 a0_2) (v38_1 a0_0 a0_1 a0_2) (v38_2 a0_0 a0_1 a0_2)) then some (AV.bool false)
  else (bif q38 a1_0 a1_1 a1_2 then (bif q40 (v38_0 a1_0 a1_1 a1_2) (v38_1 a1_0 a1_1 a1_2) (v38_2 a1_0 a1_1 a1_2) (v38_0 a1_0 a1_1 a1_2) (v38_1 a1_0 a1_1 a1_2) (v38_2 a1_0 a1_1 a1_2) then (bif !(v40_0 (v38_0 a1_0 a1_1 a1_2) (v38_1 a1_0 a1_1 a1_2) (v38_2 a1_0 a1_1 a1_2) (v38_0 a1_0 a1_1 a1_2) (v38_1 a1_0 a1_1 a1_2) (v38_2 a1_0 a1_1 a1_2)) then some (AV.bool false)
  else (bif q43 1 (v38_0 a0_0 a0_1 a0_2) (v38_1 a0_0 a0_1 a0_2) (v38_2 a0_0 a0_1 a0_2) then (bif q43 (v43_0 1 (v38_0 a0_0 a0_1 a0_2) (v38_1 a0_0 a0_1 a0_2) (v38_2 a0_0 a0_1 a0_2)) (v38_0 a1_0 a1_1 a1_2) (v38_1 a1_0 a1_1 a1_2) (v38_2 a1_0 a1_1 a1_2) then (bif decide ((v43_0 (v43_0 1 (v38_0 a0_0 a0_1 a0_2) (v38_1 a0_0 a0_1 a0_2) (v38_2 a0_0 a0_1 a0_2)) (v38_0 a1_0 a1_1 a1_2) (v38_1 a1_0 a1_1 a1_2) (v38_2 a1_0 a1_1 a1_2)) < 0) then some (AV.bool false)
  else (bif q48 (v47_0 (v38_0 a0_0 a0_1 a0_2) (v38_1 a0_0 a0_1 a0_2) (v38_2 a0_0 a0_1 a0_2) (v38_0 a1_0 a1_1 a1_2) (v38_1 a1_0 a1_1 a1_2) (v38_2 a1_0 a1_1 a1_2) (v46_0 a2_0 a2_1) (v46_1 a2_0 a2_1)) (v45_0 (v38_0 a0_0 a0_1 a0_2) (v38_1 a0_0 a0_1 a0_2) (v38_2 a0_0 a0_1 a0_2) (v38_0 a1_0 a1_1 a1_2) (v38_1 a1_0 a1_1 a1_2) (v38_2 a1_0 a1_1 a1_2) (v46_0 a2_0 a2_1) (v46_1 a2_0 a2_1)) then (bif !(v48_0 (v47_0 (v38_0 a0_0 a0_1 a0_2) (v38_1 a0_0 a0_1 a0_2) (v38_2 a0_0 a0_1 a0_2) (v38_0 a1_0 a1_1 a1_2) (v38_1 a1_0 a1_1 a1_2) (v38_2 a1_0 a1_1 a1_2) (v46_0 a2_0 a2_1) (v46_1 a2_0 a2_1)) (v45_0 (v38_0 a0_0 a0_1 a0_2) (v38_1 a0_0 a0_1 a0_2) (v38_2 a0_0 a0_1 a0_2) (v38_0 a1_0 a1_1 a1_2) (v38_1 a1_0 a1_1 a1_2) (v38_2 a1_0 a1_1 a1_2) (v46_0 a2_0 a2_1) (v46_1 a2_0 a2_1))) then some (AV.bool false)
  else (bif q49 1 (v47_0 (v38_0 a0_0 a0_1 a0_2) (v38_1 a0_0 a0_1 a0_2) (v38_2 a0_0 a0_1 a0_2) (v38_0 a1_0 a1_1 a1_2) (v38_1 a1_0 a1_1 a1_2) (v38_2 a1_0 a1_1 a1_2) (v46_0 a2_0 a2_1) (v46_1 a2_0 a2_1)) then (bif q50 (v49_1 1 (v47_0 (v38_0 a0_0 a0_1 a0_2) (v38_1 a0_0 a0_1 a0_2) (v38_2 a0_0 a0_1 a0_2) (v38_0 a1_0 a1_1 a1_2) (v38_1 a1_0 a1_1 a1_2) (v38_2 a1_0 a1_1 a1_2) (v46_0 a2_0 a2_1) (v46_1 a2_0 a2_1))) 1 then (bif decide ((v50_0 (v49_1 1 (v47_0 (v38_0 a0_0 a0_1 a0_2) (v38_1 a0_0 a0_1 a0_2) (v38_2 a0_0 a0_1 a0_2) (v38_0 a1_0 a1_1 a1_2) (v38_1 a1_0 a1_1 a1_2) (v38_2 a1_0 a1_1 a1_2) (v46_0 a2_0 a2_1) (v46_1 a2_0 a2_1))) 1) < 0) then some (AV.bool false)
  else (bif !decide ((v50_0 (v49_1 1 (v47_0 (v38_0 a0_0 a0_1 a0_2) (v38_1 a0_0 a0_1 a0_2) (v38_2 a0_0 a0_1 a0_2) (v38_0 a1_0 a1_1 a1_2) (v38_1 a1_0 a1_1 a1_2) (v38_2 a1_0 a1_1 a1_2) (v46_0 a2_0 a2_1) (v46_1 a2_0 a2_1))) 1) = (v49_0 1 (v47_0 (v38_0 a0_0 a0_1 a0_2) (v38_1 a0_0 a0_1 a0_2) (v38_2 a0_0 a0_1 a0_2) (v38_0 a1_0 a1_1 a1_2) (v38_1 a1_0 a1_1 a1_2) (v38_2 a1_0 a1_1 a1_2) (v46_0 a2_0 a2_1) (v46_1 a2_0 a2_1)))) then some (AV.bool false)
  else (bif q38 a0_0 a0_1 a0_2 then (bif q38 a1_0 a1_1 a1_2 then (bif q47 (v38_0 a0_0 a0_1 a0_2) (v38_1 a0_0 a0_1 a0_2) (v38_2 a0_0 a0_1 a0_2) (v38_0 a1_0 a1_1 a1_2) (v38_1 a1_0 a1_1 a1_2) (v38_2 a1_0 a1_1 a1_2) (v46_0 a2_0 a2_1) (v46_1 a2_0 a2_1) then (bif q48 (v47_0 (v38_0 a0_0 a0_1 a0_2) (v38_1 a0_0 a0_1 a0_2) (v38_2 a0_0 a0_1 a0_2) (v38_0 a1_0 a1_1 a1_2) (v38_1 a1_0 a1_1 a1_2) (v38_2 a1_0 a1_1 a1_2) (v46_0 a2_0 a2_1) (v46_1 a2_0 a2_1)) (v45_0 (v38_0 a0_0 a0_1 a0_2) (v38_1 a0_0 a0_1 a0_2) (v38_2 a0_0 a0_1 a0_2) (v38_0 a1_0 a1_1 a1_2) (v38_1 a1_0 a1_1 a1_2) (v38_2 a1_0 a1_1 a1_2) (v46_0 a2_0 a2_1) (v46_1 a2_0 a2_1)) then (bif !(v48_0 (v47_0 (v38_0 a0_0 a0_1 a0_2) (v38_1 a0_0 a0_1 a0_2) (v38_2 a0_0 a0_1 a0_2) (v38_0 a1_0 a1_1 a1_2) (v38_1 a1_0 a1_1 a1_2) (v38_2 a1_0 a1_1 a1_2) (v46_0 a2_0 a2_1) (v46_1 a2_0 a2_1)) (v45_0 (v38_0 a0_0 a0_1 a0_2) (v38_1 a0_0 a0_1 a0_2) (v38_2 a0_0 a0_1 a0_2) (v38_0 a1_0 a1_1 a1_2) (v38_1 a1_0 a1_1 a1_2) (v38_2 a1_0 a1_1 a1_2) (v46_0 a2_0 a2_1) (v46_1 a2_0 a2_1))) then some (AV.bool false)
  else (bif q50 (v49_1 1 (v47_0 (v38_0 a0_0 a0_1 a0_2) (v38_1 a0_0 a0_1 a0_2) (v38_2 a0_0 a0_1 a0_2) (v38_0 a1_0 a1_1 a1_2) (v38_1 a1_0 a1_1 a1_2) (v38_2 a1_0 a1_1 a1_2) (v46_0 a2_0 a2_1) (v46_1 a2_0 a2_1))) 1 then (bif decide ((v50_0 (v49_1 1 (v47_0 (v38_0 a0_0 a0_1 a0_2) (v38_1 a0_0 a0_1 a0_2) (v38_2 a0_0 a0_1 a0_2) (v38_0 a1_0 a1_1 a1_2) (v38_1 a1_0 a1_1 a1_2) (v38_2 a1_0 a1_1 a1_2) (v46_0 a2_0 a2_1) (v46_1 a2_0 a2_1))) 1) < 0) then some (AV.bool false)
  else (bif !decide ((v50_0 (v49_1 1 (v47_0 (v38_0 a0_0 a0_1 a0_2) (v38_1 a0_0 a0_1 a0_2) (v38_2 a0_0 a0_1 a0_2) (v38_0 a1_0 a1_1 a1_2) (v38_1 a1_0 a1_1 a1_2) (v38_2 a1_0 a1_1 a1_2) (v46_0 a2_0 a2_1) (v46_1 a2_0 a2_1))) 1) = (v49_0 1 (v47_0 (v38_0 a0_0 a0_1 a0_2) (v38_1 a0_0 a0_1 a0_2) (v38_2 a0_0 a0_1 a0_2) (v38_0 a1_0 a1_1 a1_2) (v38_1 a1_0 a1_1 a1_2) (v38_2 a1_0 a1_1 a1_2) (v46_0 a2_0 a2_1) (v46_1 a2_0 a2_1)))) then some (AV.bool false)
  else some (AV.bool true)))
  else none))
  else none)
  else none)
  else none)
  else none)))
  else none)
  else none))
  else none))
  else none)
  else none))
  else none)
  else none))
  else none)
  else none))
  else none)
  else none)
  else none)
  else none)
  else none)
  else none)
  else none)))
theorem e10 (a0_0 : List AV) (a0_1 : List AV) (a0_2 : List AV) (a1_0 : List AV) (a1_1 : List AV) (a1_2 : List AV) (a2_0 : Int) (a2_1 : Int) : funA c10 0 10 [AV.agg [AV.sl [.int .i64] a0_0, AV.sl [.int .i64] a0_1, AV.sl [.int .i64, .int .i64] a0_2], AV.agg [AV.sl [.int .i64] a1_0, AV.sl [.int .i64] a1_1, AV.sl [.int .i64, .int .i64] a1_2], AV.agg [AV.int .i64 a2_0, AV.int .i64 a2_1]] = raw10 a0_0 a0_1 a0_2 a1_0 a1_1 a1_2 a2_0 a2_1 := by kernel_rfl
def m10 : TModel
  | [.agg [.sl g0 a0_0, .sl g1 a0_1, .sl g2 a0_2], .agg [.sl g3 a1_0, .sl g4 a1_1, .sl g5 a1_2], .agg [.int .i64 a2_0, .int .i64 a2_1]] => bif ctsEq g0 ([.int .i64]) && ctsEq g1 ([.int .i64]) && ctsEq g2 ([.int .i64, .int .i64]) && ctsEq g3 ([.int .i64]) && ctsEq g4 ([.int .i64]) && ctsEq g5 ([.int .i64, .int .i64]) then (raw10 a0_0 a0_1 a0_2 a1_0 a1_1 a1_2 a2_0 a2_1).map fun r => (true, r) else none
  | _ => none
theorem k10 : Known Try.prog 10 := ⟨Try.f10, Try.func10, by kernel_rfl, by kernel_rfl⟩
theorem meets10 : Meets Try.prog 10 m10 := by
  refine meet (f := Try.f10) (l := []) (hs := [(10, 999, [6])]) (ts := [(36, m36), (38, m38), (40, m40), (45, m45), (46, m46), (47, m47), (48, m48), (50, m50)]) (ws := [(43, m43), (49, m49)]) (is := []) (ls := []) (lvl := 0) mixed k10 Try.func10 (by kernel_rfl) noLoop (allT_cons meets36 (allT_cons meets38 (allT_cons meets40 (allT_cons meets45 (allT_cons meets46 (allT_cons meets47 (allT_cons meets48 (allT_cons meets50 allT_nil)))))))) (allM_cons meets43 (allM_cons meets49 allM_nil)) noI fun w xs us r hl hv h => ?_
  unfold m10 at h
  split at h
  · rename_i g0 a0_0 g1 a0_1 g2 a0_2 g3 a1_0 g4 a1_1 g5 a1_2 a2_0 a2_1
    obtain ⟨hg, h⟩ := bif_pair h
    simp only [Bool.and_eq_true] at hg
    obtain ⟨⟨⟨⟨⟨q0, q1⟩, q2⟩, q3⟩, q4⟩, q5⟩ := hg
    obtain rfl := ctsEq_eq _ _ q0
    obtain rfl := ctsEq_eq _ _ q1
    obtain rfl := ctsEq_eq _ _ q2
    obtain rfl := ctsEq_eq _ _ q3
    obtain rfl := ctsEq_eq _ _ q4
    obtain rfl := ctsEq_eq _ _ q5
    obtain ⟨r', h1, h2⟩ := Option.map_eq_some_iff.1 h
    obtain ⟨_, rfl⟩ := Prod.mk.inj h2
    exact (e10 a0_0 a0_1 a0_2 a1_0 a1_1 a1_2 a2_0 a2_1).trans h1
  · cases h
end Go.Proofs.Ytdhhceamknidmaa
