/- The walk of what this claim reaches: printed by a program, each equation checked by the kernel. -/
import Derived.Test.YtepfklcdpkpepaaJW1
import Derived.Test.YtepfklcdpkpepaaProg
import Derived.KernelRfl
namespace Go.Proofs.Ytepfklcdpkpepaa
open Go Go.Proofs.VE
set_option linter.unusedVariables false
set_option linter.unusedSimpArgs false
set_option maxRecDepth 100000
set_option maxHeartbeats 4000000
/-! ### 107 loop.example/g01984/impl.NewCracker -/
def F107_0_s0 (t13 : Int) (h0 : List AV) (t14 : Int) : Out (Int ⊕ (Int × (List AV))) (Unit ⊕ ((List AV))) := (bif decide (t14 < t13) then (bif (decide ((([AV.int .i64 t14]).length) * 8 ≤ 140737488355328) && decide ((([AV.int .i64 t14]).length) ≤ 140737488355328)) then .next (.inr (IntKind.i64.wrap (t14 + 1), [AV.int .i64 t14]))
   else .fail)
  else .stop (.inl ()))
def F107_0_s1 (t13 : Int) (h0 : List AV) (t14 : Int) (h1 : List AV) : Out (Int ⊕ (Int × (List AV))) (Unit ⊕ ((List AV))) := (bif decide (t14 < t13) then (bif (decide ((h1.length + ([AV.int .i64 t14]).length) * 8 ≤ 140737488355328) && decide ((h1.length + ([AV.int .i64 t14]).length) ≤ 140737488355328)) then .next (.inr (IntKind.i64.wrap (t14 + 1), h1 ++ ([AV.int .i64 t14])))
   else .fail)
  else .stop (.inr h1))
def R107_0 (t13 : Int) (h0 : List AV) : (Int ⊕ (Int × (List AV))) → Out (Int ⊕ (Int × (List AV))) (Unit ⊕ ((List AV))) := sumE (fun s : Int => F107_0_s0 t13 h0 s) (fun s : Int × (List AV) => F107_0_s1 t13 h0 s.1 s.2)
def l107_0 : LModel := fun _ _ st k => match st with
  | ⟨[(2, .ptr g0 g1 g2), (3, .ptr g3 g4 g5), (13, .int .i64 t13), (14, .int .i64 t14)], [(g6, ⟨false, g7, h0⟩), (g8, ⟨true, [], [.agg [.snil, .snil, .snil]]⟩), (g9, ⟨true, [], [.agg [.own g10, .snil, .snil]]⟩)]⟩ => bif nmEq g0 ([0, 2]) && Nat.beq g1 0 && Nat.beq g2 0 && nmEq g3 ([0, 3]) && Nat.beq g4 0 && Nat.beq g5 0 && nmEq g6 ([0, 0, 3]) && ctsEq g7 ([.int .i64]) && nmEq g8 ([0, 2]) && nmEq g9 ([0, 3]) && nmEq g10 ([0, 0, 3]) then ro (runW (R107_0 t13 h0) ((t13 - t14).toNat + 1) (.inl t14)) none (sumE (fun _ : Unit => k (.exit 0) ⟨[(2, AV.ptr [0, 2] 0 0), (3, AV.ptr [0, 3] 0 0)], [([0, 0, 3], ⟨false, [.int .i64], h0⟩), ([0, 2], ⟨true, [], [AV.agg [AV.snil, AV.snil, AV.snil]]⟩), ([0, 3], ⟨true, [], [AV.agg [AV.own [0, 0, 3], AV.snil, AV.snil]]⟩)]⟩) (fun p : (List AV) => k (.exit 0) ⟨[(2, AV.ptr [0, 2] 0 0), (3, AV.ptr [0, 3] 0 0)], [([0, 0, 3], ⟨false, [.int .i64], h0⟩), ([0, 1, 3], ⟨false, [.int .i64], p⟩), ([0, 2], ⟨true, [], [AV.agg [AV.snil, AV.snil, AV.snil]]⟩), ([0, 3], ⟨true, [], [AV.agg [AV.own [0, 0, 3], AV.own [0, 1, 3], AV.snil]]⟩)]⟩)) else none
  | ⟨[(2, .ptr g0 g1 g2), (3, .ptr g3 g4 g5), (13, .int .i64 t13), (14, .int .i64 t14)], [(g6, ⟨false, g7, h0⟩), (g8, ⟨false, g9, h1⟩), (g10, ⟨true, [], [.agg [.snil, .snil, .snil]]⟩), (g11, ⟨true, [], [.agg [.own g12, .own g13, .snil]]⟩)]⟩ => bif nmEq g0 ([0, 2]) && Nat.beq g1 0 && Nat.beq g2 0 && nmEq g3 ([0, 3]) && Nat.beq g4 0 && Nat.beq g5 0 && nmEq g6 ([0, 0, 3]) && ctsEq g7 ([.int .i64]) && nmEq g8 ([0, 1, 3]) && ctsEq g9 ([.int .i64]) && nmEq g10 ([0, 2]) && nmEq g11 ([0, 3]) && nmEq g12 ([0, 0, 3]) && nmEq g13 ([0, 1, 3]) then ro (runW (R107_0 t13 h0) ((t13 - t14).toNat + 1) (.inr (t14, h1))) none (sumE (fun _ : Unit => k (.exit 0) ⟨[(2, AV.ptr [0, 2] 0 0), (3, AV.ptr [0, 3] 0 0)], [([0, 0, 3], ⟨false, [.int .i64], h0⟩), ([0, 2], ⟨true, [], [AV.agg [AV.snil, AV.snil, AV.snil]]⟩), ([0, 3], ⟨true, [], [AV.agg [AV.own [0, 0, 3], AV.snil, AV.snil]]⟩)]⟩) (fun p : (List AV) => k (.exit 0) ⟨[(2, AV.ptr [0, 2] 0 0), (3, AV.ptr [0, 3] 0 0)], [([0, 0, 3], ⟨false, [.int .i64], h0⟩), ([0, 1, 3], ⟨false, [.int .i64], p⟩), ([0, 2], ⟨true, [], [AV.agg [AV.snil, AV.snil, AV.snil]]⟩), ([0, 3], ⟨true, [], [AV.agg [AV.own [0, 0, 3], AV.own [0, 1, 3], AV.snil]]⟩)]⟩)) else none
  | _ => none
noncomputable def c107 : Cfg := cfg Try.prog [(107, 0, [2, 3, 13, 14]), (107, 999, [2]), (107, 1000, [2, 3]), (107, 1001, [2, 3, 13, 14])] [(105, m105), (139, m139)] [] [] [(107, 0, l107_0)]
theorem s107_0_s0 (ce : CallE) (t13 : Int) (t14 : Int) (h0 : List AV) (next : St → Option AV) (k : Kont) : stepA (codeA c107 ce [] 107 0 (sub [1, 1, 1, 0, 1, 0, 0] (body Try.f107))) (normA [] [2, 3, 13, 14]) next ⟨[(2, AV.ptr [0, 2] 0 0), (3, AV.ptr [0, 3] 0 0), (13, AV.int .i64 t13), (14, AV.int .i64 t14)], [([0, 0, 3], ⟨false, [.int .i64], h0⟩), ([0, 2], ⟨true, [], [AV.agg [AV.snil, AV.snil, AV.snil]]⟩), ([0, 3], ⟨true, [], [AV.agg [AV.own [0, 0, 3], AV.snil, AV.snil]]⟩)]⟩ k = (bif decide (t14 < t13) then (bif (decide ((([AV.int .i64 t14]).length) * 8 ≤ 140737488355328) && decide ((([AV.int .i64 t14]).length) ≤ 140737488355328)) then next ⟨[(2, AV.ptr [0, 2] 0 0), (3, AV.ptr [0, 3] 0 0), (13, AV.int .i64 t13), (14, AV.int .i64 (IntKind.i64.wrap (t14 + 1)))], [([0, 0, 3], ⟨false, [.int .i64], h0⟩), ([0, 1, 3], ⟨false, [.int .i64], [AV.int .i64 t14]⟩), ([0, 2], ⟨true, [], [AV.agg [AV.snil, AV.snil, AV.snil]]⟩), ([0, 3], ⟨true, [], [AV.agg [AV.own [0, 0, 3], AV.own [0, 1, 3], AV.snil]]⟩)]⟩
   else none)
  else k (.exit 0) ⟨[(2, AV.ptr [0, 2] 0 0), (3, AV.ptr [0, 3] 0 0)], [([0, 0, 3], ⟨false, [.int .i64], h0⟩), ([0, 2], ⟨true, [], [AV.agg [AV.snil, AV.snil, AV.snil]]⟩), ([0, 3], ⟨true, [], [AV.agg [AV.own [0, 0, 3], AV.snil, AV.snil]]⟩)]⟩) := by kernel_rfl
theorem s107_0_s1 (ce : CallE) (t13 : Int) (t14 : Int) (h0 : List AV) (h1 : List AV) (next : St → Option AV) (k : Kont) : stepA (codeA c107 ce [] 107 0 (sub [1, 1, 1, 0, 1, 0, 0] (body Try.f107))) (normA [] [2, 3, 13, 14]) next ⟨[(2, AV.ptr [0, 2] 0 0), (3, AV.ptr [0, 3] 0 0), (13, AV.int .i64 t13), (14, AV.int .i64 t14)], [([0, 0, 3], ⟨false, [.int .i64], h0⟩), ([0, 1, 3], ⟨false, [.int .i64], h1⟩), ([0, 2], ⟨true, [], [AV.agg [AV.snil, AV.snil, AV.snil]]⟩), ([0, 3], ⟨true, [], [AV.agg [AV.own [0, 0, 3], AV.own [0, 1, 3], AV.snil]]⟩)]⟩ k = (bif decide (t14 < t13) then (bif (decide ((h1.length + ([AV.int .i64 t14]).length) * 8 ≤ 140737488355328) && decide ((h1.length + ([AV.int .i64 t14]).length) ≤ 140737488355328)) then next ⟨[(2, AV.ptr [0, 2] 0 0), (3, AV.ptr [0, 3] 0 0), (13, AV.int .i64 t13), (14, AV.int .i64 (IntKind.i64.wrap (t14 + 1)))], [([0, 0, 3], ⟨false, [.int .i64], h0⟩), ([0, 1, 3], ⟨false, [.int .i64], h1 ++ ([AV.int .i64 t14])⟩), ([0, 2], ⟨true, [], [AV.agg [AV.snil, AV.snil, AV.snil]]⟩), ([0, 3], ⟨true, [], [AV.agg [AV.own [0, 0, 3], AV.own [0, 1, 3], AV.snil]]⟩)]⟩
   else none)
  else k (.exit 0) ⟨[(2, AV.ptr [0, 2] 0 0), (3, AV.ptr [0, 3] 0 0)], [([0, 0, 3], ⟨false, [.int .i64], h0⟩), ([0, 1, 3], ⟨false, [.int .i64], h1⟩), ([0, 2], ⟨true, [], [AV.agg [AV.snil, AV.snil, AV.snil]]⟩), ([0, 3], ⟨true, [], [AV.agg [AV.own [0, 0, 3], AV.own [0, 1, 3], AV.snil]]⟩)]⟩) := by kernel_rfl
theorem st107_0 (t13 : Int) (h0 : List AV) (ce : CallE) (k : Kont) (s : Int ⊕ (Int × (List AV))) (next : St → Option AV) : stepA (codeA c107 ce [] 107 0 (sub [1, 1, 1, 0, 1, 0, 0] (body Try.f107))) (normA [] [2, 3, 13, 14]) next ((sumE (fun s : Int => ⟨[(2, AV.ptr [0, 2] 0 0), (3, AV.ptr [0, 3] 0 0), (13, AV.int .i64 t13), (14, AV.int .i64 s)], [([0, 0, 3], ⟨false, [.int .i64], h0⟩), ([0, 2], ⟨true, [], [AV.agg [AV.snil, AV.snil, AV.snil]]⟩), ([0, 3], ⟨true, [], [AV.agg [AV.own [0, 0, 3], AV.snil, AV.snil]]⟩)]⟩) (fun s : Int × (List AV) => ⟨[(2, AV.ptr [0, 2] 0 0), (3, AV.ptr [0, 3] 0 0), (13, AV.int .i64 t13), (14, AV.int .i64 s.1)], [([0, 0, 3], ⟨false, [.int .i64], h0⟩), ([0, 1, 3], ⟨false, [.int .i64], s.2⟩), ([0, 2], ⟨true, [], [AV.agg [AV.snil, AV.snil, AV.snil]]⟩), ([0, 3], ⟨true, [], [AV.agg [AV.own [0, 0, 3], AV.own [0, 1, 3], AV.snil]]⟩)]⟩)) s) k = (R107_0 t13 h0 s).el none (fun s => next ((sumE (fun s : Int => ⟨[(2, AV.ptr [0, 2] 0 0), (3, AV.ptr [0, 3] 0 0), (13, AV.int .i64 t13), (14, AV.int .i64 s)], [([0, 0, 3], ⟨false, [.int .i64], h0⟩), ([0, 2], ⟨true, [], [AV.agg [AV.snil, AV.snil, AV.snil]]⟩), ([0, 3], ⟨true, [], [AV.agg [AV.own [0, 0, 3], AV.snil, AV.snil]]⟩)]⟩) (fun s : Int × (List AV) => ⟨[(2, AV.ptr [0, 2] 0 0), (3, AV.ptr [0, 3] 0 0), (13, AV.int .i64 t13), (14, AV.int .i64 s.1)], [([0, 0, 3], ⟨false, [.int .i64], h0⟩), ([0, 1, 3], ⟨false, [.int .i64], s.2⟩), ([0, 2], ⟨true, [], [AV.agg [AV.snil, AV.snil, AV.snil]]⟩), ([0, 3], ⟨true, [], [AV.agg [AV.own [0, 0, 3], AV.own [0, 1, 3], AV.snil]]⟩)]⟩)) s)) (sumE (fun _ : Unit => k (.exit 0) ⟨[(2, AV.ptr [0, 2] 0 0), (3, AV.ptr [0, 3] 0 0)], [([0, 0, 3], ⟨false, [.int .i64], h0⟩), ([0, 2], ⟨true, [], [AV.agg [AV.snil, AV.snil, AV.snil]]⟩), ([0, 3], ⟨true, [], [AV.agg [AV.own [0, 0, 3], AV.snil, AV.snil]]⟩)]⟩) (fun p : (List AV) => k (.exit 0) ⟨[(2, AV.ptr [0, 2] 0 0), (3, AV.ptr [0, 3] 0 0)], [([0, 0, 3], ⟨false, [.int .i64], h0⟩), ([0, 1, 3], ⟨false, [.int .i64], p⟩), ([0, 2], ⟨true, [], [AV.agg [AV.snil, AV.snil, AV.snil]]⟩), ([0, 3], ⟨true, [], [AV.agg [AV.own [0, 0, 3], AV.own [0, 1, 3], AV.snil]]⟩)]⟩)) := (match s with | .inl s => (s107_0_s0 ce t13 s h0 next k).trans (by unfold R107_0; unfold F107_0_s0; simp only [el_cond, el_ro, el_sum, el_fail, el_next, el_stop] <;> rfl) | .inr s => (s107_0_s1 ce t13 s.1 h0 s.2 next k).trans (by unfold R107_0; unfold F107_0_s1; simp only [el_cond, el_ro, el_sum, el_fail, el_next, el_stop] <;> rfl))
theorem ok107_0 {ce : CallE} : LoopOK c107 ce [] 107 0 (sub [1, 1, 1, 0, 1, 0, 0] (body Try.f107)) := by
  intro m hm st k r h
  obtain rfl : l107_0 = m := Option.some.inj hm
  unfold l107_0 at h
  split at h
  · rename_i g0 g1 g2 g3 g4 g5 t13 t14 g6 g7 h0 g8 g9 g10
    obtain ⟨hg, h⟩ := bif_some h
    simp only [Bool.and_eq_true] at hg
    obtain ⟨⟨⟨⟨⟨⟨⟨⟨⟨⟨q0, q1⟩, q2⟩, q3⟩, q4⟩, q5⟩, q6⟩, q7⟩, q8⟩, q9⟩, q10⟩ := hg
    obtain rfl := (nmEq_iff _ _).1 q0
    obtain rfl := Nat.eq_of_beq_eq_true q1
    obtain rfl := Nat.eq_of_beq_eq_true q2
    obtain rfl := (nmEq_iff _ _).1 q3
    obtain rfl := Nat.eq_of_beq_eq_true q4
    obtain rfl := Nat.eq_of_beq_eq_true q5
    obtain rfl := (nmEq_iff _ _).1 q6
    obtain rfl := ctsEq_eq _ _ q7
    obtain rfl := (nmEq_iff _ _).1 q8
    obtain rfl := (nmEq_iff _ _).1 q9
    obtain rfl := (nmEq_iff _ _).1 q10
    refine ⟨((t13 - t14).toNat + 1), ?_⟩
    rw [← h]
    exact loop_run (sumE (fun s : Int => ⟨[(2, AV.ptr [0, 2] 0 0), (3, AV.ptr [0, 3] 0 0), (13, AV.int .i64 t13), (14, AV.int .i64 s)], [([0, 0, 3], ⟨false, [.int .i64], h0⟩), ([0, 2], ⟨true, [], [AV.agg [AV.snil, AV.snil, AV.snil]]⟩), ([0, 3], ⟨true, [], [AV.agg [AV.own [0, 0, 3], AV.snil, AV.snil]]⟩)]⟩) (fun s : Int × (List AV) => ⟨[(2, AV.ptr [0, 2] 0 0), (3, AV.ptr [0, 3] 0 0), (13, AV.int .i64 t13), (14, AV.int .i64 s.1)], [([0, 0, 3], ⟨false, [.int .i64], h0⟩), ([0, 1, 3], ⟨false, [.int .i64], s.2⟩), ([0, 2], ⟨true, [], [AV.agg [AV.snil, AV.snil, AV.snil]]⟩), ([0, 3], ⟨true, [], [AV.agg [AV.own [0, 0, 3], AV.own [0, 1, 3], AV.snil]]⟩)]⟩)) (sumE (fun _ : Unit => k (.exit 0) ⟨[(2, AV.ptr [0, 2] 0 0), (3, AV.ptr [0, 3] 0 0)], [([0, 0, 3], ⟨false, [.int .i64], h0⟩), ([0, 2], ⟨true, [], [AV.agg [AV.snil, AV.snil, AV.snil]]⟩), ([0, 3], ⟨true, [], [AV.agg [AV.own [0, 0, 3], AV.snil, AV.snil]]⟩)]⟩) (fun p : (List AV) => k (.exit 0) ⟨[(2, AV.ptr [0, 2] 0 0), (3, AV.ptr [0, 3] 0 0)], [([0, 0, 3], ⟨false, [.int .i64], h0⟩), ([0, 1, 3], ⟨false, [.int .i64], p⟩), ([0, 2], ⟨true, [], [AV.agg [AV.snil, AV.snil, AV.snil]]⟩), ([0, 3], ⟨true, [], [AV.agg [AV.own [0, 0, 3], AV.own [0, 1, 3], AV.snil]]⟩)]⟩)) (st107_0 t13 h0 ce k) _ (.inl t14)
  · rename_i g0 g1 g2 g3 g4 g5 t13 t14 g6 g7 h0 g8 g9 h1 g10 g11 g12 g13
    obtain ⟨hg, h⟩ := bif_some h
    simp only [Bool.and_eq_true] at hg
    obtain ⟨⟨⟨⟨⟨⟨⟨⟨⟨⟨⟨⟨⟨q0, q1⟩, q2⟩, q3⟩, q4⟩, q5⟩, q6⟩, q7⟩, q8⟩, q9⟩, q10⟩, q11⟩, q12⟩, q13⟩ := hg
    obtain rfl := (nmEq_iff _ _).1 q0
    obtain rfl := Nat.eq_of_beq_eq_true q1
    obtain rfl := Nat.eq_of_beq_eq_true q2
    obtain rfl := (nmEq_iff _ _).1 q3
    obtain rfl := Nat.eq_of_beq_eq_true q4
    obtain rfl := Nat.eq_of_beq_eq_true q5
    obtain rfl := (nmEq_iff _ _).1 q6
    obtain rfl := ctsEq_eq _ _ q7
    obtain rfl := (nmEq_iff _ _).1 q8
    obtain rfl := ctsEq_eq _ _ q9
    obtain rfl := (nmEq_iff _ _).1 q10
    obtain rfl := (nmEq_iff _ _).1 q11
    obtain rfl := (nmEq_iff _ _).1 q12
    obtain rfl := (nmEq_iff _ _).1 q13
    refine ⟨((t13 - t14).toNat + 1), ?_⟩
    rw [← h]
    exact loop_run (sumE (fun s : Int => ⟨[(2, AV.ptr [0, 2] 0 0), (3, AV.ptr [0, 3] 0 0), (13, AV.int .i64 t13), (14, AV.int .i64 s)], [([0, 0, 3], ⟨false, [.int .i64], h0⟩), ([0, 2], ⟨true, [], [AV.agg [AV.snil, AV.snil, AV.snil]]⟩), ([0, 3], ⟨true, [], [AV.agg [AV.own [0, 0, 3], AV.snil, AV.snil]]⟩)]⟩) (fun s : Int × (List AV) => ⟨[(2, AV.ptr [0, 2] 0 0), (3, AV.ptr [0, 3] 0 0), (13, AV.int .i64 t13), (14, AV.int .i64 s.1)], [([0, 0, 3], ⟨false, [.int .i64], h0⟩), ([0, 1, 3], ⟨false, [.int .i64], s.2⟩), ([0, 2], ⟨true, [], [AV.agg [AV.snil, AV.snil, AV.snil]]⟩), ([0, 3], ⟨true, [], [AV.agg [AV.own [0, 0, 3], AV.own [0, 1, 3], AV.snil]]⟩)]⟩)) (sumE (fun _ : Unit => k (.exit 0) ⟨[(2, AV.ptr [0, 2] 0 0), (3, AV.ptr [0, 3] 0 0)], [([0, 0, 3], ⟨false, [.int .i64], h0⟩), ([0, 2], ⟨true, [], [AV.agg [AV.snil, AV.snil, AV.snil]]⟩), ([0, 3], ⟨true, [], [AV.agg [AV.own [0, 0, 3], AV.snil, AV.snil]]⟩)]⟩) (fun p : (List AV) => k (.exit 0) ⟨[(2, AV.ptr [0, 2] 0 0), (3, AV.ptr [0, 3] 0 0)], [([0, 0, 3], ⟨false, [.int .i64], h0⟩), ([0, 1, 3], ⟨false, [.int .i64], p⟩), ([0, 2], ⟨true, [], [AV.agg [AV.snil, AV.snil, AV.snil]]⟩), ([0, 3], ⟨true, [], [AV.agg [AV.own [0, 0, 3], AV.own [0, 1, 3], AV.snil]]⟩)]⟩)) (st107_0 t13 h0 ce k) _ (.inr (t14, h1))
  · cases h
def q107 (a0 : List AV) : Bool := (q105 a0 && (bif !(v105_0 a0) then true else (q139 a0 && (ro (runW (R107_0 (a0.length : Int) (v139_0 a0)) (((a0.length : Int) - 0).toNat + 1) (.inl 0)) false (sumE (fun _ => true) (fun p32 => true))))))
def v107_0 (a0 : List AV) : List AV := (bif !(v105_0 a0) then ([] : List AV) else (v139_0 a0))
def v107_1 (a0 : List AV) : List AV := (bif !(v105_0 a0) then ([] : List AV) else (ro (runW (R107_0 (a0.length : Int) (v139_0 a0)) (((a0.length : Int) - 0).toNat + 1) (.inl 0)) [] (sumE (fun _ => ([] : List AV)) (fun p32 => p32))))
def v107_2 (a0 : List AV) : List AV := ([] : List AV)
theorem e107 (a0 : List AV) : funA c107 0 107 [AV.sl [.int .i64] a0] = (bif q105 a0 then (bif !(v105_0 a0) then some (AV.agg [AV.fl [.int .i64] ([] : List AV), AV.fl [.int .i64] ([] : List AV), AV.fl [.int .i64, .int .i64] ([] : List AV)])
   else (bif q139 a0 then (ro (runW (R107_0 (a0.length : Int) (v139_0 a0)) (((a0.length : Int) - 0).toNat + 1) (.inl 0)) none (sumE (fun _ => some (AV.agg [AV.fl [.int .i64] (v139_0 a0), AV.fl [.int .i64] ([] : List AV), AV.fl [.int .i64, .int .i64] ([] : List AV)])) (fun p32 => some (AV.agg [AV.fl [.int .i64] (v139_0 a0), AV.fl [.int .i64] p32, AV.fl [.int .i64, .int .i64] ([] : List AV)]))))
    else none))
  else none) := by kernel_rfl
theorem r107 (a0 : List AV) (h : q107 a0 = true) : funA c107 0 107 [AV.sl [.int .i64] a0] = some (AV.agg [AV.fl [.int .i64] (v107_0 a0), AV.fl [.int .i64] (v107_1 a0), AV.fl [.int .i64, .int .i64] (v107_2 a0)]) := (e107 a0).trans ((brL (br (fun b => some (AV.agg [AV.fl [.int .i64] (bif b then ([] : List AV) else (v139_0 a0)), AV.fl [.int .i64] (bif b then ([] : List AV) else (ro (runW (R107_0 (a0.length : Int) (v139_0 a0)) (((a0.length : Int) - 0).toNat + 1) (.inl 0)) [] (sumE (fun _ => ([] : List AV)) (fun p32 => p32)))), AV.fl [.int .i64, .int .i64] ([] : List AV)])) (fun _ => rfl) (brL (brO (fun o : Option (Unit ⊕ ((List AV))) => some (AV.agg [AV.fl [.int .i64] (v139_0 a0), AV.fl [.int .i64] (ro o [] (sumE (fun _ => ([] : List AV)) (fun p32 => p32))), AV.fl [.int .i64, .int .i64] ([] : List AV)])) (brS (fun o : Unit ⊕ ((List AV)) => some (AV.agg [AV.fl [.int .i64] (v139_0 a0), AV.fl [.int .i64] ((sumE (fun _ => ([] : List AV)) (fun p32 => p32)) o), AV.fl [.int .i64, .int .i64] ([] : List AV)])) (fun _ => (fun _ => rfl)) (fun p32 => (fun _ => rfl))))))) h)
def m107 : TModel
  | [.sl g0 a0] => bif ctsEq g0 ([.int .i64]) then some (q107 a0, AV.agg [AV.fl [.int .i64] (v107_0 a0), AV.fl [.int .i64] (v107_1 a0), AV.fl [.int .i64, .int .i64] (v107_2 a0)]) else none
  | _ => none
theorem k107 : Known Try.prog 107 := ⟨Try.f107, Try.func107, by kernel_rfl, by kernel_rfl⟩
theorem meets107 : Meets Try.prog 107 m107 := by
  refine meet (f := Try.f107) (l := [(0, sub [1, 1, 1, 0, 1, 0, 0] (body Try.f107))]) (hs := [(107, 0, [2, 3, 13, 14]), (107, 999, [2]), (107, 1000, [2, 3]), (107, 1001, [2, 3, 13, 14])]) (ts := [(105, m105), (139, m139)]) (ws := []) (is := []) (ls := [(107, 0, l107_0)]) (lvl := 0) mixed k107 Try.func107 (by kernel_rfl) (loops_cons ok107_0 noLoop) (allT_cons meets105 (allT_cons meets139 allT_nil)) allM_nil noI fun w xs us r hl hv h => ?_
  unfold m107 at h
  split at h
  · rename_i g0 a0
    obtain ⟨hg, h⟩ := bif_pair h
    have q0 := hg
    obtain rfl := ctsEq_eq _ _ q0
    obtain ⟨h1, rfl⟩ := pair_inj h
    exact r107 a0 h1
  · cases h

/-! ### 147 loop.example/g01984/impl.FindPivot -/
def F147_0 (t1 : Int) (t9 : List AV) (t10 : Int) (t11 : Int) : Out (Int) (Unit ⊕ (Int × Int × Int)) := (bif decide (t11 < t10) then (bif (decide (0 ≤ t11) && decide (t11 < (t9.length : Int))) then (bif decide (fI (t9.getD t11.toNat AV.undef) 0 = t1) then .stop (.inr (fI (t9.getD t11.toNat AV.undef) 1, fI (t9.getD t11.toNat AV.undef) 0, fI (t9.getD t11.toNat AV.undef) 1))
    else .next (IntKind.i64.wrap (t11 + 1)))
   else .fail)
  else .stop (.inl ()))
def R147_0 (t1 : Int) (t9 : List AV) (t10 : Int) : (Int) → Out (Int) (Unit ⊕ (Int × Int × Int)) := fun s : Int => F147_0 t1 t9 t10 s
def l147_0 : LModel := fun _ _ st k => match st with
  | ⟨[(1, .int .i64 t1), (9, .sl g0 t9), (10, .int .i64 t10), (11, .int .i64 t11)], []⟩ => bif ctsEq g0 ([.int .i64, .int .i64]) then ro (runW (R147_0 t1 t9 t10) ((t10 - t11).toNat + 1) t11) none (sumE (fun _ : Unit => k (.exit 0) ⟨[], []⟩) (fun p : Int × Int × Int => k .ret ⟨[(4, AV.int .i64 p.1), (5, AV.bool true)], [([1, 7], ⟨true, [], [AV.agg [AV.int .i64 p.2.1, AV.int .i64 p.2.2]]⟩)]⟩)) else none
  | _ => none
noncomputable def c147 : Cfg := cfg Try.prog [(147, 0, [1, 9, 10, 11]), (147, 999, [4, 5]), (147, 1000, []), (147, 1001, [1, 9, 10, 11])] [] [] [] [(147, 0, l147_0)]
theorem s147_0 (ce : CallE) (t1 : Int) (t9 : List AV) (t10 : Int) (t11 : Int) (next : St → Option AV) (k : Kont) : stepA (codeA c147 ce [] 147 0 (sub [1, 0, 1, 0, 0] (body Try.f147))) (normA [] [1, 9, 10, 11]) next ⟨[(1, AV.int .i64 t1), (9, AV.sl [.int .i64, .int .i64] t9), (10, AV.int .i64 t10), (11, AV.int .i64 t11)], []⟩ k = (bif decide (t11 < t10) then (bif (decide (0 ≤ t11) && decide (t11 < (t9.length : Int))) then (bif decide (fI (t9.getD t11.toNat AV.undef) 0 = t1) then k .ret ⟨[(4, AV.int .i64 (fI (t9.getD t11.toNat AV.undef) 1)), (5, AV.bool true)], [([1, 7], ⟨true, [], [AV.agg [AV.int .i64 (fI (t9.getD t11.toNat AV.undef) 0), AV.int .i64 (fI (t9.getD t11.toNat AV.undef) 1)]]⟩)]⟩
    else next ⟨[(1, AV.int .i64 t1), (9, AV.sl [.int .i64, .int .i64] t9), (10, AV.int .i64 t10), (11, AV.int .i64 (IntKind.i64.wrap (t11 + 1)))], []⟩)
   else none)
  else k (.exit 0) ⟨[], []⟩) := by kernel_rfl
theorem st147_0 (t1 : Int) (t9 : List AV) (t10 : Int) (ce : CallE) (k : Kont) (s : Int) (next : St → Option AV) : stepA (codeA c147 ce [] 147 0 (sub [1, 0, 1, 0, 0] (body Try.f147))) (normA [] [1, 9, 10, 11]) next ((fun s : Int => ⟨[(1, AV.int .i64 t1), (9, AV.sl [.int .i64, .int .i64] t9), (10, AV.int .i64 t10), (11, AV.int .i64 s)], []⟩) s) k = (R147_0 t1 t9 t10 s).el none (fun s => next ((fun s : Int => ⟨[(1, AV.int .i64 t1), (9, AV.sl [.int .i64, .int .i64] t9), (10, AV.int .i64 t10), (11, AV.int .i64 s)], []⟩) s)) (sumE (fun _ : Unit => k (.exit 0) ⟨[], []⟩) (fun p : Int × Int × Int => k .ret ⟨[(4, AV.int .i64 p.1), (5, AV.bool true)], [([1, 7], ⟨true, [], [AV.agg [AV.int .i64 p.2.1, AV.int .i64 p.2.2]]⟩)]⟩)) := (s147_0 ce t1 t9 t10 s next k).trans (by unfold R147_0; unfold F147_0; simp only [el_cond, el_ro, el_sum, el_fail, el_next, el_stop] <;> rfl)
theorem ok147_0 {ce : CallE} : LoopOK c147 ce [] 147 0 (sub [1, 0, 1, 0, 0] (body Try.f147)) := by
  intro m hm st k r h
  obtain rfl : l147_0 = m := Option.some.inj hm
  unfold l147_0 at h
  split at h
  · rename_i t1 g0 t9 t10 t11
    obtain ⟨hg, h⟩ := bif_some h
    have q0 := hg
    obtain rfl := ctsEq_eq _ _ q0
    refine ⟨((t10 - t11).toNat + 1), ?_⟩
    rw [← h]
    exact loop_run (fun s : Int => ⟨[(1, AV.int .i64 t1), (9, AV.sl [.int .i64, .int .i64] t9), (10, AV.int .i64 t10), (11, AV.int .i64 s)], []⟩) (sumE (fun _ : Unit => k (.exit 0) ⟨[], []⟩) (fun p : Int × Int × Int => k .ret ⟨[(4, AV.int .i64 p.1), (5, AV.bool true)], [([1, 7], ⟨true, [], [AV.agg [AV.int .i64 p.2.1, AV.int .i64 p.2.2]]⟩)]⟩)) (st147_0 t1 t9 t10 ce k) _ t11
  · cases h
def q147 (a0_0 : List AV) (a0_1 : List AV) (a0_2 : List AV) (a1 : Int) : Bool := (ro (runW (R147_0 a1 a0_2 (a0_2.length : Int)) (((a0_2.length : Int) - 0).toNat + 1) 0) false (sumE (fun _ => true) (fun p34 => true)))
def v147_0 (a0_0 : List AV) (a0_1 : List AV) (a0_2 : List AV) (a1 : Int) : Int := (ro (runW (R147_0 a1 a0_2 (a0_2.length : Int)) (((a0_2.length : Int) - 0).toNat + 1) 0) 0 (sumE (fun _ => 0) (fun p34 => p34.1)))
def v147_1 (a0_0 : List AV) (a0_1 : List AV) (a0_2 : List AV) (a1 : Int) : Bool := (ro (runW (R147_0 a1 a0_2 (a0_2.length : Int)) (((a0_2.length : Int) - 0).toNat + 1) 0) false (sumE (fun _ => false) (fun p34 => true)))
theorem e147 (a0_0 : List AV) (a0_1 : List AV) (a0_2 : List AV) (a1 : Int) : funA c147 0 147 [AV.agg [AV.sl [.int .i64] a0_0, AV.sl [.int .i64] a0_1, AV.sl [.int .i64, .int .i64] a0_2], AV.int .i64 a1] = (ro (runW (R147_0 a1 a0_2 (a0_2.length : Int)) (((a0_2.length : Int) - 0).toNat + 1) 0) none (sumE (fun _ => some (AV.tup [AV.int .i64 0, AV.bool false])) (fun p34 => some (AV.tup [AV.int .i64 p34.1, AV.bool true])))) := by kernel_rfl
theorem r147 (a0_0 : List AV) (a0_1 : List AV) (a0_2 : List AV) (a1 : Int) (h : q147 a0_0 a0_1 a0_2 a1 = true) : funA c147 0 147 [AV.agg [AV.sl [.int .i64] a0_0, AV.sl [.int .i64] a0_1, AV.sl [.int .i64, .int .i64] a0_2], AV.int .i64 a1] = some (AV.tup [AV.int .i64 (v147_0 a0_0 a0_1 a0_2 a1), AV.bool (v147_1 a0_0 a0_1 a0_2 a1)]) := (e147 a0_0 a0_1 a0_2 a1).trans ((brO (fun o : Option (Unit ⊕ (Int × Int × Int)) => some (AV.tup [AV.int .i64 (ro o 0 (sumE (fun _ => 0) (fun p34 => p34.1))), AV.bool (ro o false (sumE (fun _ => false) (fun p34 => true)))])) (brS (fun o : Unit ⊕ (Int × Int × Int) => some (AV.tup [AV.int .i64 ((sumE (fun _ => 0) (fun p34 => p34.1)) o), AV.bool ((sumE (fun _ => false) (fun p34 => true)) o)])) (fun _ => (fun _ => rfl)) (fun p34 => (fun _ => rfl)))) h)
def m147 : TModel
  | [.agg [.sl g0 a0_0, .sl g1 a0_1, .sl g2 a0_2], .int .i64 a1] => bif ctsEq g0 ([.int .i64]) && ctsEq g1 ([.int .i64]) && ctsEq g2 ([.int .i64, .int .i64]) then some (q147 a0_0 a0_1 a0_2 a1, AV.tup [AV.int .i64 (v147_0 a0_0 a0_1 a0_2 a1), AV.bool (v147_1 a0_0 a0_1 a0_2 a1)]) else none
  | _ => none
theorem k147 : Known Try.prog 147 := ⟨Try.f147, Try.func147, by kernel_rfl, by kernel_rfl⟩
theorem meets147 : Meets Try.prog 147 m147 := by
  refine meet (f := Try.f147) (l := [(0, sub [1, 0, 1, 0, 0] (body Try.f147))]) (hs := [(147, 0, [1, 9, 10, 11]), (147, 999, [4, 5]), (147, 1000, []), (147, 1001, [1, 9, 10, 11])]) (ts := []) (ws := []) (is := []) (ls := [(147, 0, l147_0)]) (lvl := 0) mixed k147 Try.func147 (by kernel_rfl) (loops_cons ok147_0 noLoop) allT_nil allM_nil noI fun w xs us r hl hv h => ?_
  unfold m147 at h
  split at h
  · rename_i g0 a0_0 g1 a0_1 g2 a0_2 a1
    obtain ⟨hg, h⟩ := bif_pair h
    simp only [Bool.and_eq_true] at hg
    obtain ⟨⟨q0, q1⟩, q2⟩ := hg
    obtain rfl := ctsEq_eq _ _ q0
    obtain rfl := ctsEq_eq _ _ q1
    obtain rfl := ctsEq_eq _ _ q2
    obtain ⟨h1, rfl⟩ := pair_inj h
    exact r147 a0_0 a0_1 a0_2 a1 h1
  · cases h

/-! ### 145 loop.example/g01984/impl.isPivot -/
noncomputable def c145 : Cfg := cfg Try.prog [(145, 999, [4])] [(147, m147)] [] [] []
def q145 (a0_0 : List AV) (a0_1 : List AV) (a0_2 : List AV) (a1 : Int) : Bool := q147 a0_0 a0_1 a0_2 a1
def v145_0 (a0_0 : List AV) (a0_1 : List AV) (a0_2 : List AV) (a1 : Int) : Bool := (v147_1 a0_0 a0_1 a0_2 a1)
theorem e145 (a0_0 : List AV) (a0_1 : List AV) (a0_2 : List AV) (a1 : Int) : funA c145 0 145 [AV.agg [AV.sl [.int .i64] a0_0, AV.sl [.int .i64] a0_1, AV.sl [.int .i64, .int .i64] a0_2], AV.int .i64 a1] = (bif q147 a0_0 a0_1 a0_2 a1 then some (AV.bool (v147_1 a0_0 a0_1 a0_2 a1))
  else none) := by kernel_rfl
theorem r145 (a0_0 : List AV) (a0_1 : List AV) (a0_2 : List AV) (a1 : Int) (h : q145 a0_0 a0_1 a0_2 a1 = true) : funA c145 0 145 [AV.agg [AV.sl [.int .i64] a0_0, AV.sl [.int .i64] a0_1, AV.sl [.int .i64, .int .i64] a0_2], AV.int .i64 a1] = some (AV.bool (v145_0 a0_0 a0_1 a0_2 a1)) := (e145 a0_0 a0_1 a0_2 a1).trans ((brL1 (fun _ => rfl)) h)
def m145 : TModel
  | [.agg [.sl g0 a0_0, .sl g1 a0_1, .sl g2 a0_2], .int .i64 a1] => bif ctsEq g0 ([.int .i64]) && ctsEq g1 ([.int .i64]) && ctsEq g2 ([.int .i64, .int .i64]) then some (q145 a0_0 a0_1 a0_2 a1, AV.bool (v145_0 a0_0 a0_1 a0_2 a1)) else none
  | _ => none
theorem k145 : Known Try.prog 145 := ⟨Try.f145, Try.func145, by kernel_rfl, by kernel_rfl⟩
theorem meets145 : Meets Try.prog 145 m145 := by
  refine meet (f := Try.f145) (l := []) (hs := [(145, 999, [4])]) (ts := [(147, m147)]) (ws := []) (is := []) (ls := []) (lvl := 0) mixed k145 Try.func145 (by kernel_rfl) noLoop (allT_cons meets147 allT_nil) allM_nil noI fun w xs us r hl hv h => ?_
  unfold m145 at h
  split at h
  · rename_i g0 a0_0 g1 a0_1 g2 a0_2 a1
    obtain ⟨hg, h⟩ := bif_pair h
    simp only [Bool.and_eq_true] at hg
    obtain ⟨⟨q0, q1⟩, q2⟩ := hg
    obtain rfl := ctsEq_eq _ _ q0
    obtain rfl := ctsEq_eq _ _ q1
    obtain rfl := ctsEq_eq _ _ q2
    obtain ⟨h1, rfl⟩ := pair_inj h
    exact r145 a0_0 a0_1 a0_2 a1 h1
  · cases h

/-! ### 146 loop.example/g01984/impl.piece -/
def F146_0 (t1 : Int) (t7 : Int) (t14 : List AV) (t15 : Int) (t6 : Int) (t16 : Int) : Out ((Int × Int)) (Int ⊕ (Int × Int × Int × Int)) := (bif decide (t16 < t15) then (bif (decide (0 ≤ t16) && decide (t16 < (t14.length : Int))) then (bif decide (fI (t14.getD t16.toNat AV.undef) 0 ≤ t1) then (bif decide (fI (t14.getD t16.toNat AV.undef) 0 ≥ t1) then .stop (.inr (fI (t14.getD t16.toNat AV.undef) 1, fI (t14.getD t16.toNat AV.undef) 1, fI (t14.getD t16.toNat AV.undef) 0, fI (t14.getD t16.toNat AV.undef) 1))
     else .next (fI (t14.getD t16.toNat AV.undef) 1, IntKind.i64.wrap (t16 + 1)))
    else (bif decide (fI (t14.getD t16.toNat AV.undef) 0 ≥ t1) then .stop (.inr (t6, fI (t14.getD t16.toNat AV.undef) 1, fI (t14.getD t16.toNat AV.undef) 0, fI (t14.getD t16.toNat AV.undef) 1))
     else .next (t6, IntKind.i64.wrap (t16 + 1))))
   else .fail)
  else .stop (.inl t6))
def R146_0 (t1 : Int) (t7 : Int) (t14 : List AV) (t15 : Int) : ((Int × Int)) → Out ((Int × Int)) (Int ⊕ (Int × Int × Int × Int)) := fun s : Int × Int => F146_0 t1 t7 t14 t15 s.1 s.2
def l146_0 : LModel := fun _ _ st k => match st with
  | ⟨[(1, .int .i64 t1), (6, .int .i64 t6), (7, .int .i64 t7), (14, .sl g0 t14), (15, .int .i64 t15), (16, .int .i64 t16)], []⟩ => bif ctsEq g0 ([.int .i64, .int .i64]) then ro (runW (R146_0 t1 t7 t14 t15) ((t15 - t16).toNat + 1) (t6, t16)) none (sumE (fun p : Int => k (.exit 0) ⟨[(6, AV.int .i64 p), (7, AV.int .i64 t7)], []⟩) (fun p : Int × Int × Int × Int => k .ret ⟨[(4, AV.int .i64 p.1), (5, AV.int .i64 p.2.1)], [([1, 9], ⟨true, [], [AV.agg [AV.int .i64 p.2.2.1, AV.int .i64 p.2.2.2]]⟩)]⟩)) else none
  | _ => none
noncomputable def c146 : Cfg := cfg Try.prog [(146, 0, [1, 6, 7, 14, 15, 16]), (146, 999, [4, 5]), (146, 1000, [6, 7]), (146, 1001, [1, 6, 7, 14, 15, 16])] [] [] [] [(146, 0, l146_0)]
theorem s146_0 (ce : CallE) (t1 : Int) (t6 : Int) (t7 : Int) (t14 : List AV) (t15 : Int) (t16 : Int) (next : St → Option AV) (k : Kont) : stepA (codeA c146 ce [] 146 0 (sub [1, 1, 0, 1, 0, 0] (body Try.f146))) (normA [] [1, 6, 7, 14, 15, 16]) next ⟨[(1, AV.int .i64 t1), (6, AV.int .i64 t6), (7, AV.int .i64 t7), (14, AV.sl [.int .i64, .int .i64] t14), (15, AV.int .i64 t15), (16, AV.int .i64 t16)], []⟩ k = (bif decide (t16 < t15) then (bif (decide (0 ≤ t16) && decide (t16 < (t14.length : Int))) then (bif decide (fI (t14.getD t16.toNat AV.undef) 0 ≤ t1) then (bif decide (fI (t14.getD t16.toNat AV.undef) 0 ≥ t1) then k .ret ⟨[(4, AV.int .i64 (fI (t14.getD t16.toNat AV.undef) 1)), (5, AV.int .i64 (fI (t14.getD t16.toNat AV.undef) 1))], [([1, 9], ⟨true, [], [AV.agg [AV.int .i64 (fI (t14.getD t16.toNat AV.undef) 0), AV.int .i64 (fI (t14.getD t16.toNat AV.undef) 1)]]⟩)]⟩
     else next ⟨[(1, AV.int .i64 t1), (6, AV.int .i64 (fI (t14.getD t16.toNat AV.undef) 1)), (7, AV.int .i64 t7), (14, AV.sl [.int .i64, .int .i64] t14), (15, AV.int .i64 t15), (16, AV.int .i64 (IntKind.i64.wrap (t16 + 1)))], []⟩)
    else (bif decide (fI (t14.getD t16.toNat AV.undef) 0 ≥ t1) then k .ret ⟨[(4, AV.int .i64 t6), (5, AV.int .i64 (fI (t14.getD t16.toNat AV.undef) 1))], [([1, 9], ⟨true, [], [AV.agg [AV.int .i64 (fI (t14.getD t16.toNat AV.undef) 0), AV.int .i64 (fI (t14.getD t16.toNat AV.undef) 1)]]⟩)]⟩
     else next ⟨[(1, AV.int .i64 t1), (6, AV.int .i64 t6), (7, AV.int .i64 t7), (14, AV.sl [.int .i64, .int .i64] t14), (15, AV.int .i64 t15), (16, AV.int .i64 (IntKind.i64.wrap (t16 + 1)))], []⟩))
   else none)
  else k (.exit 0) ⟨[(6, AV.int .i64 t6), (7, AV.int .i64 t7)], []⟩) := by kernel_rfl
theorem st146_0 (t1 : Int) (t7 : Int) (t14 : List AV) (t15 : Int) (ce : CallE) (k : Kont) (s : (Int × Int)) (next : St → Option AV) : stepA (codeA c146 ce [] 146 0 (sub [1, 1, 0, 1, 0, 0] (body Try.f146))) (normA [] [1, 6, 7, 14, 15, 16]) next ((fun s : Int × Int => ⟨[(1, AV.int .i64 t1), (6, AV.int .i64 s.1), (7, AV.int .i64 t7), (14, AV.sl [.int .i64, .int .i64] t14), (15, AV.int .i64 t15), (16, AV.int .i64 s.2)], []⟩) s) k = (R146_0 t1 t7 t14 t15 s).el none (fun s => next ((fun s : Int × Int => ⟨[(1, AV.int .i64 t1), (6, AV.int .i64 s.1), (7, AV.int .i64 t7), (14, AV.sl [.int .i64, .int .i64] t14), (15, AV.int .i64 t15), (16, AV.int .i64 s.2)], []⟩) s)) (sumE (fun p : Int => k (.exit 0) ⟨[(6, AV.int .i64 p), (7, AV.int .i64 t7)], []⟩) (fun p : Int × Int × Int × Int => k .ret ⟨[(4, AV.int .i64 p.1), (5, AV.int .i64 p.2.1)], [([1, 9], ⟨true, [], [AV.agg [AV.int .i64 p.2.2.1, AV.int .i64 p.2.2.2]]⟩)]⟩)) := (s146_0 ce t1 s.1 t7 t14 t15 s.2 next k).trans (by unfold R146_0; unfold F146_0; simp only [el_cond, el_ro, el_sum, el_fail, el_next, el_stop] <;> rfl)
theorem ok146_0 {ce : CallE} : LoopOK c146 ce [] 146 0 (sub [1, 1, 0, 1, 0, 0] (body Try.f146)) := by
  intro m hm st k r h
  obtain rfl : l146_0 = m := Option.some.inj hm
  unfold l146_0 at h
  split at h
  · rename_i t1 t6 t7 g0 t14 t15 t16
    obtain ⟨hg, h⟩ := bif_some h
    have q0 := hg
    obtain rfl := ctsEq_eq _ _ q0
    refine ⟨((t15 - t16).toNat + 1), ?_⟩
    rw [← h]
    exact loop_run (fun s : Int × Int => ⟨[(1, AV.int .i64 t1), (6, AV.int .i64 s.1), (7, AV.int .i64 t7), (14, AV.sl [.int .i64, .int .i64] t14), (15, AV.int .i64 t15), (16, AV.int .i64 s.2)], []⟩) (sumE (fun p : Int => k (.exit 0) ⟨[(6, AV.int .i64 p), (7, AV.int .i64 t7)], []⟩) (fun p : Int × Int × Int × Int => k .ret ⟨[(4, AV.int .i64 p.1), (5, AV.int .i64 p.2.1)], [([1, 9], ⟨true, [], [AV.agg [AV.int .i64 p.2.2.1, AV.int .i64 p.2.2.2]]⟩)]⟩)) (st146_0 t1 t7 t14 t15 ce k) _ (t6, t16)
  · cases h
def q146 (a0_0 : List AV) (a0_1 : List AV) (a0_2 : List AV) (a1 : Int) : Bool := (ro (runW (R146_0 a1 (a0_0.length : Int) a0_2 (a0_2.length : Int)) (((a0_2.length : Int) - 0).toNat + 1) (0, 0)) false (sumE (fun p35 => true) (fun p36 => true)))
def v146_0 (a0_0 : List AV) (a0_1 : List AV) (a0_2 : List AV) (a1 : Int) : Int := (ro (runW (R146_0 a1 (a0_0.length : Int) a0_2 (a0_2.length : Int)) (((a0_2.length : Int) - 0).toNat + 1) (0, 0)) 0 (sumE (fun p35 => p35) (fun p36 => p36.1)))
def v146_1 (a0_0 : List AV) (a0_1 : List AV) (a0_2 : List AV) (a1 : Int) : Int := (ro (runW (R146_0 a1 (a0_0.length : Int) a0_2 (a0_2.length : Int)) (((a0_2.length : Int) - 0).toNat + 1) (0, 0)) 0 (sumE (fun p35 => (a0_0.length : Int)) (fun p36 => p36.2.1)))
theorem e146 (a0_0 : List AV) (a0_1 : List AV) (a0_2 : List AV) (a1 : Int) : funA c146 0 146 [AV.agg [AV.sl [.int .i64] a0_0, AV.sl [.int .i64] a0_1, AV.sl [.int .i64, .int .i64] a0_2], AV.int .i64 a1] = (ro (runW (R146_0 a1 (a0_0.length : Int) a0_2 (a0_2.length : Int)) (((a0_2.length : Int) - 0).toNat + 1) (0, 0)) none (sumE (fun p35 => some (AV.tup [AV.int .i64 p35, AV.int .i64 (a0_0.length : Int)])) (fun p36 => some (AV.tup [AV.int .i64 p36.1, AV.int .i64 p36.2.1])))) := by kernel_rfl
theorem r146 (a0_0 : List AV) (a0_1 : List AV) (a0_2 : List AV) (a1 : Int) (h : q146 a0_0 a0_1 a0_2 a1 = true) : funA c146 0 146 [AV.agg [AV.sl [.int .i64] a0_0, AV.sl [.int .i64] a0_1, AV.sl [.int .i64, .int .i64] a0_2], AV.int .i64 a1] = some (AV.tup [AV.int .i64 (v146_0 a0_0 a0_1 a0_2 a1), AV.int .i64 (v146_1 a0_0 a0_1 a0_2 a1)]) := (e146 a0_0 a0_1 a0_2 a1).trans ((brO (fun o : Option (Int ⊕ (Int × Int × Int × Int)) => some (AV.tup [AV.int .i64 (ro o 0 (sumE (fun p35 => p35) (fun p36 => p36.1))), AV.int .i64 (ro o 0 (sumE (fun p35 => (a0_0.length : Int)) (fun p36 => p36.2.1)))])) (brS (fun o : Int ⊕ (Int × Int × Int × Int) => some (AV.tup [AV.int .i64 ((sumE (fun p35 => p35) (fun p36 => p36.1)) o), AV.int .i64 ((sumE (fun p35 => (a0_0.length : Int)) (fun p36 => p36.2.1)) o)])) (fun p35 => (fun _ => rfl)) (fun p36 => (fun _ => rfl)))) h)
def m146 : TModel
  | [.agg [.sl g0 a0_0, .sl g1 a0_1, .sl g2 a0_2], .int .i64 a1] => bif ctsEq g0 ([.int .i64]) && ctsEq g1 ([.int .i64]) && ctsEq g2 ([.int .i64, .int .i64]) then some (q146 a0_0 a0_1 a0_2 a1, AV.tup [AV.int .i64 (v146_0 a0_0 a0_1 a0_2 a1), AV.int .i64 (v146_1 a0_0 a0_1 a0_2 a1)]) else none
  | _ => none
theorem k146 : Known Try.prog 146 := ⟨Try.f146, Try.func146, by kernel_rfl, by kernel_rfl⟩
theorem meets146 : Meets Try.prog 146 m146 := by
  refine meet (f := Try.f146) (l := [(0, sub [1, 1, 0, 1, 0, 0] (body Try.f146))]) (hs := [(146, 0, [1, 6, 7, 14, 15, 16]), (146, 999, [4, 5]), (146, 1000, [6, 7]), (146, 1001, [1, 6, 7, 14, 15, 16])]) (ts := []) (ws := []) (is := []) (ls := [(146, 0, l146_0)]) (lvl := 0) mixed k146 Try.func146 (by kernel_rfl) (loops_cons ok146_0 noLoop) allT_nil allM_nil noI fun w xs us r hl hv h => ?_
  unfold m146 at h
  split at h
  · rename_i g0 a0_0 g1 a0_1 g2 a0_2 a1
    obtain ⟨hg, h⟩ := bif_pair h
    simp only [Bool.and_eq_true] at hg
    obtain ⟨⟨q0, q1⟩, q2⟩ := hg
    obtain rfl := ctsEq_eq _ _ q0
    obtain rfl := ctsEq_eq _ _ q1
    obtain rfl := ctsEq_eq _ _ q2
    obtain ⟨h1, rfl⟩ := pair_inj h
    exact r146 a0_0 a0_1 a0_2 a1 h1
  · cases h

/-! ### 164 slices.Clone[[]loop.example/g01984/impl.Pivot,loop.example/g01984/impl.Pivot] -/
noncomputable def c164 : Cfg := cfg Try.prog [(164, 999, [2])] [] [] [] []
def q164 (a0 : List AV) : Bool := decide (a0.length * 16 ≤ 140737488355328) && decide (a0.length ≤ 140737488355328)
def v164_0 (a0 : List AV) : List AV := a0
theorem e164 (a0 : List AV) : funA c164 0 164 [AV.sl [.int .i64, .int .i64] a0] = (bif decide (0 < a0.length) then (bif (decide ((([] : List AV).length + a0.length) * 16 ≤ 140737488355328) && decide ((([] : List AV).length + a0.length) ≤ 140737488355328)) then some (AV.fl [.int .i64, .int .i64] (([] : List AV) ++ a0))
   else none)
  else none) := by kernel_rfl
theorem e164n (b : Bool) : funA c164 0 164 [AV.sle b [.int .i64, .int .i64]] = some (AV.fl [.int .i64, .int .i64] []) := by cases b <;> kernel_rfl
def m164 : TModel
  | [.sl g0 a0] => bif ctsEq g0 [.int .i64, .int .i64] then some (q164 a0, AV.fl [.int .i64, .int .i64] (v164_0 a0)) else none
  | _ => none
theorem k164 : Known Try.prog 164 := ⟨Try.f164, Try.func164, by kernel_rfl, by kernel_rfl⟩
theorem meets164 : Meets Try.prog 164 m164 := by
  refine meet_nil (f := Try.f164) (l := []) (hs := [(164, 999, [2])]) (ts := []) (ws := []) (is := []) (ls := []) (lvl := 0) (tys := [.int .i64, .int .i64]) mixed k164 Try.func164 (by kernel_rfl) noLoop allT_nil allM_nil noI (fun xs r h => ?_) (fun b r h => ?_) (fun ys r h0 h => ?_)
  · unfold m164 at h
    split at h
    · rename_i g0 a0
      obtain ⟨hg, h⟩ := bif_pair h
      obtain rfl := ctsEq_eq _ _ hg
      exact ⟨a0, rfl⟩
    · cases h
  · obtain ⟨hg, h⟩ := bif_pair (g := ctsEq [.int .i64, .int .i64] [.int .i64, .int .i64]) h
    obtain ⟨_, rfl⟩ := pair_inj h
    exact e164n b
  · obtain ⟨hg, h⟩ := bif_pair (g := ctsEq [.int .i64, .int .i64] [.int .i64, .int .i64]) h
    obtain ⟨hq, rfl⟩ := pair_inj h
    refine (e164 ys).trans ?_
    unfold q164 at hq
    have e : ([] : List AV).length + ys.length = ys.length := by simp
    rw [e, hq, decide_eq_true h0]
    rfl

/-! ### 129 loop.example/g01984/impl.copyCracker -/
noncomputable def c129 : Cfg := cfg Try.prog [(129, 999, [2])] [(139, m139), (164, m164)] [] [] []
def q129 (a0_0 : List AV) (a0_1 : List AV) (a0_2 : List AV) : Bool := (q139 a0_0 && (q139 a0_1 && q164 a0_2))
def v129_0 (a0_0 : List AV) (a0_1 : List AV) (a0_2 : List AV) : List AV := (v139_0 a0_0)
def v129_1 (a0_0 : List AV) (a0_1 : List AV) (a0_2 : List AV) : List AV := (v139_0 a0_1)
def v129_2 (a0_0 : List AV) (a0_1 : List AV) (a0_2 : List AV) : List AV := (v164_0 a0_2)
theorem e129 (a0_0 : List AV) (a0_1 : List AV) (a0_2 : List AV) : funA c129 0 129 [AV.agg [AV.sl [.int .i64] a0_0, AV.sl [.int .i64] a0_1, AV.sl [.int .i64, .int .i64] a0_2]] = (bif q139 a0_0 then (bif q139 a0_1 then (bif q164 a0_2 then some (AV.agg [AV.fl [.int .i64] (v139_0 a0_0), AV.fl [.int .i64] (v139_0 a0_1), AV.fl [.int .i64, .int .i64] (v164_0 a0_2)])
    else none)
   else none)
  else none) := by kernel_rfl
theorem r129 (a0_0 : List AV) (a0_1 : List AV) (a0_2 : List AV) (h : q129 a0_0 a0_1 a0_2 = true) : funA c129 0 129 [AV.agg [AV.sl [.int .i64] a0_0, AV.sl [.int .i64] a0_1, AV.sl [.int .i64, .int .i64] a0_2]] = some (AV.agg [AV.fl [.int .i64] (v129_0 a0_0 a0_1 a0_2), AV.fl [.int .i64] (v129_1 a0_0 a0_1 a0_2), AV.fl [.int .i64, .int .i64] (v129_2 a0_0 a0_1 a0_2)]) := (e129 a0_0 a0_1 a0_2).trans ((brL (brL (brL1 (fun _ => rfl)))) h)
def m129 : TModel
  | [.agg [.sl g0 a0_0, .sl g1 a0_1, .sl g2 a0_2]] => bif ctsEq g0 ([.int .i64]) && ctsEq g1 ([.int .i64]) && ctsEq g2 ([.int .i64, .int .i64]) then some (q129 a0_0 a0_1 a0_2, AV.agg [AV.fl [.int .i64] (v129_0 a0_0 a0_1 a0_2), AV.fl [.int .i64] (v129_1 a0_0 a0_1 a0_2), AV.fl [.int .i64, .int .i64] (v129_2 a0_0 a0_1 a0_2)]) else none
  | _ => none
theorem k129 : Known Try.prog 129 := ⟨Try.f129, Try.func129, by kernel_rfl, by kernel_rfl⟩
theorem meets129 : Meets Try.prog 129 m129 := by
  refine meet (f := Try.f129) (l := []) (hs := [(129, 999, [2])]) (ts := [(139, m139), (164, m164)]) (ws := []) (is := []) (ls := []) (lvl := 0) mixed k129 Try.func129 (by kernel_rfl) noLoop (allT_cons meets139 (allT_cons meets164 allT_nil)) allM_nil noI fun w xs us r hl hv h => ?_
  unfold m129 at h
  split at h
  · rename_i g0 a0_0 g1 a0_1 g2 a0_2
    obtain ⟨hg, h⟩ := bif_pair h
    simp only [Bool.and_eq_true] at hg
    obtain ⟨⟨q0, q1⟩, q2⟩ := hg
    obtain rfl := ctsEq_eq _ _ q0
    obtain rfl := ctsEq_eq _ _ q1
    obtain rfl := ctsEq_eq _ _ q2
    obtain ⟨h1, rfl⟩ := pair_inj h
    exact r129 a0_0 a0_1 a0_2 h1
  · cases h

/-! ### 171 loop.example/g01984/impl.move -/
noncomputable def c171 : Cfg := cfg Try.prog [(171, 999, [8, 9, 10]), (171, 1000, [1, 2])] [] [] [] []
def q171 (a0 : List AV) (a1 : Int) (a2 : Int) (a3 : Int) : Bool := ((decide (0 ≤ a1) && decide (a1 < (a0.length : Int))) && (bif decide (fI (a0.getD a1.toNat AV.undef) 0 < a3) then true else (decide (0 ≤ a2) && decide (a2 < (a0.length : Int)))))
def v171_0 (a0 : List AV) (a1 : Int) (a2 : Int) (a3 : Int) : Int := (bif decide (fI (a0.getD a1.toNat AV.undef) 0 < a3) then IntKind.i64.wrap (a1 + 1) else (bif decide (fI (a0.getD a2.toNat AV.undef) 0 ≥ a3) then a1 else IntKind.i64.wrap (a1 + 1)))
def v171_1 (a0 : List AV) (a1 : Int) (a2 : Int) (a3 : Int) : Int := (bif decide (fI (a0.getD a1.toNat AV.undef) 0 < a3) then a2 else IntKind.i64.wrap (a2 - 1))
def v171_2 (a0 : List AV) (a1 : Int) (a2 : Int) (a3 : Int) : Bool := (bif decide (fI (a0.getD a1.toNat AV.undef) 0 < a3) then false else (bif decide (fI (a0.getD a2.toNat AV.undef) 0 ≥ a3) then false else true))
theorem e171 (a0 : List AV) (a1 : Int) (a2 : Int) (a3 : Int) : funA c171 0 171 [AV.sl [.int .i64] a0, AV.int .i64 a1, AV.int .i64 a2, AV.int .i64 a3] = (bif (decide (0 ≤ a1) && decide (a1 < (a0.length : Int))) then (bif decide (fI (a0.getD a1.toNat AV.undef) 0 < a3) then some (AV.tup [AV.int .i64 (IntKind.i64.wrap (a1 + 1)), AV.int .i64 a2, AV.bool false])
   else (bif (decide (0 ≤ a2) && decide (a2 < (a0.length : Int))) then (bif decide (fI (a0.getD a2.toNat AV.undef) 0 ≥ a3) then some (AV.tup [AV.int .i64 a1, AV.int .i64 (IntKind.i64.wrap (a2 - 1)), AV.bool false])
     else some (AV.tup [AV.int .i64 (IntKind.i64.wrap (a1 + 1)), AV.int .i64 (IntKind.i64.wrap (a2 - 1)), AV.bool true]))
    else none))
  else none) := by kernel_rfl
theorem r171 (a0 : List AV) (a1 : Int) (a2 : Int) (a3 : Int) (h : q171 a0 a1 a2 a3 = true) : funA c171 0 171 [AV.sl [.int .i64] a0, AV.int .i64 a1, AV.int .i64 a2, AV.int .i64 a3] = some (AV.tup [AV.int .i64 (v171_0 a0 a1 a2 a3), AV.int .i64 (v171_1 a0 a1 a2 a3), AV.bool (v171_2 a0 a1 a2 a3)]) := (e171 a0 a1 a2 a3).trans ((brL (br (fun b => some (AV.tup [AV.int .i64 (bif b then IntKind.i64.wrap (a1 + 1) else (bif decide (fI (a0.getD a2.toNat AV.undef) 0 ≥ a3) then a1 else IntKind.i64.wrap (a1 + 1))), AV.int .i64 (bif b then a2 else IntKind.i64.wrap (a2 - 1)), AV.bool (bif b then false else (bif decide (fI (a0.getD a2.toNat AV.undef) 0 ≥ a3) then false else true))])) (fun _ => rfl) (brL1 (brT (fun b => some (AV.tup [AV.int .i64 (bif b then a1 else IntKind.i64.wrap (a1 + 1)), AV.int .i64 (IntKind.i64.wrap (a2 - 1)), AV.bool (bif b then false else true)])) (fun _ => rfl) (fun _ => rfl))))) h)
def m171 : TModel
  | [.sl g0 a0, .int .i64 a1, .int .i64 a2, .int .i64 a3] => bif ctsEq g0 ([.int .i64]) then some (q171 a0 a1 a2 a3, AV.tup [AV.int .i64 (v171_0 a0 a1 a2 a3), AV.int .i64 (v171_1 a0 a1 a2 a3), AV.bool (v171_2 a0 a1 a2 a3)]) else none
  | _ => none
theorem k171 : Known Try.prog 171 := ⟨Try.f171, Try.func171, by kernel_rfl, by kernel_rfl⟩
theorem meets171 : Meets Try.prog 171 m171 := by
  refine meet (f := Try.f171) (l := []) (hs := [(171, 999, [8, 9, 10]), (171, 1000, [1, 2])]) (ts := []) (ws := []) (is := []) (ls := []) (lvl := 0) mixed k171 Try.func171 (by kernel_rfl) noLoop allT_nil allM_nil noI fun w xs us r hl hv h => ?_
  unfold m171 at h
  split at h
  · rename_i g0 a0 a1 a2 a3
    obtain ⟨hg, h⟩ := bif_pair h
    have q0 := hg
    obtain rfl := ctsEq_eq _ _ q0
    obtain ⟨h1, rfl⟩ := pair_inj h
    exact r171 a0 a1 a2 a3 h1
  · cases h

/-! ### 148 loop.example/g01984/impl.Partition -/
def F148_0 (t3 : Int) (t12 : Int) (t13 : Int) (h0 : List AV) (h1 : List AV) : Out ((Int × Int × (List AV) × (List AV))) ((Int × (List AV) × (List AV))) := (bif decide (t12 ≤ t13) then (bif q171 h0 t12 t13 t3 then (bif (v171_2 h0 t12 t13 t3) then (bif (decide (0 ≤ t13) && decide (t13 < (h0.length : Int))) then (bif (decide (0 ≤ t12) && decide (t12 < (h0.length : Int))) then (bif (decide (0 ≤ t12) && decide (t12 < (h0.length : Int))) then (bif (decide (0 ≤ t13) && decide (t13 < ((h0.set t12.toNat (AV.agg [AV.int .i64 (fI (h0.getD t13.toNat AV.undef) 0)])).length : Int))) then (bif (decide ((h1.length + ([AV.agg [AV.int .i64 t12, AV.int .i64 t13]]).length) * 16 ≤ 140737488355328) && decide ((h1.length + ([AV.agg [AV.int .i64 t12, AV.int .i64 t13]]).length) ≤ 140737488355328)) then .next ((v171_0 h0 t12 t13 t3), (v171_1 h0 t12 t13 t3), (h0.set t12.toNat (AV.agg [AV.int .i64 (fI (h0.getD t13.toNat AV.undef) 0)])).set t13.toNat (AV.agg [AV.int .i64 (fI (h0.getD t12.toNat AV.undef) 0)]), h1 ++ ([AV.agg [AV.int .i64 t12, AV.int .i64 t13]]))
         else .fail)
        else .fail)
       else .fail)
      else .fail)
     else .fail)
    else .next ((v171_0 h0 t12 t13 t3), (v171_1 h0 t12 t13 t3), h0, h1))
   else .fail)
  else .stop (t12, h0, h1))
def R148_0 (t3 : Int) : ((Int × Int × (List AV) × (List AV))) → Out ((Int × Int × (List AV) × (List AV))) ((Int × (List AV) × (List AV))) := fun s : Int × Int × (List AV) × (List AV) => F148_0 t3 s.1 s.2.1 s.2.2.1 s.2.2.2
def l148_0 : LModel := fun _ _ st k => match st with
  | ⟨[(3, .int .i64 t3), (10, .own g0), (11, .own g1), (12, .int .i64 t12), (13, .int .i64 t13)], [(g2, ⟨false, g3, h0⟩), (g4, ⟨false, g5, h1⟩)]⟩ => bif nmEq g0 ([0, 10]) && nmEq g1 ([0, 11]) && nmEq g2 ([0, 10]) && ctsEq g3 ([.int .i64]) && nmEq g4 ([0, 11]) && ctsEq g5 ([.int .i64, .int .i64]) then ro (runW (R148_0 t3) ((t13 - t12 + 1).toNat + 1) (t12, t13, h0, h1)) none (fun p : Int × (List AV) × (List AV) => k (.exit 0) ⟨[(11, AV.own [0, 11]), (12, AV.int .i64 p.1)], [([0, 10], ⟨false, [.int .i64], p.2.1⟩), ([0, 11], ⟨false, [.int .i64, .int .i64], p.2.2⟩)]⟩) else none
  | _ => none
noncomputable def c148 : Cfg := cfg Try.prog [(148, 0, [3, 10, 11, 12, 13]), (148, 999, [8, 9]), (148, 1000, [11, 12]), (148, 1001, [3, 10, 11, 12, 13])] [(139, m139), (171, m171)] [] [] [(148, 0, l148_0)]
theorem s148_0 (ce : CallE) (t3 : Int) (t12 : Int) (t13 : Int) (h0 : List AV) (h1 : List AV) (next : St → Option AV) (k : Kont) : stepA (codeA c148 ce [] 148 0 (sub [1, 1, 1, 1, 0, 0, 0] (body Try.f148))) (normA [] [3, 10, 11, 12, 13]) next ⟨[(3, AV.int .i64 t3), (10, AV.own [0, 10]), (11, AV.own [0, 11]), (12, AV.int .i64 t12), (13, AV.int .i64 t13)], [([0, 10], ⟨false, [.int .i64], h0⟩), ([0, 11], ⟨false, [.int .i64, .int .i64], h1⟩)]⟩ k = (bif decide (t12 ≤ t13) then (bif q171 h0 t12 t13 t3 then (bif (v171_2 h0 t12 t13 t3) then (bif (decide (0 ≤ t13) && decide (t13 < (h0.length : Int))) then (bif (decide (0 ≤ t12) && decide (t12 < (h0.length : Int))) then (bif (decide (0 ≤ t12) && decide (t12 < (h0.length : Int))) then (bif (decide (0 ≤ t13) && decide (t13 < ((h0.set t12.toNat (AV.agg [AV.int .i64 (fI (h0.getD t13.toNat AV.undef) 0)])).length : Int))) then (bif (decide ((h1.length + ([AV.agg [AV.int .i64 t12, AV.int .i64 t13]]).length) * 16 ≤ 140737488355328) && decide ((h1.length + ([AV.agg [AV.int .i64 t12, AV.int .i64 t13]]).length) ≤ 140737488355328)) then next ⟨[(3, AV.int .i64 t3), (10, AV.own [0, 10]), (11, AV.own [0, 11]), (12, AV.int .i64 (v171_0 h0 t12 t13 t3)), (13, AV.int .i64 (v171_1 h0 t12 t13 t3))], [([0, 10], ⟨false, [.int .i64], (h0.set t12.toNat (AV.agg [AV.int .i64 (fI (h0.getD t13.toNat AV.undef) 0)])).set t13.toNat (AV.agg [AV.int .i64 (fI (h0.getD t12.toNat AV.undef) 0)])⟩), ([0, 11], ⟨false, [.int .i64, .int .i64], h1 ++ ([AV.agg [AV.int .i64 t12, AV.int .i64 t13]])⟩)]⟩
         else none)
        else none)
       else none)
      else none)
     else none)
    else next ⟨[(3, AV.int .i64 t3), (10, AV.own [0, 10]), (11, AV.own [0, 11]), (12, AV.int .i64 (v171_0 h0 t12 t13 t3)), (13, AV.int .i64 (v171_1 h0 t12 t13 t3))], [([0, 10], ⟨false, [.int .i64], h0⟩), ([0, 11], ⟨false, [.int .i64, .int .i64], h1⟩)]⟩)
   else none)
  else k (.exit 0) ⟨[(11, AV.own [0, 11]), (12, AV.int .i64 t12)], [([0, 10], ⟨false, [.int .i64], h0⟩), ([0, 11], ⟨false, [.int .i64, .int .i64], h1⟩)]⟩) := by kernel_rfl
theorem st148_0 (t3 : Int) (ce : CallE) (k : Kont) (s : (Int × Int × (List AV) × (List AV))) (next : St → Option AV) : stepA (codeA c148 ce [] 148 0 (sub [1, 1, 1, 1, 0, 0, 0] (body Try.f148))) (normA [] [3, 10, 11, 12, 13]) next ((fun s : Int × Int × (List AV) × (List AV) => ⟨[(3, AV.int .i64 t3), (10, AV.own [0, 10]), (11, AV.own [0, 11]), (12, AV.int .i64 s.1), (13, AV.int .i64 s.2.1)], [([0, 10], ⟨false, [.int .i64], s.2.2.1⟩), ([0, 11], ⟨false, [.int .i64, .int .i64], s.2.2.2⟩)]⟩) s) k = (R148_0 t3 s).el none (fun s => next ((fun s : Int × Int × (List AV) × (List AV) => ⟨[(3, AV.int .i64 t3), (10, AV.own [0, 10]), (11, AV.own [0, 11]), (12, AV.int .i64 s.1), (13, AV.int .i64 s.2.1)], [([0, 10], ⟨false, [.int .i64], s.2.2.1⟩), ([0, 11], ⟨false, [.int .i64, .int .i64], s.2.2.2⟩)]⟩) s)) (fun p : Int × (List AV) × (List AV) => k (.exit 0) ⟨[(11, AV.own [0, 11]), (12, AV.int .i64 p.1)], [([0, 10], ⟨false, [.int .i64], p.2.1⟩), ([0, 11], ⟨false, [.int .i64, .int .i64], p.2.2⟩)]⟩) := (s148_0 ce t3 s.1 s.2.1 s.2.2.1 s.2.2.2 next k).trans (by unfold R148_0; unfold F148_0; simp only [el_cond, el_ro, el_sum, el_fail, el_next, el_stop] <;> rfl)
theorem ok148_0 {ce : CallE} : LoopOK c148 ce [] 148 0 (sub [1, 1, 1, 1, 0, 0, 0] (body Try.f148)) := by
  intro m hm st k r h
  obtain rfl : l148_0 = m := Option.some.inj hm
  unfold l148_0 at h
  split at h
  · rename_i t3 g0 g1 t12 t13 g2 g3 h0 g4 g5 h1
    obtain ⟨hg, h⟩ := bif_some h
    simp only [Bool.and_eq_true] at hg
    obtain ⟨⟨⟨⟨⟨q0, q1⟩, q2⟩, q3⟩, q4⟩, q5⟩ := hg
    obtain rfl := (nmEq_iff _ _).1 q0
    obtain rfl := (nmEq_iff _ _).1 q1
    obtain rfl := (nmEq_iff _ _).1 q2
    obtain rfl := ctsEq_eq _ _ q3
    obtain rfl := (nmEq_iff _ _).1 q4
    obtain rfl := ctsEq_eq _ _ q5
    refine ⟨((t13 - t12 + 1).toNat + 1), ?_⟩
    rw [← h]
    exact loop_run (fun s : Int × Int × (List AV) × (List AV) => ⟨[(3, AV.int .i64 t3), (10, AV.own [0, 10]), (11, AV.own [0, 11]), (12, AV.int .i64 s.1), (13, AV.int .i64 s.2.1)], [([0, 10], ⟨false, [.int .i64], s.2.2.1⟩), ([0, 11], ⟨false, [.int .i64, .int .i64], s.2.2.2⟩)]⟩) (fun p : Int × (List AV) × (List AV) => k (.exit 0) ⟨[(11, AV.own [0, 11]), (12, AV.int .i64 p.1)], [([0, 10], ⟨false, [.int .i64], p.2.1⟩), ([0, 11], ⟨false, [.int .i64, .int .i64], p.2.2⟩)]⟩) (st148_0 t3 ce k) _ (t12, t13, h0, h1)
  · cases h
def q148 (a0 : List AV) (a1 : Int) (a2 : Int) (a3 : Int) : Bool := (bif decide (a1 < 0) then true else (bif decide (a1 > a2) then true else (bif decide (a2 > (a0.length : Int)) then true else (q139 a0 && (ro (runW (R148_0 a3) (((IntKind.i64.wrap (a2 - 1)) - a1 + 1).toNat + 1) (a1, IntKind.i64.wrap (a2 - 1), (v139_0 a0), ([] : List AV))) false (fun p37 => true))))))
def v148_0 (a0 : List AV) (a1 : Int) (a2 : Int) (a3 : Int) : List AV := (bif decide (a1 < 0) then ([] : List AV) else (bif decide (a1 > a2) then ([] : List AV) else (bif decide (a2 > (a0.length : Int)) then ([] : List AV) else (ro (runW (R148_0 a3) (((IntKind.i64.wrap (a2 - 1)) - a1 + 1).toNat + 1) (a1, IntKind.i64.wrap (a2 - 1), (v139_0 a0), ([] : List AV))) [] (fun p37 => p37.2.2)))))
def v148_1 (a0 : List AV) (a1 : Int) (a2 : Int) (a3 : Int) : Int := (bif decide (a1 < 0) then 0 else (bif decide (a1 > a2) then 0 else (bif decide (a2 > (a0.length : Int)) then 0 else (ro (runW (R148_0 a3) (((IntKind.i64.wrap (a2 - 1)) - a1 + 1).toNat + 1) (a1, IntKind.i64.wrap (a2 - 1), (v139_0 a0), ([] : List AV))) 0 (fun p37 => p37.1)))))
theorem e148 (a0 : List AV) (a1 : Int) (a2 : Int) (a3 : Int) : funA c148 0 148 [AV.sl [.int .i64] a0, AV.int .i64 a1, AV.int .i64 a2, AV.int .i64 a3] = (bif decide (a1 < 0) then some (AV.tup [AV.fl [.int .i64, .int .i64] ([] : List AV), AV.int .i64 0])
  else (bif decide (a1 > a2) then some (AV.tup [AV.fl [.int .i64, .int .i64] ([] : List AV), AV.int .i64 0])
   else (bif decide (a2 > (a0.length : Int)) then some (AV.tup [AV.fl [.int .i64, .int .i64] ([] : List AV), AV.int .i64 0])
    else (bif q139 a0 then (ro (runW (R148_0 a3) (((IntKind.i64.wrap (a2 - 1)) - a1 + 1).toNat + 1) (a1, IntKind.i64.wrap (a2 - 1), (v139_0 a0), ([] : List AV))) none (fun p37 => some (AV.tup [AV.fl [.int .i64, .int .i64] p37.2.2, AV.int .i64 p37.1])))
     else none)))) := by kernel_rfl
theorem r148 (a0 : List AV) (a1 : Int) (a2 : Int) (a3 : Int) (h : q148 a0 a1 a2 a3 = true) : funA c148 0 148 [AV.sl [.int .i64] a0, AV.int .i64 a1, AV.int .i64 a2, AV.int .i64 a3] = some (AV.tup [AV.fl [.int .i64, .int .i64] (v148_0 a0 a1 a2 a3), AV.int .i64 (v148_1 a0 a1 a2 a3)]) := (e148 a0 a1 a2 a3).trans ((br (fun b => some (AV.tup [AV.fl [.int .i64, .int .i64] (bif b then ([] : List AV) else (bif decide (a1 > a2) then ([] : List AV) else (bif decide (a2 > (a0.length : Int)) then ([] : List AV) else (ro (runW (R148_0 a3) (((IntKind.i64.wrap (a2 - 1)) - a1 + 1).toNat + 1) (a1, IntKind.i64.wrap (a2 - 1), (v139_0 a0), ([] : List AV))) [] (fun p37 => p37.2.2))))), AV.int .i64 (bif b then 0 else (bif decide (a1 > a2) then 0 else (bif decide (a2 > (a0.length : Int)) then 0 else (ro (runW (R148_0 a3) (((IntKind.i64.wrap (a2 - 1)) - a1 + 1).toNat + 1) (a1, IntKind.i64.wrap (a2 - 1), (v139_0 a0), ([] : List AV))) 0 (fun p37 => p37.1)))))])) (fun _ => rfl) (br (fun b => some (AV.tup [AV.fl [.int .i64, .int .i64] (bif b then ([] : List AV) else (bif decide (a2 > (a0.length : Int)) then ([] : List AV) else (ro (runW (R148_0 a3) (((IntKind.i64.wrap (a2 - 1)) - a1 + 1).toNat + 1) (a1, IntKind.i64.wrap (a2 - 1), (v139_0 a0), ([] : List AV))) [] (fun p37 => p37.2.2)))), AV.int .i64 (bif b then 0 else (bif decide (a2 > (a0.length : Int)) then 0 else (ro (runW (R148_0 a3) (((IntKind.i64.wrap (a2 - 1)) - a1 + 1).toNat + 1) (a1, IntKind.i64.wrap (a2 - 1), (v139_0 a0), ([] : List AV))) 0 (fun p37 => p37.1))))])) (fun _ => rfl) (br (fun b => some (AV.tup [AV.fl [.int .i64, .int .i64] (bif b then ([] : List AV) else (ro (runW (R148_0 a3) (((IntKind.i64.wrap (a2 - 1)) - a1 + 1).toNat + 1) (a1, IntKind.i64.wrap (a2 - 1), (v139_0 a0), ([] : List AV))) [] (fun p37 => p37.2.2))), AV.int .i64 (bif b then 0 else (ro (runW (R148_0 a3) (((IntKind.i64.wrap (a2 - 1)) - a1 + 1).toNat + 1) (a1, IntKind.i64.wrap (a2 - 1), (v139_0 a0), ([] : List AV))) 0 (fun p37 => p37.1)))])) (fun _ => rfl) (brL (brO (fun o : Option ((Int × (List AV) × (List AV))) => some (AV.tup [AV.fl [.int .i64, .int .i64] (ro o [] (fun p37 => p37.2.2)), AV.int .i64 (ro o 0 (fun p37 => p37.1))])) (fun p37 => (fun _ => rfl))))))) h)
def m148 : TModel
  | [.sl g0 a0, .int .i64 a1, .int .i64 a2, .int .i64 a3] => bif ctsEq g0 ([.int .i64]) then some (q148 a0 a1 a2 a3, AV.tup [AV.fl [.int .i64, .int .i64] (v148_0 a0 a1 a2 a3), AV.int .i64 (v148_1 a0 a1 a2 a3)]) else none
  | _ => none
theorem k148 : Known Try.prog 148 := ⟨Try.f148, Try.func148, by kernel_rfl, by kernel_rfl⟩
theorem meets148 : Meets Try.prog 148 m148 := by
  refine meet (f := Try.f148) (l := [(0, sub [1, 1, 1, 1, 0, 0, 0] (body Try.f148))]) (hs := [(148, 0, [3, 10, 11, 12, 13]), (148, 999, [8, 9]), (148, 1000, [11, 12]), (148, 1001, [3, 10, 11, 12, 13])]) (ts := [(139, m139), (171, m171)]) (ws := []) (is := []) (ls := [(148, 0, l148_0)]) (lvl := 0) mixed k148 Try.func148 (by kernel_rfl) (loops_cons ok148_0 noLoop) (allT_cons meets139 (allT_cons meets171 allT_nil)) allM_nil noI fun w xs us r hl hv h => ?_
  unfold m148 at h
  split at h
  · rename_i g0 a0 a1 a2 a3
    obtain ⟨hg, h⟩ := bif_pair h
    have q0 := hg
    obtain rfl := ctsEq_eq _ _ q0
    obtain ⟨h1, rfl⟩ := pair_inj h
    exact r148 a0 a1 a2 a3 h1
  · cases h

/-! ### 149 loop.example/g01984/impl.ApplySwaps -/
def F149_0 (t7 : Int) (t21 : List AV) (t22 : Int) (h2_0 : List AV) (h2_1 : List AV) (h2_2 : List AV) (h3 : List AV) (t23 : Int) (h0 : List AV) (h1 : List AV) : Out ((Int × (List AV) × (List AV))) (((List AV) × (List AV)) ⊕ ((List AV) × (List AV) × (List AV) × (List AV) × Int × Int × (List AV))) := (bif decide (t23 < t22) then (bif (decide (0 ≤ t23) && decide (t23 < (t21.length : Int))) then (bif decide (fI (t21.getD t23.toNat AV.undef) 0 < 0) then (bif q129 h2_0 h2_1 h2_2 then .stop (.inr (h0, h1, (v129_0 h2_0 h2_1 h2_2), (v129_1 h2_0 h2_1 h2_2), fI (t21.getD t23.toNat AV.undef) 0, fI (t21.getD t23.toNat AV.undef) 1, (v129_2 h2_0 h2_1 h2_2)))
     else .fail)
    else (bif decide (fI (t21.getD t23.toNat AV.undef) 0 ≥ t7) then (bif q129 h2_0 h2_1 h2_2 then .stop (.inr (h0, h1, (v129_0 h2_0 h2_1 h2_2), (v129_1 h2_0 h2_1 h2_2), fI (t21.getD t23.toNat AV.undef) 0, fI (t21.getD t23.toNat AV.undef) 1, (v129_2 h2_0 h2_1 h2_2)))
      else .fail)
     else (bif decide (fI (t21.getD t23.toNat AV.undef) 1 < 0) then (bif q129 h2_0 h2_1 h2_2 then .stop (.inr (h0, h1, (v129_0 h2_0 h2_1 h2_2), (v129_1 h2_0 h2_1 h2_2), fI (t21.getD t23.toNat AV.undef) 0, fI (t21.getD t23.toNat AV.undef) 1, (v129_2 h2_0 h2_1 h2_2)))
       else .fail)
      else (bif decide (fI (t21.getD t23.toNat AV.undef) 1 ≥ t7) then (bif q129 h2_0 h2_1 h2_2 then .stop (.inr (h0, h1, (v129_0 h2_0 h2_1 h2_2), (v129_1 h2_0 h2_1 h2_2), fI (t21.getD t23.toNat AV.undef) 0, fI (t21.getD t23.toNat AV.undef) 1, (v129_2 h2_0 h2_1 h2_2)))
        else .fail)
       else (bif (decide (0 ≤ fI (t21.getD t23.toNat AV.undef) 1) && decide (fI (t21.getD t23.toNat AV.undef) 1 < (h0.length : Int))) then (bif (decide (0 ≤ fI (t21.getD t23.toNat AV.undef) 0) && decide (fI (t21.getD t23.toNat AV.undef) 0 < (h0.length : Int))) then (bif (decide (0 ≤ fI (t21.getD t23.toNat AV.undef) 0) && decide (fI (t21.getD t23.toNat AV.undef) 0 < (h0.length : Int))) then (bif (decide (0 ≤ fI (t21.getD t23.toNat AV.undef) 1) && decide (fI (t21.getD t23.toNat AV.undef) 1 < ((h0.set (fI (t21.getD t23.toNat AV.undef) 0).toNat (AV.agg [AV.int .i64 (fI (h0.getD (fI (t21.getD t23.toNat AV.undef) 1).toNat AV.undef) 0)])).length : Int))) then (bif (decide (0 ≤ fI (t21.getD t23.toNat AV.undef) 1) && decide (fI (t21.getD t23.toNat AV.undef) 1 < (h1.length : Int))) then (bif (decide (0 ≤ fI (t21.getD t23.toNat AV.undef) 0) && decide (fI (t21.getD t23.toNat AV.undef) 0 < (h1.length : Int))) then (bif (decide (0 ≤ fI (t21.getD t23.toNat AV.undef) 0) && decide (fI (t21.getD t23.toNat AV.undef) 0 < (h1.length : Int))) then (bif (decide (0 ≤ fI (t21.getD t23.toNat AV.undef) 1) && decide (fI (t21.getD t23.toNat AV.undef) 1 < ((h1.set (fI (t21.getD t23.toNat AV.undef) 0).toNat (AV.agg [AV.int .i64 (fI (h1.getD (fI (t21.getD t23.toNat AV.undef) 1).toNat AV.undef) 0)])).length : Int))) then .next (IntKind.i64.wrap (t23 + 1), (h0.set (fI (t21.getD t23.toNat AV.undef) 0).toNat (AV.agg [AV.int .i64 (fI (h0.getD (fI (t21.getD t23.toNat AV.undef) 1).toNat AV.undef) 0)])).set (fI (t21.getD t23.toNat AV.undef) 1).toNat (AV.agg [AV.int .i64 (fI (h0.getD (fI (t21.getD t23.toNat AV.undef) 0).toNat AV.undef) 0)]), (h1.set (fI (t21.getD t23.toNat AV.undef) 0).toNat (AV.agg [AV.int .i64 (fI (h1.getD (fI (t21.getD t23.toNat AV.undef) 1).toNat AV.undef) 0)])).set (fI (t21.getD t23.toNat AV.undef) 1).toNat (AV.agg [AV.int .i64 (fI (h1.getD (fI (t21.getD t23.toNat AV.undef) 0).toNat AV.undef) 0)]))
               else .fail)
              else .fail)
             else .fail)
            else .fail)
           else .fail)
          else .fail)
         else .fail)
        else .fail)))))
   else .fail)
  else .stop (.inl (h0, h1)))
def R149_0 (t7 : Int) (t21 : List AV) (t22 : Int) (h2_0 : List AV) (h2_1 : List AV) (h2_2 : List AV) (h3 : List AV) : ((Int × (List AV) × (List AV))) → Out ((Int × (List AV) × (List AV))) (((List AV) × (List AV)) ⊕ ((List AV) × (List AV) × (List AV) × (List AV) × Int × Int × (List AV))) := fun s : Int × (List AV) × (List AV) => F149_0 t7 t21 t22 h2_0 h2_1 h2_2 h3 s.1 s.2.1 s.2.2
def l149_0 : LModel := fun _ _ st k => match st with
  | ⟨[(2, .ptr g0 g1 g2), (4, .ptr g3 g4 g5), (6, .ptr g6 g7 g8), (7, .int .i64 t7), (21, .sl g9 t21), (22, .int .i64 t22), (23, .int .i64 t23)], [(g10, ⟨false, g11, h0⟩), (g12, ⟨false, g13, h1⟩), (g14, ⟨true, [], [.agg [.sl g15 h2_0, .sl g16 h2_1, .sl g17 h2_2]]⟩), (g18, ⟨false, g19, h3⟩), (g20, ⟨true, [], [.agg [.snil, .snil, .snil]]⟩), (g21, ⟨true, [], [.agg [.own g22, .own g23, .own g24]]⟩)]⟩ => bif nmEq g0 ([0, 2]) && Nat.beq g1 0 && Nat.beq g2 0 && nmEq g3 ([0, 4]) && Nat.beq g4 0 && Nat.beq g5 0 && nmEq g6 ([0, 6]) && Nat.beq g7 0 && Nat.beq g8 0 && ctsEq g9 ([.int .i64, .int .i64]) && nmEq g10 ([0, 0, 6]) && ctsEq g11 ([.int .i64]) && nmEq g12 ([0, 1, 6]) && ctsEq g13 ([.int .i64]) && nmEq g14 ([0, 2]) && ctsEq g15 ([.int .i64]) && ctsEq g16 ([.int .i64]) && ctsEq g17 ([.int .i64, .int .i64]) && nmEq g18 ([0, 2, 6]) && ctsEq g19 ([.int .i64, .int .i64]) && nmEq g20 ([0, 4]) && nmEq g21 ([0, 6]) && nmEq g22 ([0, 0, 6]) && nmEq g23 ([0, 1, 6]) && nmEq g24 ([0, 2, 6]) then ro (runW (R149_0 t7 t21 t22 h2_0 h2_1 h2_2 h3) ((t22 - t23).toNat + 1) (t23, h0, h1)) none (sumE (fun p : (List AV) × (List AV) => k (.exit 0) ⟨[(4, AV.ptr [0, 4] 0 0), (6, AV.ptr [0, 6] 0 0)], [([0, 0, 6], ⟨false, [.int .i64], p.1⟩), ([0, 1, 6], ⟨false, [.int .i64], p.2⟩), ([0, 2], ⟨true, [], [AV.agg [AV.sl [.int .i64] h2_0, AV.sl [.int .i64] h2_1, AV.sl [.int .i64, .int .i64] h2_2]]⟩), ([0, 2, 6], ⟨false, [.int .i64, .int .i64], h3⟩), ([0, 4], ⟨true, [], [AV.agg [AV.snil, AV.snil, AV.snil]]⟩), ([0, 6], ⟨true, [], [AV.agg [AV.own [0, 0, 6], AV.own [0, 1, 6], AV.own [0, 2, 6]]]⟩)]⟩) (fun p : (List AV) × (List AV) × (List AV) × (List AV) × Int × Int × (List AV) => k .ret ⟨[(4, AV.ptr [0, 4] 0 0), (5, AV.bool false)], [([0, 0, 6], ⟨false, [.int .i64], p.1⟩), ([0, 1, 6], ⟨false, [.int .i64], p.2.1⟩), ([0, 1, 48], ⟨false, [.int .i64], p.2.2.1⟩), ([0, 2], ⟨true, [], [AV.agg [AV.sl [.int .i64] h2_0, AV.sl [.int .i64] h2_1, AV.sl [.int .i64, .int .i64] h2_2]]⟩), ([0, 2, 6], ⟨false, [.int .i64, .int .i64], h3⟩), ([0, 4], ⟨true, [], [AV.agg [AV.own [0, 1, 48], AV.own [1, 1, 48], AV.own [2, 1, 48]]]⟩), ([0, 6], ⟨true, [], [AV.agg [AV.own [0, 0, 6], AV.own [0, 1, 6], AV.own [0, 2, 6]]]⟩), ([1, 1, 48], ⟨false, [.int .i64], p.2.2.2.1⟩), ([1, 9], ⟨true, [], [AV.agg [AV.int .i64 p.2.2.2.2.1, AV.int .i64 p.2.2.2.2.2.1]]⟩), ([2, 1, 48], ⟨false, [.int .i64, .int .i64], p.2.2.2.2.2.2⟩)]⟩)) else none
  | _ => none
noncomputable def c149 : Cfg := cfg Try.prog [(149, 0, [2, 4, 6, 7, 21, 22, 23]), (149, 999, [4, 5]), (149, 1000, [4, 6]), (149, 1001, [2, 4, 6, 7, 21, 22, 23])] [(129, m129)] [] [] [(149, 0, l149_0)]
theorem s149_0 (ce : CallE) (t7 : Int) (t21 : List AV) (t22 : Int) (t23 : Int) (h0 : List AV) (h1 : List AV) (h2_0 : List AV) (h2_1 : List AV) (h2_2 : List AV) (h3 : List AV) (next : St → Option AV) (k : Kont) : stepA (codeA c149 ce [] 149 0 (sub [1, 1, 1, 0, 1, 0, 0] (body Try.f149))) (normA [] [2, 4, 6, 7, 21, 22, 23]) next ⟨[(2, AV.ptr [0, 2] 0 0), (4, AV.ptr [0, 4] 0 0), (6, AV.ptr [0, 6] 0 0), (7, AV.int .i64 t7), (21, AV.sl [.int .i64, .int .i64] t21), (22, AV.int .i64 t22), (23, AV.int .i64 t23)], [([0, 0, 6], ⟨false, [.int .i64], h0⟩), ([0, 1, 6], ⟨false, [.int .i64], h1⟩), ([0, 2], ⟨true, [], [AV.agg [AV.sl [.int .i64] h2_0, AV.sl [.int .i64] h2_1, AV.sl [.int .i64, .int .i64] h2_2]]⟩), ([0, 2, 6], ⟨false, [.int .i64, .int .i64], h3⟩), ([0, 4], ⟨true, [], [AV.agg [AV.snil, AV.snil, AV.snil]]⟩), ([0, 6], ⟨true, [], [AV.agg [AV.own [0, 0, 6], AV.own [0, 1, 6], AV.own [0, 2, 6]]]⟩)]⟩ k = (bif decide (t23 < t22) then (bif (decide (0 ≤ t23) && decide (t23 < (t21.length : Int))) then (bif decide (fI (t21.getD t23.toNat AV.undef) 0 < 0) then (bif q129 h2_0 h2_1 h2_2 then k .ret ⟨[(4, AV.ptr [0, 4] 0 0), (5, AV.bool false)], [([0, 0, 6], ⟨false, [.int .i64], h0⟩), ([0, 1, 6], ⟨false, [.int .i64], h1⟩), ([0, 1, 48], ⟨false, [.int .i64], (v129_0 h2_0 h2_1 h2_2)⟩), ([0, 2], ⟨true, [], [AV.agg [AV.sl [.int .i64] h2_0, AV.sl [.int .i64] h2_1, AV.sl [.int .i64, .int .i64] h2_2]]⟩), ([0, 2, 6], ⟨false, [.int .i64, .int .i64], h3⟩), ([0, 4], ⟨true, [], [AV.agg [AV.own [0, 1, 48], AV.own [1, 1, 48], AV.own [2, 1, 48]]]⟩), ([0, 6], ⟨true, [], [AV.agg [AV.own [0, 0, 6], AV.own [0, 1, 6], AV.own [0, 2, 6]]]⟩), ([1, 1, 48], ⟨false, [.int .i64], (v129_1 h2_0 h2_1 h2_2)⟩), ([1, 9], ⟨true, [], [AV.agg [AV.int .i64 (fI (t21.getD t23.toNat AV.undef) 0), AV.int .i64 (fI (t21.getD t23.toNat AV.undef) 1)]]⟩), ([2, 1, 48], ⟨false, [.int .i64, .int .i64], (v129_2 h2_0 h2_1 h2_2)⟩)]⟩
     else none)
    else (bif decide (fI (t21.getD t23.toNat AV.undef) 0 ≥ t7) then (bif q129 h2_0 h2_1 h2_2 then k .ret ⟨[(4, AV.ptr [0, 4] 0 0), (5, AV.bool false)], [([0, 0, 6], ⟨false, [.int .i64], h0⟩), ([0, 1, 6], ⟨false, [.int .i64], h1⟩), ([0, 1, 48], ⟨false, [.int .i64], (v129_0 h2_0 h2_1 h2_2)⟩), ([0, 2], ⟨true, [], [AV.agg [AV.sl [.int .i64] h2_0, AV.sl [.int .i64] h2_1, AV.sl [.int .i64, .int .i64] h2_2]]⟩), ([0, 2, 6], ⟨false, [.int .i64, .int .i64], h3⟩), ([0, 4], ⟨true, [], [AV.agg [AV.own [0, 1, 48], AV.own [1, 1, 48], AV.own [2, 1, 48]]]⟩), ([0, 6], ⟨true, [], [AV.agg [AV.own [0, 0, 6], AV.own [0, 1, 6], AV.own [0, 2, 6]]]⟩), ([1, 1, 48], ⟨false, [.int .i64], (v129_1 h2_0 h2_1 h2_2)⟩), ([1, 9], ⟨true, [], [AV.agg [AV.int .i64 (fI (t21.getD t23.toNat AV.undef) 0), AV.int .i64 (fI (t21.getD t23.toNat AV.undef) 1)]]⟩), ([2, 1, 48], ⟨false, [.int .i64, .int .i64], (v129_2 h2_0 h2_1 h2_2)⟩)]⟩
      else none)
     else (bif decide (fI (t21.getD t23.toNat AV.undef) 1 < 0) then (bif q129 h2_0 h2_1 h2_2 then k .ret ⟨[(4, AV.ptr [0, 4] 0 0), (5, AV.bool false)], [([0, 0, 6], ⟨false, [.int .i64], h0⟩), ([0, 1, 6], ⟨false, [.int .i64], h1⟩), ([0, 1, 48], ⟨false, [.int .i64], (v129_0 h2_0 h2_1 h2_2)⟩), ([0, 2], ⟨true, [], [AV.agg [AV.sl [.int .i64] h2_0, AV.sl [.int .i64] h2_1, AV.sl [.int .i64, .int .i64] h2_2]]⟩), ([0, 2, 6], ⟨false, [.int .i64, .int .i64], h3⟩), ([0, 4], ⟨true, [], [AV.agg [AV.own [0, 1, 48], AV.own [1, 1, 48], AV.own [2, 1, 48]]]⟩), ([0, 6], ⟨true, [], [AV.agg [AV.own [0, 0, 6], AV.own [0, 1, 6], AV.own [0, 2, 6]]]⟩), ([1, 1, 48], ⟨false, [.int .i64], (v129_1 h2_0 h2_1 h2_2)⟩), ([1, 9], ⟨true, [], [AV.agg [AV.int .i64 (fI (t21.getD t23.toNat AV.undef) 0), AV.int .i64 (fI (t21.getD t23.toNat AV.undef) 1)]]⟩), ([2, 1, 48], ⟨false, [.int .i64, .int .i64], (v129_2 h2_0 h2_1 h2_2)⟩)]⟩
       else none)
      else (bif decide (fI (t21.getD t23.toNat AV.undef) 1 ≥ t7) then (bif q129 h2_0 h2_1 h2_2 then k .ret ⟨[(4, AV.ptr [0, 4] 0 0), (5, AV.bool false)], [([0, 0, 6], ⟨false, [.int .i64], h0⟩), ([0, 1, 6], ⟨false, [.int .i64], h1⟩), ([0, 1, 48], ⟨false, [.int .i64], (v129_0 h2_0 h2_1 h2_2)⟩), ([0, 2], ⟨true, [], [AV.agg [AV.sl [.int .i64] h2_0, AV.sl [.int .i64] h2_1, AV.sl [.int .i64, .int .i64] h2_2]]⟩), ([0, 2, 6], ⟨false, [.int .i64, .int .i64], h3⟩), ([0, 4], ⟨true, [], [AV.agg [AV.own [0, 1, 48], AV.own [1, 1, 48], AV.own [2, 1, 48]]]⟩), ([0, 6], ⟨true, [], [AV.agg [AV.own [0, 0, 6], AV.own [0, 1, 6], AV.own [0, 2, 6]]]⟩), ([1, 1, 48], ⟨false, [.int .i64], (v129_1 h2_0 h2_1 h2_2)⟩), ([1, 9], ⟨true, [], [AV.agg [AV.int .i64 (fI (t21.getD t23.toNat AV.undef) 0), AV.int .i64 (fI (t21.getD t23.toNat AV.undef) 1)]]⟩), ([2, 1, 48], ⟨false, [.int .i64, .int .i64], (v129_2 h2_0 h2_1 h2_2)⟩)]⟩
        else none)
       else (bif (decide (0 ≤ fI (t21.getD t23.toNat AV.undef) 1) && decide (fI (t21.getD t23.toNat AV.undef) 1 < (h0.length : Int))) then (bif (decide (0 ≤ fI (t21.getD t23.toNat AV.undef) 0) && decide (fI (t21.getD t23.toNat AV.undef) 0 < (h0.length : Int))) then (bif (decide (0 ≤ fI (t21.getD t23.toNat AV.undef) 0) && decide (fI (t21.getD t23.toNat AV.undef) 0 < (h0.length : Int))) then (bif (decide (0 ≤ fI (t21.getD t23.toNat AV.undef) 1) && decide (fI (t21.getD t23.toNat AV.undef) 1 < ((h0.set (fI (t21.getD t23.toNat AV.undef) 0).toNat (AV.agg [AV.int .i64 (fI (h0.getD (fI (t21.getD t23.toNat AV.undef) 1).toNat AV.undef) 0)])).length : Int))) then (bif (decide (0 ≤ fI (t21.getD t23.toNat AV.undef) 1) && decide (fI (t21.getD t23.toNat AV.undef) 1 < (h1.length : Int))) then (bif (decide (0 ≤ fI (t21.getD t23.toNat AV.undef) 0) && decide (fI (t21.getD t23.toNat AV.undef) 0 < (h1.length : Int))) then (bif (decide (0 ≤ fI (t21.getD t23.toNat AV.undef) 0) && decide (fI (t21.getD t23.toNat AV.undef) 0 < (h1.length : Int))) then (bif (decide (0 ≤ fI (t21.getD t23.toNat AV.undef) 1) && decide (fI (t21.getD t23.toNat AV.undef) 1 < ((h1.set (fI (t21.getD t23.toNat AV.undef) 0).toNat (AV.agg [AV.int .i64 (fI (h1.getD (fI (t21.getD t23.toNat AV.undef) 1).toNat AV.undef) 0)])).length : Int))) then next ⟨[(2, AV.ptr [0, 2] 0 0), (4, AV.ptr [0, 4] 0 0), (6, AV.ptr [0, 6] 0 0), (7, AV.int .i64 t7), (21, AV.sl [.int .i64, .int .i64] t21), (22, AV.int .i64 t22), (23, AV.int .i64 (IntKind.i64.wrap (t23 + 1)))], [([0, 0, 6], ⟨false, [.int .i64], (h0.set (fI (t21.getD t23.toNat AV.undef) 0).toNat (AV.agg [AV.int .i64 (fI (h0.getD (fI (t21.getD t23.toNat AV.undef) 1).toNat AV.undef) 0)])).set (fI (t21.getD t23.toNat AV.undef) 1).toNat (AV.agg [AV.int .i64 (fI (h0.getD (fI (t21.getD t23.toNat AV.undef) 0).toNat AV.undef) 0)])⟩), ([0, 1, 6], ⟨false, [.int .i64], (h1.set (fI (t21.getD t23.toNat AV.undef) 0).toNat (AV.agg [AV.int .i64 (fI (h1.getD (fI (t21.getD t23.toNat AV.undef) 1).toNat AV.undef) 0)])).set (fI (t21.getD t23.toNat AV.undef) 1).toNat (AV.agg [AV.int .i64 (fI (h1.getD (fI (t21.getD t23.toNat AV.undef) 0).toNat AV.undef) 0)])⟩), ([0, 2], ⟨true, [], [AV.agg [AV.sl [.int .i64] h2_0, AV.sl [.int .i64] h2_1, AV.sl [.int .i64, .int .i64] h2_2]]⟩), ([0, 2, 6], ⟨false, [.int .i64, .int .i64], h3⟩), ([0, 4], ⟨true, [], [AV.agg [AV.snil, AV.snil, AV.snil]]⟩), ([0, 6], ⟨true, [], [AV.agg [AV.own [0, 0, 6], AV.own [0, 1, 6], AV.own [0, 2, 6]]]⟩)]⟩
               else none)
              else none)
             else none)
            else none)
           else none)
          else none)
         else none)
        else none)))))
   else none)
  else k (.exit 0) ⟨[(4, AV.ptr [0, 4] 0 0), (6, AV.ptr [0, 6] 0 0)], [([0, 0, 6], ⟨false, [.int .i64], h0⟩), ([0, 1, 6], ⟨false, [.int .i64], h1⟩), ([0, 2], ⟨true, [], [AV.agg [AV.sl [.int .i64] h2_0, AV.sl [.int .i64] h2_1, AV.sl [.int .i64, .int .i64] h2_2]]⟩), ([0, 2, 6], ⟨false, [.int .i64, .int .i64], h3⟩), ([0, 4], ⟨true, [], [AV.agg [AV.snil, AV.snil, AV.snil]]⟩), ([0, 6], ⟨true, [], [AV.agg [AV.own [0, 0, 6], AV.own [0, 1, 6], AV.own [0, 2, 6]]]⟩)]⟩) := by kernel_rfl
theorem st149_0 (t7 : Int) (t21 : List AV) (t22 : Int) (h2_0 : List AV) (h2_1 : List AV) (h2_2 : List AV) (h3 : List AV) (ce : CallE) (k : Kont) (s : (Int × (List AV) × (List AV))) (next : St → Option AV) : stepA (codeA c149 ce [] 149 0 (sub [1, 1, 1, 0, 1, 0, 0] (body Try.f149))) (normA [] [2, 4, 6, 7, 21, 22, 23]) next ((fun s : Int × (List AV) × (List AV) => ⟨[(2, AV.ptr [0, 2] 0 0), (4, AV.ptr [0, 4] 0 0), (6, AV.ptr [0, 6] 0 0), (7, AV.int .i64 t7), (21, AV.sl [.int .i64, .int .i64] t21), (22, AV.int .i64 t22), (23, AV.int .i64 s.1)], [([0, 0, 6], ⟨false, [.int .i64], s.2.1⟩), ([0, 1, 6], ⟨false, [.int .i64], s.2.2⟩), ([0, 2], ⟨true, [], [AV.agg [AV.sl [.int .i64] h2_0, AV.sl [.int .i64] h2_1, AV.sl [.int .i64, .int .i64] h2_2]]⟩), ([0, 2, 6], ⟨false, [.int .i64, .int .i64], h3⟩), ([0, 4], ⟨true, [], [AV.agg [AV.snil, AV.snil, AV.snil]]⟩), ([0, 6], ⟨true, [], [AV.agg [AV.own [0, 0, 6], AV.own [0, 1, 6], AV.own [0, 2, 6]]]⟩)]⟩) s) k = (R149_0 t7 t21 t22 h2_0 h2_1 h2_2 h3 s).el none (fun s => next ((fun s : Int × (List AV) × (List AV) => ⟨[(2, AV.ptr [0, 2] 0 0), (4, AV.ptr [0, 4] 0 0), (6, AV.ptr [0, 6] 0 0), (7, AV.int .i64 t7), (21, AV.sl [.int .i64, .int .i64] t21), (22, AV.int .i64 t22), (23, AV.int .i64 s.1)], [([0, 0, 6], ⟨false, [.int .i64], s.2.1⟩), ([0, 1, 6], ⟨false, [.int .i64], s.2.2⟩), ([0, 2], ⟨true, [], [AV.agg [AV.sl [.int .i64] h2_0, AV.sl [.int .i64] h2_1, AV.sl [.int .i64, .int .i64] h2_2]]⟩), ([0, 2, 6], ⟨false, [.int .i64, .int .i64], h3⟩), ([0, 4], ⟨true, [], [AV.agg [AV.snil, AV.snil, AV.snil]]⟩), ([0, 6], ⟨true, [], [AV.agg [AV.own [0, 0, 6], AV.own [0, 1, 6], AV.own [0, 2, 6]]]⟩)]⟩) s)) (sumE (fun p : (List AV) × (List AV) => k (.exit 0) ⟨[(4, AV.ptr [0, 4] 0 0), (6, AV.ptr [0, 6] 0 0)], [([0, 0, 6], ⟨false, [.int .i64], p.1⟩), ([0, 1, 6], ⟨false, [.int .i64], p.2⟩), ([0, 2], ⟨true, [], [AV.agg [AV.sl [.int .i64] h2_0, AV.sl [.int .i64] h2_1, AV.sl [.int .i64, .int .i64] h2_2]]⟩), ([0, 2, 6], ⟨false, [.int .i64, .int .i64], h3⟩), ([0, 4], ⟨true, [], [AV.agg [AV.snil, AV.snil, AV.snil]]⟩), ([0, 6], ⟨true, [], [AV.agg [AV.own [0, 0, 6], AV.own [0, 1, 6], AV.own [0, 2, 6]]]⟩)]⟩) (fun p : (List AV) × (List AV) × (List AV) × (List AV) × Int × Int × (List AV) => k .ret ⟨[(4, AV.ptr [0, 4] 0 0), (5, AV.bool false)], [([0, 0, 6], ⟨false, [.int .i64], p.1⟩), ([0, 1, 6], ⟨false, [.int .i64], p.2.1⟩), ([0, 1, 48], ⟨false, [.int .i64], p.2.2.1⟩), ([0, 2], ⟨true, [], [AV.agg [AV.sl [.int .i64] h2_0, AV.sl [.int .i64] h2_1, AV.sl [.int .i64, .int .i64] h2_2]]⟩), ([0, 2, 6], ⟨false, [.int .i64, .int .i64], h3⟩), ([0, 4], ⟨true, [], [AV.agg [AV.own [0, 1, 48], AV.own [1, 1, 48], AV.own [2, 1, 48]]]⟩), ([0, 6], ⟨true, [], [AV.agg [AV.own [0, 0, 6], AV.own [0, 1, 6], AV.own [0, 2, 6]]]⟩), ([1, 1, 48], ⟨false, [.int .i64], p.2.2.2.1⟩), ([1, 9], ⟨true, [], [AV.agg [AV.int .i64 p.2.2.2.2.1, AV.int .i64 p.2.2.2.2.2.1]]⟩), ([2, 1, 48], ⟨false, [.int .i64, .int .i64], p.2.2.2.2.2.2⟩)]⟩)) := (s149_0 ce t7 t21 t22 s.1 s.2.1 s.2.2 h2_0 h2_1 h2_2 h3 next k).trans (by unfold R149_0; unfold F149_0; simp only [el_cond, el_ro, el_sum, el_fail, el_next, el_stop] <;> rfl)
theorem ok149_0 {ce : CallE} : LoopOK c149 ce [] 149 0 (sub [1, 1, 1, 0, 1, 0, 0] (body Try.f149)) := by
  intro m hm st k r h
  obtain rfl : l149_0 = m := Option.some.inj hm
  unfold l149_0 at h
  split at h
  · rename_i g0 g1 g2 g3 g4 g5 g6 g7 g8 t7 g9 t21 t22 t23 g10 g11 h0 g12 g13 h1 g14 g15 h2_0 g16 h2_1 g17 h2_2 g18 g19 h3 g20 g21 g22 g23 g24
    obtain ⟨hg, h⟩ := bif_some h
    simp only [Bool.and_eq_true] at hg
    obtain ⟨⟨⟨⟨⟨⟨⟨⟨⟨⟨⟨⟨⟨⟨⟨⟨⟨⟨⟨⟨⟨⟨⟨⟨q0, q1⟩, q2⟩, q3⟩, q4⟩, q5⟩, q6⟩, q7⟩, q8⟩, q9⟩, q10⟩, q11⟩, q12⟩, q13⟩, q14⟩, q15⟩, q16⟩, q17⟩, q18⟩, q19⟩, q20⟩, q21⟩, q22⟩, q23⟩, q24⟩ := hg
    obtain rfl := (nmEq_iff _ _).1 q0
    obtain rfl := Nat.eq_of_beq_eq_true q1
    obtain rfl := Nat.eq_of_beq_eq_true q2
    obtain rfl := (nmEq_iff _ _).1 q3
    obtain rfl := Nat.eq_of_beq_eq_true q4
    obtain rfl := Nat.eq_of_beq_eq_true q5
    obtain rfl := (nmEq_iff _ _).1 q6
    obtain rfl := Nat.eq_of_beq_eq_true q7
    obtain rfl := Nat.eq_of_beq_eq_true q8
    obtain rfl := ctsEq_eq _ _ q9
    obtain rfl := (nmEq_iff _ _).1 q10
    obtain rfl := ctsEq_eq _ _ q11
    obtain rfl := (nmEq_iff _ _).1 q12
    obtain rfl := ctsEq_eq _ _ q13
    obtain rfl := (nmEq_iff _ _).1 q14
    obtain rfl := ctsEq_eq _ _ q15
    obtain rfl := ctsEq_eq _ _ q16
    obtain rfl := ctsEq_eq _ _ q17
    obtain rfl := (nmEq_iff _ _).1 q18
    obtain rfl := ctsEq_eq _ _ q19
    obtain rfl := (nmEq_iff _ _).1 q20
    obtain rfl := (nmEq_iff _ _).1 q21
    obtain rfl := (nmEq_iff _ _).1 q22
    obtain rfl := (nmEq_iff _ _).1 q23
    obtain rfl := (nmEq_iff _ _).1 q24
    refine ⟨((t22 - t23).toNat + 1), ?_⟩
    rw [← h]
    exact loop_run (fun s : Int × (List AV) × (List AV) => ⟨[(2, AV.ptr [0, 2] 0 0), (4, AV.ptr [0, 4] 0 0), (6, AV.ptr [0, 6] 0 0), (7, AV.int .i64 t7), (21, AV.sl [.int .i64, .int .i64] t21), (22, AV.int .i64 t22), (23, AV.int .i64 s.1)], [([0, 0, 6], ⟨false, [.int .i64], s.2.1⟩), ([0, 1, 6], ⟨false, [.int .i64], s.2.2⟩), ([0, 2], ⟨true, [], [AV.agg [AV.sl [.int .i64] h2_0, AV.sl [.int .i64] h2_1, AV.sl [.int .i64, .int .i64] h2_2]]⟩), ([0, 2, 6], ⟨false, [.int .i64, .int .i64], h3⟩), ([0, 4], ⟨true, [], [AV.agg [AV.snil, AV.snil, AV.snil]]⟩), ([0, 6], ⟨true, [], [AV.agg [AV.own [0, 0, 6], AV.own [0, 1, 6], AV.own [0, 2, 6]]]⟩)]⟩) (sumE (fun p : (List AV) × (List AV) => k (.exit 0) ⟨[(4, AV.ptr [0, 4] 0 0), (6, AV.ptr [0, 6] 0 0)], [([0, 0, 6], ⟨false, [.int .i64], p.1⟩), ([0, 1, 6], ⟨false, [.int .i64], p.2⟩), ([0, 2], ⟨true, [], [AV.agg [AV.sl [.int .i64] h2_0, AV.sl [.int .i64] h2_1, AV.sl [.int .i64, .int .i64] h2_2]]⟩), ([0, 2, 6], ⟨false, [.int .i64, .int .i64], h3⟩), ([0, 4], ⟨true, [], [AV.agg [AV.snil, AV.snil, AV.snil]]⟩), ([0, 6], ⟨true, [], [AV.agg [AV.own [0, 0, 6], AV.own [0, 1, 6], AV.own [0, 2, 6]]]⟩)]⟩) (fun p : (List AV) × (List AV) × (List AV) × (List AV) × Int × Int × (List AV) => k .ret ⟨[(4, AV.ptr [0, 4] 0 0), (5, AV.bool false)], [([0, 0, 6], ⟨false, [.int .i64], p.1⟩), ([0, 1, 6], ⟨false, [.int .i64], p.2.1⟩), ([0, 1, 48], ⟨false, [.int .i64], p.2.2.1⟩), ([0, 2], ⟨true, [], [AV.agg [AV.sl [.int .i64] h2_0, AV.sl [.int .i64] h2_1, AV.sl [.int .i64, .int .i64] h2_2]]⟩), ([0, 2, 6], ⟨false, [.int .i64, .int .i64], h3⟩), ([0, 4], ⟨true, [], [AV.agg [AV.own [0, 1, 48], AV.own [1, 1, 48], AV.own [2, 1, 48]]]⟩), ([0, 6], ⟨true, [], [AV.agg [AV.own [0, 0, 6], AV.own [0, 1, 6], AV.own [0, 2, 6]]]⟩), ([1, 1, 48], ⟨false, [.int .i64], p.2.2.2.1⟩), ([1, 9], ⟨true, [], [AV.agg [AV.int .i64 p.2.2.2.2.1, AV.int .i64 p.2.2.2.2.2.1]]⟩), ([2, 1, 48], ⟨false, [.int .i64, .int .i64], p.2.2.2.2.2.2⟩)]⟩)) (st149_0 t7 t21 t22 h2_0 h2_1 h2_2 h3 ce k) _ (t23, h0, h1)
  · cases h
def q149 (a0_0 : List AV) (a0_1 : List AV) (a0_2 : List AV) (a1 : List AV) : Bool := (q129 a0_0 a0_1 a0_2 && (bif !decide ((a0_1.length : Int) = (a0_0.length : Int)) then true else (ro (runW (R149_0 (a0_0.length : Int) a1 (a1.length : Int) a0_0 a0_1 a0_2 (v129_2 a0_0 a0_1 a0_2)) (((a1.length : Int) - 0).toNat + 1) (0, (v129_0 a0_0 a0_1 a0_2), (v129_1 a0_0 a0_1 a0_2))) false (sumE (fun p38 => true) (fun p39 => true)))))
def v149_0 (a0_0 : List AV) (a0_1 : List AV) (a0_2 : List AV) (a1 : List AV) : List AV := (bif !decide ((a0_1.length : Int) = (a0_0.length : Int)) then (v129_0 a0_0 a0_1 a0_2) else (ro (runW (R149_0 (a0_0.length : Int) a1 (a1.length : Int) a0_0 a0_1 a0_2 (v129_2 a0_0 a0_1 a0_2)) (((a1.length : Int) - 0).toNat + 1) (0, (v129_0 a0_0 a0_1 a0_2), (v129_1 a0_0 a0_1 a0_2))) [] (sumE (fun p38 => p38.1) (fun p39 => p39.2.2.1))))
def v149_1 (a0_0 : List AV) (a0_1 : List AV) (a0_2 : List AV) (a1 : List AV) : List AV := (bif !decide ((a0_1.length : Int) = (a0_0.length : Int)) then (v129_1 a0_0 a0_1 a0_2) else (ro (runW (R149_0 (a0_0.length : Int) a1 (a1.length : Int) a0_0 a0_1 a0_2 (v129_2 a0_0 a0_1 a0_2)) (((a1.length : Int) - 0).toNat + 1) (0, (v129_0 a0_0 a0_1 a0_2), (v129_1 a0_0 a0_1 a0_2))) [] (sumE (fun p38 => p38.2) (fun p39 => p39.2.2.2.1))))
def v149_2 (a0_0 : List AV) (a0_1 : List AV) (a0_2 : List AV) (a1 : List AV) : List AV := (bif !decide ((a0_1.length : Int) = (a0_0.length : Int)) then (v129_2 a0_0 a0_1 a0_2) else (ro (runW (R149_0 (a0_0.length : Int) a1 (a1.length : Int) a0_0 a0_1 a0_2 (v129_2 a0_0 a0_1 a0_2)) (((a1.length : Int) - 0).toNat + 1) (0, (v129_0 a0_0 a0_1 a0_2), (v129_1 a0_0 a0_1 a0_2))) [] (sumE (fun p38 => (v129_2 a0_0 a0_1 a0_2)) (fun p39 => p39.2.2.2.2.2.2))))
def v149_3 (a0_0 : List AV) (a0_1 : List AV) (a0_2 : List AV) (a1 : List AV) : Bool := (bif !decide ((a0_1.length : Int) = (a0_0.length : Int)) then false else (ro (runW (R149_0 (a0_0.length : Int) a1 (a1.length : Int) a0_0 a0_1 a0_2 (v129_2 a0_0 a0_1 a0_2)) (((a1.length : Int) - 0).toNat + 1) (0, (v129_0 a0_0 a0_1 a0_2), (v129_1 a0_0 a0_1 a0_2))) false (sumE (fun p38 => true) (fun p39 => false))))
theorem e149 (a0_0 : List AV) (a0_1 : List AV) (a0_2 : List AV) (a1 : List AV) : funA c149 0 149 [AV.agg [AV.sl [.int .i64] a0_0, AV.sl [.int .i64] a0_1, AV.sl [.int .i64, .int .i64] a0_2], AV.sl [.int .i64, .int .i64] a1] = (bif q129 a0_0 a0_1 a0_2 then (bif !decide ((a0_1.length : Int) = (a0_0.length : Int)) then some (AV.tup [AV.agg [AV.fl [.int .i64] (v129_0 a0_0 a0_1 a0_2), AV.fl [.int .i64] (v129_1 a0_0 a0_1 a0_2), AV.fl [.int .i64, .int .i64] (v129_2 a0_0 a0_1 a0_2)], AV.bool false])
   else (ro (runW (R149_0 (a0_0.length : Int) a1 (a1.length : Int) a0_0 a0_1 a0_2 (v129_2 a0_0 a0_1 a0_2)) (((a1.length : Int) - 0).toNat + 1) (0, (v129_0 a0_0 a0_1 a0_2), (v129_1 a0_0 a0_1 a0_2))) none (sumE (fun p38 => some (AV.tup [AV.agg [AV.fl [.int .i64] p38.1, AV.fl [.int .i64] p38.2, AV.fl [.int .i64, .int .i64] (v129_2 a0_0 a0_1 a0_2)], AV.bool true])) (fun p39 => some (AV.tup [AV.agg [AV.fl [.int .i64] p39.2.2.1, AV.fl [.int .i64] p39.2.2.2.1, AV.fl [.int .i64, .int .i64] p39.2.2.2.2.2.2], AV.bool false])))))
  else none) := by kernel_rfl
theorem r149 (a0_0 : List AV) (a0_1 : List AV) (a0_2 : List AV) (a1 : List AV) (h : q149 a0_0 a0_1 a0_2 a1 = true) : funA c149 0 149 [AV.agg [AV.sl [.int .i64] a0_0, AV.sl [.int .i64] a0_1, AV.sl [.int .i64, .int .i64] a0_2], AV.sl [.int .i64, .int .i64] a1] = some (AV.tup [AV.agg [AV.fl [.int .i64] (v149_0 a0_0 a0_1 a0_2 a1), AV.fl [.int .i64] (v149_1 a0_0 a0_1 a0_2 a1), AV.fl [.int .i64, .int .i64] (v149_2 a0_0 a0_1 a0_2 a1)], AV.bool (v149_3 a0_0 a0_1 a0_2 a1)]) := (e149 a0_0 a0_1 a0_2 a1).trans ((brL (br (fun b => some (AV.tup [AV.agg [AV.fl [.int .i64] (bif b then (v129_0 a0_0 a0_1 a0_2) else (ro (runW (R149_0 (a0_0.length : Int) a1 (a1.length : Int) a0_0 a0_1 a0_2 (v129_2 a0_0 a0_1 a0_2)) (((a1.length : Int) - 0).toNat + 1) (0, (v129_0 a0_0 a0_1 a0_2), (v129_1 a0_0 a0_1 a0_2))) [] (sumE (fun p38 => p38.1) (fun p39 => p39.2.2.1)))), AV.fl [.int .i64] (bif b then (v129_1 a0_0 a0_1 a0_2) else (ro (runW (R149_0 (a0_0.length : Int) a1 (a1.length : Int) a0_0 a0_1 a0_2 (v129_2 a0_0 a0_1 a0_2)) (((a1.length : Int) - 0).toNat + 1) (0, (v129_0 a0_0 a0_1 a0_2), (v129_1 a0_0 a0_1 a0_2))) [] (sumE (fun p38 => p38.2) (fun p39 => p39.2.2.2.1)))), AV.fl [.int .i64, .int .i64] (bif b then (v129_2 a0_0 a0_1 a0_2) else (ro (runW (R149_0 (a0_0.length : Int) a1 (a1.length : Int) a0_0 a0_1 a0_2 (v129_2 a0_0 a0_1 a0_2)) (((a1.length : Int) - 0).toNat + 1) (0, (v129_0 a0_0 a0_1 a0_2), (v129_1 a0_0 a0_1 a0_2))) [] (sumE (fun p38 => (v129_2 a0_0 a0_1 a0_2)) (fun p39 => p39.2.2.2.2.2.2))))], AV.bool (bif b then false else (ro (runW (R149_0 (a0_0.length : Int) a1 (a1.length : Int) a0_0 a0_1 a0_2 (v129_2 a0_0 a0_1 a0_2)) (((a1.length : Int) - 0).toNat + 1) (0, (v129_0 a0_0 a0_1 a0_2), (v129_1 a0_0 a0_1 a0_2))) false (sumE (fun p38 => true) (fun p39 => false))))])) (fun _ => rfl) (brO (fun o : Option (((List AV) × (List AV)) ⊕ ((List AV) × (List AV) × (List AV) × (List AV) × Int × Int × (List AV))) => some (AV.tup [AV.agg [AV.fl [.int .i64] (ro o [] (sumE (fun p38 => p38.1) (fun p39 => p39.2.2.1))), AV.fl [.int .i64] (ro o [] (sumE (fun p38 => p38.2) (fun p39 => p39.2.2.2.1))), AV.fl [.int .i64, .int .i64] (ro o [] (sumE (fun p38 => (v129_2 a0_0 a0_1 a0_2)) (fun p39 => p39.2.2.2.2.2.2)))], AV.bool (ro o false (sumE (fun p38 => true) (fun p39 => false)))])) (brS (fun o : ((List AV) × (List AV)) ⊕ ((List AV) × (List AV) × (List AV) × (List AV) × Int × Int × (List AV)) => some (AV.tup [AV.agg [AV.fl [.int .i64] ((sumE (fun p38 => p38.1) (fun p39 => p39.2.2.1)) o), AV.fl [.int .i64] ((sumE (fun p38 => p38.2) (fun p39 => p39.2.2.2.1)) o), AV.fl [.int .i64, .int .i64] ((sumE (fun p38 => (v129_2 a0_0 a0_1 a0_2)) (fun p39 => p39.2.2.2.2.2.2)) o)], AV.bool ((sumE (fun p38 => true) (fun p39 => false)) o)])) (fun p38 => (fun _ => rfl)) (fun p39 => (fun _ => rfl)))))) h)
def m149 : TModel
  | [.agg [.sl g0 a0_0, .sl g1 a0_1, .sl g2 a0_2], .sl g3 a1] => bif ctsEq g0 ([.int .i64]) && ctsEq g1 ([.int .i64]) && ctsEq g2 ([.int .i64, .int .i64]) && ctsEq g3 ([.int .i64, .int .i64]) then some (q149 a0_0 a0_1 a0_2 a1, AV.tup [AV.agg [AV.fl [.int .i64] (v149_0 a0_0 a0_1 a0_2 a1), AV.fl [.int .i64] (v149_1 a0_0 a0_1 a0_2 a1), AV.fl [.int .i64, .int .i64] (v149_2 a0_0 a0_1 a0_2 a1)], AV.bool (v149_3 a0_0 a0_1 a0_2 a1)]) else none
  | _ => none
theorem k149 : Known Try.prog 149 := ⟨Try.f149, Try.func149, by kernel_rfl, by kernel_rfl⟩
theorem meets149 : Meets Try.prog 149 m149 := by
  refine meet (f := Try.f149) (l := [(0, sub [1, 1, 1, 0, 1, 0, 0] (body Try.f149))]) (hs := [(149, 0, [2, 4, 6, 7, 21, 22, 23]), (149, 999, [4, 5]), (149, 1000, [4, 6]), (149, 1001, [2, 4, 6, 7, 21, 22, 23])]) (ts := [(129, m129)]) (ws := []) (is := []) (ls := [(149, 0, l149_0)]) (lvl := 0) mixed k149 Try.func149 (by kernel_rfl) (loops_cons ok149_0 noLoop) (allT_cons meets129 allT_nil) allM_nil noI fun w xs us r hl hv h => ?_
  unfold m149 at h
  split at h
  · rename_i g0 a0_0 g1 a0_1 g2 a0_2 g3 a1
    obtain ⟨hg, h⟩ := bif_pair h
    simp only [Bool.and_eq_true] at hg
    obtain ⟨⟨⟨q0, q1⟩, q2⟩, q3⟩ := hg
    obtain rfl := ctsEq_eq _ _ q0
    obtain rfl := ctsEq_eq _ _ q1
    obtain rfl := ctsEq_eq _ _ q2
    obtain rfl := ctsEq_eq _ _ q3
    obtain ⟨h1, rfl⟩ := pair_inj h
    exact r149 a0_0 a0_1 a0_2 a1 h1
  · cases h

/-! ### 173 loop.example/g01984/impl.withPivot$1 -/
noncomputable def c173 : Cfg := cfg Try.prog [(173, 999, [3])] [] [] [] []
def q173 (a0_0 : Int) (a0_1 : Int) (a1 : AV) : Bool := true
def v173_0 (a0_0 : Int) (a0_1 : Int) (a1 : AV) : Bool := decide (a0_0 > fI a1 0)
theorem e173 (a0_0 : Int) (a0_1 : Int) (a1 : AV) : funA c173 0 173 [AV.agg [AV.int .i64 a0_0, AV.int .i64 a0_1], AV.rptr [.int .i64, .int .i64] a1 0] = some (AV.bool (decide (a0_0 > fI a1 0))) := by kernel_rfl
theorem r173 (a0_0 : Int) (a0_1 : Int) (a1 : AV) : funA c173 0 173 [AV.agg [AV.int .i64 a0_0, AV.int .i64 a0_1], AV.rptr [.int .i64, .int .i64] a1 0] = some (AV.bool (v173_0 a0_0 a0_1 a1)) := (e173 a0_0 a0_1 a1).trans (of_tt (fun _ => rfl))
def m173 : TModel
  | [.agg [.int .i64 a0_0, .int .i64 a0_1], .rptr g0 a1 g1] => bif ctsEq g0 ([.int .i64, .int .i64]) && Nat.beq g1 0 then some (true, AV.bool (v173_0 a0_0 a0_1 a1)) else none
  | _ => none
theorem k173 : Known Try.prog 173 := ⟨Try.f173, Try.func173, by kernel_rfl, by kernel_rfl⟩
theorem meets173 : Meets Try.prog 173 m173 := by
  refine meet (f := Try.f173) (l := []) (hs := [(173, 999, [3])]) (ts := []) (ws := []) (is := []) (ls := []) (lvl := 0) mixed k173 Try.func173 (by kernel_rfl) noLoop allT_nil allM_nil noI fun w xs us r hl hv h => ?_
  unfold m173 at h
  split at h
  · rename_i a0_0 a0_1 g0 a1 g1
    obtain ⟨hg, h⟩ := bif_pair h
    simp only [Bool.and_eq_true] at hg
    obtain ⟨q0, q1⟩ := hg
    obtain rfl := ctsEq_eq _ _ q0
    obtain rfl := Nat.eq_of_beq_eq_true q1
    obtain ⟨h1, rfl⟩ := pair_inj h
    exact r173 a0_0 a0_1 a1
  · cases h

/-! ### 172 slices.IndexFunc[[]loop.example/g01984/impl.Pivot,loop.example/g01984/impl.Pivot] -/
def F172_0 (t0 : List AV) (t1 : AV) (t7 : Int) (t8 : Int) : Out (Int) (Unit ⊕ Int) := (bif decide (t8 < t7) then (bif (decide (0 ≤ t8) && decide (t8 < (t0.length : Int))) then (bif (v173_0 (fI (t0.getD t8.toNat AV.undef) 0) (fI (t0.getD t8.toNat AV.undef) 1) t1) then .stop (.inr t8)
    else .next (IntKind.i64.wrap (t8 + 1)))
   else .fail)
  else .stop (.inl ()))
def R172_0 (t0 : List AV) (t1 : AV) (t7 : Int) : (Int) → Out (Int) (Unit ⊕ Int) := fun s : Int => F172_0 t0 t1 t7 s
def l172_0 : LModel := fun _ _ st k => match st with
  | ⟨[(0, .sl g0 t0), (1, .fn g1 [.rptr g2 t1 g3]), (7, .int .i64 t7), (8, .int .i64 t8)], []⟩ => bif ctsEq g0 ([.int .i64, .int .i64]) && Nat.beq g1 173 && ctsEq g2 ([.int .i64, .int .i64]) && Nat.beq g3 0 then ro (runW (R172_0 t0 t1 t7) ((t7 - t8).toNat + 1) t8) none (sumE (fun _ : Unit => k (.exit 0) ⟨[], []⟩) (fun p : Int => k .ret ⟨[(4, AV.int .i64 p)], []⟩)) else none
  | _ => none
noncomputable def c172 : Cfg := cfg Try.prog [(172, 0, [0, 1, 7, 8]), (172, 999, [4]), (172, 1000, []), (172, 1001, [0, 1, 7, 8])] [(173, m173)] [] [] [(172, 0, l172_0)]
theorem s172_0 (ce : CallE) (t0 : List AV) (t1 : AV) (t7 : Int) (t8 : Int) (next : St → Option AV) (k : Kont) : stepA (codeA c172 ce [] 172 0 (sub [1, 0, 1, 0, 0] (body Try.f172))) (normA [] [0, 1, 7, 8]) next ⟨[(0, AV.sl [.int .i64, .int .i64] t0), (1, AV.fn 173 [AV.rptr [.int .i64, .int .i64] t1 0]), (7, AV.int .i64 t7), (8, AV.int .i64 t8)], []⟩ k = (bif decide (t8 < t7) then (bif (decide (0 ≤ t8) && decide (t8 < (t0.length : Int))) then (bif (v173_0 (fI (t0.getD t8.toNat AV.undef) 0) (fI (t0.getD t8.toNat AV.undef) 1) t1) then k .ret ⟨[(4, AV.int .i64 t8)], []⟩
    else next ⟨[(0, AV.sl [.int .i64, .int .i64] t0), (1, AV.fn 173 [AV.rptr [.int .i64, .int .i64] t1 0]), (7, AV.int .i64 t7), (8, AV.int .i64 (IntKind.i64.wrap (t8 + 1)))], []⟩)
   else none)
  else k (.exit 0) ⟨[], []⟩) := by kernel_rfl
theorem st172_0 (t0 : List AV) (t1 : AV) (t7 : Int) (ce : CallE) (k : Kont) (s : Int) (next : St → Option AV) : stepA (codeA c172 ce [] 172 0 (sub [1, 0, 1, 0, 0] (body Try.f172))) (normA [] [0, 1, 7, 8]) next ((fun s : Int => ⟨[(0, AV.sl [.int .i64, .int .i64] t0), (1, AV.fn 173 [AV.rptr [.int .i64, .int .i64] t1 0]), (7, AV.int .i64 t7), (8, AV.int .i64 s)], []⟩) s) k = (R172_0 t0 t1 t7 s).el none (fun s => next ((fun s : Int => ⟨[(0, AV.sl [.int .i64, .int .i64] t0), (1, AV.fn 173 [AV.rptr [.int .i64, .int .i64] t1 0]), (7, AV.int .i64 t7), (8, AV.int .i64 s)], []⟩) s)) (sumE (fun _ : Unit => k (.exit 0) ⟨[], []⟩) (fun p : Int => k .ret ⟨[(4, AV.int .i64 p)], []⟩)) := (s172_0 ce t0 t1 t7 s next k).trans (by unfold R172_0; unfold F172_0; simp only [el_cond, el_ro, el_sum, el_fail, el_next, el_stop] <;> rfl)
theorem ok172_0 {ce : CallE} : LoopOK c172 ce [] 172 0 (sub [1, 0, 1, 0, 0] (body Try.f172)) := by
  intro m hm st k r h
  obtain rfl : l172_0 = m := Option.some.inj hm
  unfold l172_0 at h
  split at h
  · rename_i g0 t0 g1 g2 t1 g3 t7 t8
    obtain ⟨hg, h⟩ := bif_some h
    simp only [Bool.and_eq_true] at hg
    obtain ⟨⟨⟨q0, q1⟩, q2⟩, q3⟩ := hg
    obtain rfl := ctsEq_eq _ _ q0
    obtain rfl := Nat.eq_of_beq_eq_true q1
    obtain rfl := ctsEq_eq _ _ q2
    obtain rfl := Nat.eq_of_beq_eq_true q3
    refine ⟨((t7 - t8).toNat + 1), ?_⟩
    rw [← h]
    exact loop_run (fun s : Int => ⟨[(0, AV.sl [.int .i64, .int .i64] t0), (1, AV.fn 173 [AV.rptr [.int .i64, .int .i64] t1 0]), (7, AV.int .i64 t7), (8, AV.int .i64 s)], []⟩) (sumE (fun _ : Unit => k (.exit 0) ⟨[], []⟩) (fun p : Int => k .ret ⟨[(4, AV.int .i64 p)], []⟩)) (st172_0 t0 t1 t7 ce k) _ t8
  · cases h
def q172 (a0 : List AV) (a1 : AV) : Bool := (ro (runW (R172_0 a0 a1 (a0.length : Int)) (((a0.length : Int) - 0).toNat + 1) 0) false (sumE (fun _ => true) (fun p41 => true)))
def v172_0 (a0 : List AV) (a1 : AV) : Int := (ro (runW (R172_0 a0 a1 (a0.length : Int)) (((a0.length : Int) - 0).toNat + 1) 0) 0 (sumE (fun _ => (-1)) (fun p41 => p41)))
theorem e172 (a0 : List AV) (a1 : AV) : funA c172 0 172 [AV.sl [.int .i64, .int .i64] a0, AV.fn 173 [AV.rptr [.int .i64, .int .i64] a1 0]] = (ro (runW (R172_0 a0 a1 (a0.length : Int)) (((a0.length : Int) - 0).toNat + 1) 0) none (sumE (fun _ => some (AV.int .i64 (-1))) (fun p41 => some (AV.int .i64 p41)))) := by kernel_rfl
theorem r172 (a0 : List AV) (a1 : AV) (h : q172 a0 a1 = true) : funA c172 0 172 [AV.sl [.int .i64, .int .i64] a0, AV.fn 173 [AV.rptr [.int .i64, .int .i64] a1 0]] = some (AV.int .i64 (v172_0 a0 a1)) := (e172 a0 a1).trans ((brO (fun o : Option (Unit ⊕ Int) => some (AV.int .i64 (ro o 0 (sumE (fun _ => (-1)) (fun p41 => p41))))) (brS (fun o : Unit ⊕ Int => some (AV.int .i64 ((sumE (fun _ => (-1)) (fun p41 => p41)) o))) (fun _ => (fun _ => rfl)) (fun p41 => (fun _ => rfl)))) h)
def m172 : TModel
  | [.sl g0 a0, .fn g1 [.rptr g2 a1 g3]] => bif ctsEq g0 ([.int .i64, .int .i64]) && Nat.beq g1 173 && ctsEq g2 ([.int .i64, .int .i64]) && Nat.beq g3 0 then some (q172 a0 a1, AV.int .i64 (v172_0 a0 a1)) else none
  | _ => none
theorem k172 : Known Try.prog 172 := ⟨Try.f172, Try.func172, by kernel_rfl, by kernel_rfl⟩
theorem meets172 : Meets Try.prog 172 m172 := by
  refine meet (f := Try.f172) (l := [(0, sub [1, 0, 1, 0, 0] (body Try.f172))]) (hs := [(172, 0, [0, 1, 7, 8]), (172, 999, [4]), (172, 1000, []), (172, 1001, [0, 1, 7, 8])]) (ts := [(173, m173)]) (ws := []) (is := []) (ls := [(172, 0, l172_0)]) (lvl := 0) mixed k172 Try.func172 (by kernel_rfl) (loops_cons ok172_0 noLoop) (allT_cons meets173 allT_nil) allM_nil noI fun w xs us r hl hv h => ?_
  unfold m172 at h
  split at h
  · rename_i g0 a0 g1 g2 a1 g3
    obtain ⟨hg, h⟩ := bif_pair h
    simp only [Bool.and_eq_true] at hg
    obtain ⟨⟨⟨q0, q1⟩, q2⟩, q3⟩ := hg
    obtain rfl := ctsEq_eq _ _ q0
    obtain rfl := Nat.eq_of_beq_eq_true q1
    obtain rfl := ctsEq_eq _ _ q2
    obtain rfl := Nat.eq_of_beq_eq_true q3
    obtain ⟨h1, rfl⟩ := pair_inj h
    exact r172 a0 a1 h1
  · cases h

/-! ### 150 loop.example/g01984/impl.withPivot -/
noncomputable def c150 : Cfg := cfg Try.prog [(150, 999, [4]), (174, 999, [6])] [(129, m129), (172, m172)] [] [174] [] [(174, insA Try.prog 32)]
def q150 (a0_0 : List AV) (a0_1 : List AV) (a0_2 : List AV) (a1_0 : Int) (a1_1 : Int) : Bool := (q129 a0_0 a0_1 a0_2 && (q172 (v129_2 a0_0 a0_1 a0_2) (AV.agg [AV.int .i64 a1_0, AV.int .i64 a1_1]) && (bif decide ((v172_0 (v129_2 a0_0 a0_1 a0_2) (AV.agg [AV.int .i64 a1_0, AV.int .i64 a1_1])) < 0) then (decide (0 ≤ ((v129_2 a0_0 a0_1 a0_2).length : Int)) && decide (((v129_2 a0_0 a0_1 a0_2).length : Int) ≤ ((v129_2 a0_0 a0_1 a0_2).length : Int)) && decide (((v129_2 a0_0 a0_1 a0_2).length + 1) * 16 ≤ 140737488355328)) else (decide (0 ≤ (v172_0 (v129_2 a0_0 a0_1 a0_2) (AV.agg [AV.int .i64 a1_0, AV.int .i64 a1_1]))) && decide ((v172_0 (v129_2 a0_0 a0_1 a0_2) (AV.agg [AV.int .i64 a1_0, AV.int .i64 a1_1])) ≤ ((v129_2 a0_0 a0_1 a0_2).length : Int)) && decide (((v129_2 a0_0 a0_1 a0_2).length + 1) * 16 ≤ 140737488355328)))))
def v150_0 (a0_0 : List AV) (a0_1 : List AV) (a0_2 : List AV) (a1_0 : Int) (a1_1 : Int) : List AV := (v129_0 a0_0 a0_1 a0_2)
def v150_1 (a0_0 : List AV) (a0_1 : List AV) (a0_2 : List AV) (a1_0 : Int) (a1_1 : Int) : List AV := (v129_1 a0_0 a0_1 a0_2)
def v150_2 (a0_0 : List AV) (a0_1 : List AV) (a0_2 : List AV) (a1_0 : Int) (a1_1 : Int) : List AV := (bif decide ((v172_0 (v129_2 a0_0 a0_1 a0_2) (AV.agg [AV.int .i64 a1_0, AV.int .i64 a1_1])) < 0) then (v129_2 a0_0 a0_1 a0_2).take (Int.toNat ((v129_2 a0_0 a0_1 a0_2).length : Int)) ++ ([AV.agg [AV.int .i64 a1_0, AV.int .i64 a1_1]]) ++ (v129_2 a0_0 a0_1 a0_2).drop (Int.toNat ((v129_2 a0_0 a0_1 a0_2).length : Int)) else (v129_2 a0_0 a0_1 a0_2).take (Int.toNat (v172_0 (v129_2 a0_0 a0_1 a0_2) (AV.agg [AV.int .i64 a1_0, AV.int .i64 a1_1]))) ++ ([AV.agg [AV.int .i64 a1_0, AV.int .i64 a1_1]]) ++ (v129_2 a0_0 a0_1 a0_2).drop (Int.toNat (v172_0 (v129_2 a0_0 a0_1 a0_2) (AV.agg [AV.int .i64 a1_0, AV.int .i64 a1_1]))))
theorem e150 (a0_0 : List AV) (a0_1 : List AV) (a0_2 : List AV) (a1_0 : Int) (a1_1 : Int) : funA c150 1 150 [AV.agg [AV.sl [.int .i64] a0_0, AV.sl [.int .i64] a0_1, AV.sl [.int .i64, .int .i64] a0_2], AV.agg [AV.int .i64 a1_0, AV.int .i64 a1_1]] = (bif q129 a0_0 a0_1 a0_2 then (bif q172 (v129_2 a0_0 a0_1 a0_2) (AV.agg [AV.int .i64 a1_0, AV.int .i64 a1_1]) then (bif decide ((v172_0 (v129_2 a0_0 a0_1 a0_2) (AV.agg [AV.int .i64 a1_0, AV.int .i64 a1_1])) < 0) then (bif (decide (0 ≤ ((v129_2 a0_0 a0_1 a0_2).length : Int)) && decide (((v129_2 a0_0 a0_1 a0_2).length : Int) ≤ ((v129_2 a0_0 a0_1 a0_2).length : Int)) && decide (((v129_2 a0_0 a0_1 a0_2).length + 1) * 16 ≤ 140737488355328)) then some (AV.agg [AV.fl [.int .i64] (v129_0 a0_0 a0_1 a0_2), AV.fl [.int .i64] (v129_1 a0_0 a0_1 a0_2), AV.fl [.int .i64, .int .i64] ((v129_2 a0_0 a0_1 a0_2).take (Int.toNat ((v129_2 a0_0 a0_1 a0_2).length : Int)) ++ ([AV.agg [AV.int .i64 a1_0, AV.int .i64 a1_1]]) ++ (v129_2 a0_0 a0_1 a0_2).drop (Int.toNat ((v129_2 a0_0 a0_1 a0_2).length : Int)))])
     else none)
    else (bif (decide (0 ≤ (v172_0 (v129_2 a0_0 a0_1 a0_2) (AV.agg [AV.int .i64 a1_0, AV.int .i64 a1_1]))) && decide ((v172_0 (v129_2 a0_0 a0_1 a0_2) (AV.agg [AV.int .i64 a1_0, AV.int .i64 a1_1])) ≤ ((v129_2 a0_0 a0_1 a0_2).length : Int)) && decide (((v129_2 a0_0 a0_1 a0_2).length + 1) * 16 ≤ 140737488355328)) then some (AV.agg [AV.fl [.int .i64] (v129_0 a0_0 a0_1 a0_2), AV.fl [.int .i64] (v129_1 a0_0 a0_1 a0_2), AV.fl [.int .i64, .int .i64] ((v129_2 a0_0 a0_1 a0_2).take (Int.toNat (v172_0 (v129_2 a0_0 a0_1 a0_2) (AV.agg [AV.int .i64 a1_0, AV.int .i64 a1_1]))) ++ ([AV.agg [AV.int .i64 a1_0, AV.int .i64 a1_1]]) ++ (v129_2 a0_0 a0_1 a0_2).drop (Int.toNat (v172_0 (v129_2 a0_0 a0_1 a0_2) (AV.agg [AV.int .i64 a1_0, AV.int .i64 a1_1]))))])
     else none))
   else none)
  else none) := by kernel_rfl
theorem r150 (a0_0 : List AV) (a0_1 : List AV) (a0_2 : List AV) (a1_0 : Int) (a1_1 : Int) (h : q150 a0_0 a0_1 a0_2 a1_0 a1_1 = true) : funA c150 1 150 [AV.agg [AV.sl [.int .i64] a0_0, AV.sl [.int .i64] a0_1, AV.sl [.int .i64, .int .i64] a0_2], AV.agg [AV.int .i64 a1_0, AV.int .i64 a1_1]] = some (AV.agg [AV.fl [.int .i64] (v150_0 a0_0 a0_1 a0_2 a1_0 a1_1), AV.fl [.int .i64] (v150_1 a0_0 a0_1 a0_2 a1_0 a1_1), AV.fl [.int .i64, .int .i64] (v150_2 a0_0 a0_1 a0_2 a1_0 a1_1)]) := (e150 a0_0 a0_1 a0_2 a1_0 a1_1).trans ((brL (brL (br (fun b => some (AV.agg [AV.fl [.int .i64] (v129_0 a0_0 a0_1 a0_2), AV.fl [.int .i64] (v129_1 a0_0 a0_1 a0_2), AV.fl [.int .i64, .int .i64] (bif b then (v129_2 a0_0 a0_1 a0_2).take (Int.toNat ((v129_2 a0_0 a0_1 a0_2).length : Int)) ++ ([AV.agg [AV.int .i64 a1_0, AV.int .i64 a1_1]]) ++ (v129_2 a0_0 a0_1 a0_2).drop (Int.toNat ((v129_2 a0_0 a0_1 a0_2).length : Int)) else (v129_2 a0_0 a0_1 a0_2).take (Int.toNat (v172_0 (v129_2 a0_0 a0_1 a0_2) (AV.agg [AV.int .i64 a1_0, AV.int .i64 a1_1]))) ++ ([AV.agg [AV.int .i64 a1_0, AV.int .i64 a1_1]]) ++ (v129_2 a0_0 a0_1 a0_2).drop (Int.toNat (v172_0 (v129_2 a0_0 a0_1 a0_2) (AV.agg [AV.int .i64 a1_0, AV.int .i64 a1_1]))))])) (brL1 (fun _ => rfl)) (brL1 (fun _ => rfl))))) h)
def m150 : TModel
  | [.agg [.sl g0 a0_0, .sl g1 a0_1, .sl g2 a0_2], .agg [.int .i64 a1_0, .int .i64 a1_1]] => bif ctsEq g0 ([.int .i64]) && ctsEq g1 ([.int .i64]) && ctsEq g2 ([.int .i64, .int .i64]) then some (q150 a0_0 a0_1 a0_2 a1_0 a1_1, AV.agg [AV.fl [.int .i64] (v150_0 a0_0 a0_1 a0_2 a1_0 a1_1), AV.fl [.int .i64] (v150_1 a0_0 a0_1 a0_2 a1_0 a1_1), AV.fl [.int .i64, .int .i64] (v150_2 a0_0 a0_1 a0_2 a1_0 a1_1)]) else none
  | _ => none
theorem k150 : Known Try.prog 150 := ⟨Try.f150, Try.func150, by kernel_rfl, by kernel_rfl⟩
theorem i150_174 : InlK Try.prog [(150, 999, [4]), (174, 999, [6])] [(129, m129), (172, m172)] [] [174] [] 174 [(174, insA Try.prog 32)] := ⟨⟨Try.f174, Try.func174, by kernel_rfl, by kernel_rfl⟩, Try.f174, [], Try.func174, by kernel_rfl, fun _ _ => noLoop⟩
theorem meets150 : Meets Try.prog 150 m150 := by
  refine meet (f := Try.f150) (l := []) (hs := [(150, 999, [4]), (174, 999, [6])]) (ts := [(129, m129), (172, m172)]) (ws := []) (is := [174]) (ls := []) (sp := [(174, insA Try.prog 32)]) (hS := (allS_cons ins174 allS_nil)) (lvl := 1) mixed k150 Try.func150 (by kernel_rfl) noLoop (allT_cons meets129 (allT_cons meets172 allT_nil)) allM_nil (allI_cons i150_174 noI) fun w xs us r hl hv h => ?_
  unfold m150 at h
  split at h
  · rename_i g0 a0_0 g1 a0_1 g2 a0_2 a1_0 a1_1
    obtain ⟨hg, h⟩ := bif_pair h
    simp only [Bool.and_eq_true] at hg
    obtain ⟨⟨q0, q1⟩, q2⟩ := hg
    obtain rfl := ctsEq_eq _ _ q0
    obtain rfl := ctsEq_eq _ _ q1
    obtain rfl := ctsEq_eq _ _ q2
    obtain ⟨h1, rfl⟩ := pair_inj h
    exact r150 a0_0 a0_1 a0_2 a1_0 a1_1 h1
  · cases h

/-! ### 108 loop.example/g01984/impl.crack -/
noncomputable def c108 : Cfg := cfg Try.prog [(108, 999, [4, 5])] [(129, m129), (145, m145), (146, m146), (148, m148), (149, m149), (150, m150)] [] [] []
def q108 (a0_0 : List AV) (a0_1 : List AV) (a0_2 : List AV) (a1 : Int) : Bool := (q145 a0_0 a0_1 a0_2 a1 && (bif (v145_0 a0_0 a0_1 a0_2 a1) then q129 a0_0 a0_1 a0_2 else (q146 a0_0 a0_1 a0_2 a1 && (q148 a0_0 (v146_0 a0_0 a0_1 a0_2 a1) (v146_1 a0_0 a0_1 a0_2 a1) a1 && (q149 a0_0 a0_1 a0_2 (v148_0 a0_0 (v146_0 a0_0 a0_1 a0_2 a1) (v146_1 a0_0 a0_1 a0_2 a1) a1) && q150 (v149_0 a0_0 a0_1 a0_2 (v148_0 a0_0 (v146_0 a0_0 a0_1 a0_2 a1) (v146_1 a0_0 a0_1 a0_2 a1) a1)) (v149_1 a0_0 a0_1 a0_2 (v148_0 a0_0 (v146_0 a0_0 a0_1 a0_2 a1) (v146_1 a0_0 a0_1 a0_2 a1) a1)) (v149_2 a0_0 a0_1 a0_2 (v148_0 a0_0 (v146_0 a0_0 a0_1 a0_2 a1) (v146_1 a0_0 a0_1 a0_2 a1) a1)) a1 (v148_1 a0_0 (v146_0 a0_0 a0_1 a0_2 a1) (v146_1 a0_0 a0_1 a0_2 a1) a1))))))
def v108_0 (a0_0 : List AV) (a0_1 : List AV) (a0_2 : List AV) (a1 : Int) : List AV := (bif (v145_0 a0_0 a0_1 a0_2 a1) then (v129_0 a0_0 a0_1 a0_2) else (v150_0 (v149_0 a0_0 a0_1 a0_2 (v148_0 a0_0 (v146_0 a0_0 a0_1 a0_2 a1) (v146_1 a0_0 a0_1 a0_2 a1) a1)) (v149_1 a0_0 a0_1 a0_2 (v148_0 a0_0 (v146_0 a0_0 a0_1 a0_2 a1) (v146_1 a0_0 a0_1 a0_2 a1) a1)) (v149_2 a0_0 a0_1 a0_2 (v148_0 a0_0 (v146_0 a0_0 a0_1 a0_2 a1) (v146_1 a0_0 a0_1 a0_2 a1) a1)) a1 (v148_1 a0_0 (v146_0 a0_0 a0_1 a0_2 a1) (v146_1 a0_0 a0_1 a0_2 a1) a1)))
def v108_1 (a0_0 : List AV) (a0_1 : List AV) (a0_2 : List AV) (a1 : Int) : List AV := (bif (v145_0 a0_0 a0_1 a0_2 a1) then (v129_1 a0_0 a0_1 a0_2) else (v150_1 (v149_0 a0_0 a0_1 a0_2 (v148_0 a0_0 (v146_0 a0_0 a0_1 a0_2 a1) (v146_1 a0_0 a0_1 a0_2 a1) a1)) (v149_1 a0_0 a0_1 a0_2 (v148_0 a0_0 (v146_0 a0_0 a0_1 a0_2 a1) (v146_1 a0_0 a0_1 a0_2 a1) a1)) (v149_2 a0_0 a0_1 a0_2 (v148_0 a0_0 (v146_0 a0_0 a0_1 a0_2 a1) (v146_1 a0_0 a0_1 a0_2 a1) a1)) a1 (v148_1 a0_0 (v146_0 a0_0 a0_1 a0_2 a1) (v146_1 a0_0 a0_1 a0_2 a1) a1)))
def v108_2 (a0_0 : List AV) (a0_1 : List AV) (a0_2 : List AV) (a1 : Int) : List AV := (bif (v145_0 a0_0 a0_1 a0_2 a1) then (v129_2 a0_0 a0_1 a0_2) else (v150_2 (v149_0 a0_0 a0_1 a0_2 (v148_0 a0_0 (v146_0 a0_0 a0_1 a0_2 a1) (v146_1 a0_0 a0_1 a0_2 a1) a1)) (v149_1 a0_0 a0_1 a0_2 (v148_0 a0_0 (v146_0 a0_0 a0_1 a0_2 a1) (v146_1 a0_0 a0_1 a0_2 a1) a1)) (v149_2 a0_0 a0_1 a0_2 (v148_0 a0_0 (v146_0 a0_0 a0_1 a0_2 a1) (v146_1 a0_0 a0_1 a0_2 a1) a1)) a1 (v148_1 a0_0 (v146_0 a0_0 a0_1 a0_2 a1) (v146_1 a0_0 a0_1 a0_2 a1) a1)))
def v108_3 (a0_0 : List AV) (a0_1 : List AV) (a0_2 : List AV) (a1 : Int) : List AV := (bif (v145_0 a0_0 a0_1 a0_2 a1) then ([] : List AV) else (v148_0 a0_0 (v146_0 a0_0 a0_1 a0_2 a1) (v146_1 a0_0 a0_1 a0_2 a1) a1))
theorem e108 (a0_0 : List AV) (a0_1 : List AV) (a0_2 : List AV) (a1 : Int) : funA c108 0 108 [AV.agg [AV.sl [.int .i64] a0_0, AV.sl [.int .i64] a0_1, AV.sl [.int .i64, .int .i64] a0_2], AV.int .i64 a1] = (bif q145 a0_0 a0_1 a0_2 a1 then (bif (v145_0 a0_0 a0_1 a0_2 a1) then (bif q129 a0_0 a0_1 a0_2 then some (AV.tup [AV.agg [AV.fl [.int .i64] (v129_0 a0_0 a0_1 a0_2), AV.fl [.int .i64] (v129_1 a0_0 a0_1 a0_2), AV.fl [.int .i64, .int .i64] (v129_2 a0_0 a0_1 a0_2)], AV.fl [.int .i64, .int .i64] ([] : List AV)])
    else none)
   else (bif q146 a0_0 a0_1 a0_2 a1 then (bif q148 a0_0 (v146_0 a0_0 a0_1 a0_2 a1) (v146_1 a0_0 a0_1 a0_2 a1) a1 then (bif q149 a0_0 a0_1 a0_2 (v148_0 a0_0 (v146_0 a0_0 a0_1 a0_2 a1) (v146_1 a0_0 a0_1 a0_2 a1) a1) then (bif q150 (v149_0 a0_0 a0_1 a0_2 (v148_0 a0_0 (v146_0 a0_0 a0_1 a0_2 a1) (v146_1 a0_0 a0_1 a0_2 a1) a1)) (v149_1 a0_0 a0_1 a0_2 (v148_0 a0_0 (v146_0 a0_0 a0_1 a0_2 a1) (v146_1 a0_0 a0_1 a0_2 a1) a1)) (v149_2 a0_0 a0_1 a0_2 (v148_0 a0_0 (v146_0 a0_0 a0_1 a0_2 a1) (v146_1 a0_0 a0_1 a0_2 a1) a1)) a1 (v148_1 a0_0 (v146_0 a0_0 a0_1 a0_2 a1) (v146_1 a0_0 a0_1 a0_2 a1) a1) then some (AV.tup [AV.agg [AV.fl [.int .i64] (v150_0 (v149_0 a0_0 a0_1 a0_2 (v148_0 a0_0 (v146_0 a0_0 a0_1 a0_2 a1) (v146_1 a0_0 a0_1 a0_2 a1) a1)) (v149_1 a0_0 a0_1 a0_2 (v148_0 a0_0 (v146_0 a0_0 a0_1 a0_2 a1) (v146_1 a0_0 a0_1 a0_2 a1) a1)) (v149_2 a0_0 a0_1 a0_2 (v148_0 a0_0 (v146_0 a0_0 a0_1 a0_2 a1) (v146_1 a0_0 a0_1 a0_2 a1) a1)) a1 (v148_1 a0_0 (v146_0 a0_0 a0_1 a0_2 a1) (v146_1 a0_0 a0_1 a0_2 a1) a1)), AV.fl [.int .i64] (v150_1 (v149_0 a0_0 a0_1 a0_2 (v148_0 a0_0 (v146_0 a0_0 a0_1 a0_2 a1) (v146_1 a0_0 a0_1 a0_2 a1) a1)) (v149_1 a0_0 a0_1 a0_2 (v148_0 a0_0 (v146_0 a0_0 a0_1 a0_2 a1) (v146_1 a0_0 a0_1 a0_2 a1) a1)) (v149_2 a0_0 a0_1 a0_2 (v148_0 a0_0 (v146_0 a0_0 a0_1 a0_2 a1) (v146_1 a0_0 a0_1 a0_2 a1) a1)) a1 (v148_1 a0_0 (v146_0 a0_0 a0_1 a0_2 a1) (v146_1 a0_0 a0_1 a0_2 a1) a1)), AV.fl [.int .i64, .int .i64] (v150_2 (v149_0 a0_0 a0_1 a0_2 (v148_0 a0_0 (v146_0 a0_0 a0_1 a0_2 a1) (v146_1 a0_0 a0_1 a0_2 a1) a1)) (v149_1 a0_0 a0_1 a0_2 (v148_0 a0_0 (v146_0 a0_0 a0_1 a0_2 a1) (v146_1 a0_0 a0_1 a0_2 a1) a1)) (v149_2 a0_0 a0_1 a0_2 (v148_0 a0_0 (v146_0 a0_0 a0_1 a0_2 a1) (v146_1 a0_0 a0_1 a0_2 a1) a1)) a1 (v148_1 a0_0 (v146_0 a0_0 a0_1 a0_2 a1) (v146_1 a0_0 a0_1 a0_2 a1) a1))], AV.fl [.int .i64, .int .i64] (v148_0 a0_0 (v146_0 a0_0 a0_1 a0_2 a1) (v146_1 a0_0 a0_1 a0_2 a1) a1)])
       else none)
      else none)
     else none)
    else none))
  else none) := by kernel_rfl
theorem r108 (a0_0 : List AV) (a0_1 : List AV) (a0_2 : List AV) (a1 : Int) (h : q108 a0_0 a0_1 a0_2 a1 = true) : funA c108 0 108 [AV.agg [AV.sl [.int .i64] a0_0, AV.sl [.int .i64] a0_1, AV.sl [.int .i64, .int .i64] a0_2], AV.int .i64 a1] = some (AV.tup [AV.agg [AV.fl [.int .i64] (v108_0 a0_0 a0_1 a0_2 a1), AV.fl [.int .i64] (v108_1 a0_0 a0_1 a0_2 a1), AV.fl [.int .i64, .int .i64] (v108_2 a0_0 a0_1 a0_2 a1)], AV.fl [.int .i64, .int .i64] (v108_3 a0_0 a0_1 a0_2 a1)]) := (e108 a0_0 a0_1 a0_2 a1).trans ((brL (br (fun b => some (AV.tup [AV.agg [AV.fl [.int .i64] (bif b then (v129_0 a0_0 a0_1 a0_2) else (v150_0 (v149_0 a0_0 a0_1 a0_2 (v148_0 a0_0 (v146_0 a0_0 a0_1 a0_2 a1) (v146_1 a0_0 a0_1 a0_2 a1) a1)) (v149_1 a0_0 a0_1 a0_2 (v148_0 a0_0 (v146_0 a0_0 a0_1 a0_2 a1) (v146_1 a0_0 a0_1 a0_2 a1) a1)) (v149_2 a0_0 a0_1 a0_2 (v148_0 a0_0 (v146_0 a0_0 a0_1 a0_2 a1) (v146_1 a0_0 a0_1 a0_2 a1) a1)) a1 (v148_1 a0_0 (v146_0 a0_0 a0_1 a0_2 a1) (v146_1 a0_0 a0_1 a0_2 a1) a1))), AV.fl [.int .i64] (bif b then (v129_1 a0_0 a0_1 a0_2) else (v150_1 (v149_0 a0_0 a0_1 a0_2 (v148_0 a0_0 (v146_0 a0_0 a0_1 a0_2 a1) (v146_1 a0_0 a0_1 a0_2 a1) a1)) (v149_1 a0_0 a0_1 a0_2 (v148_0 a0_0 (v146_0 a0_0 a0_1 a0_2 a1) (v146_1 a0_0 a0_1 a0_2 a1) a1)) (v149_2 a0_0 a0_1 a0_2 (v148_0 a0_0 (v146_0 a0_0 a0_1 a0_2 a1) (v146_1 a0_0 a0_1 a0_2 a1) a1)) a1 (v148_1 a0_0 (v146_0 a0_0 a0_1 a0_2 a1) (v146_1 a0_0 a0_1 a0_2 a1) a1))), AV.fl [.int .i64, .int .i64] (bif b then (v129_2 a0_0 a0_1 a0_2) else (v150_2 (v149_0 a0_0 a0_1 a0_2 (v148_0 a0_0 (v146_0 a0_0 a0_1 a0_2 a1) (v146_1 a0_0 a0_1 a0_2 a1) a1)) (v149_1 a0_0 a0_1 a0_2 (v148_0 a0_0 (v146_0 a0_0 a0_1 a0_2 a1) (v146_1 a0_0 a0_1 a0_2 a1) a1)) (v149_2 a0_0 a0_1 a0_2 (v148_0 a0_0 (v146_0 a0_0 a0_1 a0_2 a1) (v146_1 a0_0 a0_1 a0_2 a1) a1)) a1 (v148_1 a0_0 (v146_0 a0_0 a0_1 a0_2 a1) (v146_1 a0_0 a0_1 a0_2 a1) a1)))], AV.fl [.int .i64, .int .i64] (bif b then ([] : List AV) else (v148_0 a0_0 (v146_0 a0_0 a0_1 a0_2 a1) (v146_1 a0_0 a0_1 a0_2 a1) a1))])) (brL1 (fun _ => rfl)) (brL (brL (brL (brL1 (fun _ => rfl))))))) h)
def m108 : TModel
  | [.agg [.sl g0 a0_0, .sl g1 a0_1, .sl g2 a0_2], .int .i64 a1] => bif ctsEq g0 ([.int .i64]) && ctsEq g1 ([.int .i64]) && ctsEq g2 ([.int .i64, .int .i64]) then some (q108 a0_0 a0_1 a0_2 a1, AV.tup [AV.agg [AV.fl [.int .i64] (v108_0 a0_0 a0_1 a0_2 a1), AV.fl [.int .i64] (v108_1 a0_0 a0_1 a0_2 a1), AV.fl [.int .i64, .int .i64] (v108_2 a0_0 a0_1 a0_2 a1)], AV.fl [.int .i64, .int .i64] (v108_3 a0_0 a0_1 a0_2 a1)]) else none
  | _ => none
theorem k108 : Known Try.prog 108 := ⟨Try.f108, Try.func108, by kernel_rfl, by kernel_rfl⟩
theorem meets108 : Meets Try.prog 108 m108 := by
  refine meet (f := Try.f108) (l := []) (hs := [(108, 999, [4, 5])]) (ts := [(129, m129), (145, m145), (146, m146), (148, m148), (149, m149), (150, m150)]) (ws := []) (is := []) (ls := []) (lvl := 0) mixed k108 Try.func108 (by kernel_rfl) noLoop (allT_cons meets129 (allT_cons meets145 (allT_cons meets146 (allT_cons meets148 (allT_cons meets149 (allT_cons meets150 allT_nil)))))) allM_nil noI fun w xs us r hl hv h => ?_
  unfold m108 at h
  split at h
  · rename_i g0 a0_0 g1 a0_1 g2 a0_2 a1
    obtain ⟨hg, h⟩ := bif_pair h
    simp only [Bool.and_eq_true] at hg
    obtain ⟨⟨q0, q1⟩, q2⟩ := hg
    obtain rfl := ctsEq_eq _ _ q0
    obtain rfl := ctsEq_eq _ _ q1
    obtain rfl := ctsEq_eq _ _ q2
    obtain ⟨h1, rfl⟩ := pair_inj h
    exact r108 a0_0 a0_1 a0_2 a1 h1
  · cases h

/-! ### 99 loop.example/g01984/impl.journal -/
def F99_0 (t1 : Int) (t35 : Int) (h0 : List AV) (h1 : List AV) (h2 : List AV) (h5 : List AV) (t36 : Int) (h4 : List AV) : Out ((Int × (List AV))) (((List AV))) := (bif decide (t36 < t35) then (bif (decide (0 ≤ t36) && decide (t36 < (h5.length : Int))) then (bif (decide ((h4.length + ([AV.agg [AV.int .i64 2, AV.int .i64 (fI (h5.getD t36.toNat AV.undef) 0), AV.int .i64 (fI (h5.getD t36.toNat AV.undef) 1), AV.int .i64 0]]).length) * 32 ≤ 140737488355328) && decide ((h4.length + ([AV.agg [AV.int .i64 2, AV.int .i64 (fI (h5.getD t36.toNat AV.undef) 0), AV.int .i64 (fI (h5.getD t36.toNat AV.undef) 1), AV.int .i64 0]]).length) ≤ 140737488355328)) then .next (IntKind.i64.wrap (t36 + 1), h4 ++ ([AV.agg [AV.int .i64 2, AV.int .i64 (fI (h5.getD t36.toNat AV.undef) 0), AV.int .i64 (fI (h5.getD t36.toNat AV.undef) 1), AV.int .i64 0]]))
    else .fail)
   else .fail)
  else .stop h4)
def R99_0 (t1 : Int) (t35 : Int) (h0 : List AV) (h1 : List AV) (h2 : List AV) (h5 : List AV) : ((Int × (List AV))) → Out ((Int × (List AV))) (((List AV))) := fun s : Int × (List AV) => F99_0 t1 t35 h0 h1 h2 h5 s.1 s.2
def l99_0 : LModel := fun _ _ st k => match st with
  | ⟨[(1, .int .i64 t1), (7, .ptr g0 g1 g2), (9, .own g3), (34, .own g4), (35, .int .i64 t35), (36, .int .i64 t36)], [(g5, ⟨false, g6, h0⟩), (g7, ⟨false, g8, h1⟩), (g9, ⟨false, g10, h2⟩), (g11, ⟨true, [], [.agg [.own g12, .own g13, .own g14]]⟩), (g15, ⟨false, g16, h4⟩), (g17, ⟨false, g18, h5⟩)]⟩ => bif nmEq g0 ([0, 7]) && Nat.beq g1 0 && Nat.beq g2 0 && nmEq g3 ([0, 9]) && nmEq g4 ([0, 34]) && nmEq g5 ([0, 0, 7]) && ctsEq g6 ([.int .i64]) && nmEq g7 ([0, 1, 7]) && ctsEq g8 ([.int .i64]) && nmEq g9 ([0, 2, 7]) && ctsEq g10 ([.int .i64, .int .i64]) && nmEq g11 ([0, 7]) && nmEq g12 ([0, 0, 7]) && nmEq g13 ([0, 1, 7]) && nmEq g14 ([0, 2, 7]) && nmEq g15 ([0, 9]) && ctsEq g16 ([.int .i64, .int .i64, .int .i64, .int .i64]) && nmEq g17 ([0, 34]) && ctsEq g18 ([.int .i64, .int .i64]) then ro (runW (R99_0 t1 t35 h0 h1 h2 h5) ((t35 - t36).toNat + 1) (t36, h4)) none (fun p : (List AV) => k (.exit 0) ⟨[(1, AV.int .i64 t1), (7, AV.ptr [0, 7] 0 0), (9, AV.own [0, 9])], [([0, 0, 7], ⟨false, [.int .i64], h0⟩), ([0, 1, 7], ⟨false, [.int .i64], h1⟩), ([0, 2, 7], ⟨false, [.int .i64, .int .i64], h2⟩), ([0, 7], ⟨true, [], [AV.agg [AV.own [0, 0, 7], AV.own [0, 1, 7], AV.own [0, 2, 7]]]⟩), ([0, 9], ⟨false, [.int .i64, .int .i64, .int .i64, .int .i64], p⟩), ([0, 34], ⟨false, [.int .i64, .int .i64], h5⟩)]⟩) else none
  | _ => none
noncomputable def c99 : Cfg := cfg Try.prog [(99, 0, [1, 7, 9, 34, 35, 36]), (99, 999, [4]), (99, 1000, [1, 7, 9]), (99, 1001, [1, 7, 9, 34, 35, 36])] [(108, m108), (145, m145), (146, m146), (147, m147)] [] [] [(99, 0, l99_0)]
theorem s99_0 (ce : CallE) (t1 : Int) (t35 : Int) (t36 : Int) (h0 : List AV) (h1 : List AV) (h2 : List AV) (h4 : List AV) (h5 : List AV) (next : St → Option AV) (k : Kont) : stepA (codeA c99 ce [] 99 0 (sub [1, 1, 1, 1, 1, 0, 1, 0, 0] (body Try.f99))) (normA [] [1, 7, 9, 34, 35, 36]) next ⟨[(1, AV.int .i64 t1), (7, AV.ptr [0, 7] 0 0), (9, AV.own [0, 9]), (34, AV.own [0, 34]), (35, AV.int .i64 t35), (36, AV.int .i64 t36)], [([0, 0, 7], ⟨false, [.int .i64], h0⟩), ([0, 1, 7], ⟨false, [.int .i64], h1⟩), ([0, 2, 7], ⟨false, [.int .i64, .int .i64], h2⟩), ([0, 7], ⟨true, [], [AV.agg [AV.own [0, 0, 7], AV.own [0, 1, 7], AV.own [0, 2, 7]]]⟩), ([0, 9], ⟨false, [.int .i64, .int .i64, .int .i64, .int .i64], h4⟩), ([0, 34], ⟨false, [.int .i64, .int .i64], h5⟩)]⟩ k = (bif decide (t36 < t35) then (bif (decide (0 ≤ t36) && decide (t36 < (h5.length : Int))) then (bif (decide ((h4.length + ([AV.agg [AV.int .i64 2, AV.int .i64 (fI (h5.getD t36.toNat AV.undef) 0), AV.int .i64 (fI (h5.getD t36.toNat AV.undef) 1), AV.int .i64 0]]).length) * 32 ≤ 140737488355328) && decide ((h4.length + ([AV.agg [AV.int .i64 2, AV.int .i64 (fI (h5.getD t36.toNat AV.undef) 0), AV.int .i64 (fI (h5.getD t36.toNat AV.undef) 1), AV.int .i64 0]]).length) ≤ 140737488355328)) then next ⟨[(1, AV.int .i64 t1), (7, AV.ptr [0, 7] 0 0), (9, AV.own [0, 9]), (34, AV.own [0, 34]), (35, AV.int .i64 t35), (36, AV.int .i64 (IntKind.i64.wrap (t36 + 1)))], [([0, 0, 7], ⟨false, [.int .i64], h0⟩), ([0, 1, 7], ⟨false, [.int .i64], h1⟩), ([0, 2, 7], ⟨false, [.int .i64, .int .i64], h2⟩), ([0, 7], ⟨true, [], [AV.agg [AV.own [0, 0, 7], AV.own [0, 1, 7], AV.own [0, 2, 7]]]⟩), ([0, 9], ⟨false, [.int .i64, .int .i64, .int .i64, .int .i64], h4 ++ ([AV.agg [AV.int .i64 2, AV.int .i64 (fI (h5.getD t36.toNat AV.undef) 0), AV.int .i64 (fI (h5.getD t36.toNat AV.undef) 1), AV.int .i64 0]])⟩), ([0, 34], ⟨false, [.int .i64, .int .i64], h5⟩)]⟩
    else none)
   else none)
  else k (.exit 0) ⟨[(1, AV.int .i64 t1), (7, AV.ptr [0, 7] 0 0), (9, AV.own [0, 9])], [([0, 0, 7], ⟨false, [.int .i64], h0⟩), ([0, 1, 7], ⟨false, [.int .i64], h1⟩), ([0, 2, 7], ⟨false, [.int .i64, .int .i64], h2⟩), ([0, 7], ⟨true, [], [AV.agg [AV.own [0, 0, 7], AV.own [0, 1, 7], AV.own [0, 2, 7]]]⟩), ([0, 9], ⟨false, [.int .i64, .int .i64, .int .i64, .int .i64], h4⟩), ([0, 34], ⟨false, [.int .i64, .int .i64], h5⟩)]⟩) := by kernel_rfl
theorem st99_0 (t1 : Int) (t35 : Int) (h0 : List AV) (h1 : List AV) (h2 : List AV) (h5 : List AV) (ce : CallE) (k : Kont) (s : (Int × (List AV))) (next : St → Option AV) : stepA (codeA c99 ce [] 99 0 (sub [1, 1, 1, 1, 1, 0, 1, 0, 0] (body Try.f99))) (normA [] [1, 7, 9, 34, 35, 36]) next ((fun s : Int × (List AV) => ⟨[(1, AV.int .i64 t1), (7, AV.ptr [0, 7] 0 0), (9, AV.own [0, 9]), (34, AV.own [0, 34]), (35, AV.int .i64 t35), (36, AV.int .i64 s.1)], [([0, 0, 7], ⟨false, [.int .i64], h0⟩), ([0, 1, 7], ⟨false, [.int .i64], h1⟩), ([0, 2, 7], ⟨false, [.int .i64, .int .i64], h2⟩), ([0, 7], ⟨true, [], [AV.agg [AV.own [0, 0, 7], AV.own [0, 1, 7], AV.own [0, 2, 7]]]⟩), ([0, 9], ⟨false, [.int .i64, .int .i64, .int .i64, .int .i64], s.2⟩), ([0, 34], ⟨false, [.int .i64, .int .i64], h5⟩)]⟩) s) k = (R99_0 t1 t35 h0 h1 h2 h5 s).el none (fun s => next ((fun s : Int × (List AV) => ⟨[(1, AV.int .i64 t1), (7, AV.ptr [0, 7] 0 0), (9, AV.own [0, 9]), (34, AV.own [0, 34]), (35, AV.int .i64 t35), (36, AV.int .i64 s.1)], [([0, 0, 7], ⟨false, [.int .i64], h0⟩), ([0, 1, 7], ⟨false, [.int .i64], h1⟩), ([0, 2, 7], ⟨false, [.int .i64, .int .i64], h2⟩), ([0, 7], ⟨true, [], [AV.agg [AV.own [0, 0, 7], AV.own [0, 1, 7], AV.own [0, 2, 7]]]⟩), ([0, 9], ⟨false, [.int .i64, .int .i64, .int .i64, .int .i64], s.2⟩), ([0, 34], ⟨false, [.int .i64, .int .i64], h5⟩)]⟩) s)) (fun p : (List AV) => k (.exit 0) ⟨[(1, AV.int .i64 t1), (7, AV.ptr [0, 7] 0 0), (9, AV.own [0, 9])], [([0, 0, 7], ⟨false, [.int .i64], h0⟩), ([0, 1, 7], ⟨false, [.int .i64], h1⟩), ([0, 2, 7], ⟨false, [.int .i64, .int .i64], h2⟩), ([0, 7], ⟨true, [], [AV.agg [AV.own [0, 0, 7], AV.own [0, 1, 7], AV.own [0, 2, 7]]]⟩), ([0, 9], ⟨false, [.int .i64, .int .i64, .int .i64, .int .i64], p⟩), ([0, 34], ⟨false, [.int .i64, .int .i64], h5⟩)]⟩) := (s99_0 ce t1 t35 s.1 h0 h1 h2 s.2 h5 next k).trans (by unfold R99_0; unfold F99_0; simp only [el_cond, el_ro, el_sum, el_fail, el_next, el_stop] <;> rfl)
theorem ok99_0 {ce : CallE} : LoopOK c99 ce [] 99 0 (sub [1, 1, 1, 1, 1, 0, 1, 0, 0] (body Try.f99)) := by
  intro m hm st k r h
  obtain rfl : l99_0 = m := Option.some.inj hm
  unfold l99_0 at h
  split at h
  · rename_i t1 g0 g1 g2 g3 g4 t35 t36 g5 g6 h0 g7 g8 h1 g9 g10 h2 g11 g12 g13 g14 g15 g16 h4 g17 g18 h5
    obtain ⟨hg, h⟩ := bif_some h
    simp only [Bool.and_eq_true] at hg
    obtain ⟨⟨⟨⟨⟨⟨⟨⟨⟨⟨⟨⟨⟨⟨⟨⟨⟨⟨q0, q1⟩, q2⟩, q3⟩, q4⟩, q5⟩, q6⟩, q7⟩, q8⟩, q9⟩, q10⟩, q11⟩, q12⟩, q13⟩, q14⟩, q15⟩, q16⟩, q17⟩, q18⟩ := hg
    obtain rfl := (nmEq_iff _ _).1 q0
    obtain rfl := Nat.eq_of_beq_eq_true q1
    obtain rfl := Nat.eq_of_beq_eq_true q2
    obtain rfl := (nmEq_iff _ _).1 q3
    obtain rfl := (nmEq_iff _ _).1 q4
    obtain rfl := (nmEq_iff _ _).1 q5
    obtain rfl := ctsEq_eq _ _ q6
    obtain rfl := (nmEq_iff _ _).1 q7
    obtain rfl := ctsEq_eq _ _ q8
    obtain rfl := (nmEq_iff _ _).1 q9
    obtain rfl := ctsEq_eq _ _ q10
    obtain rfl := (nmEq_iff _ _).1 q11
    obtain rfl := (nmEq_iff _ _).1 q12
    obtain rfl := (nmEq_iff _ _).1 q13
    obtain rfl := (nmEq_iff _ _).1 q14
    obtain rfl := (nmEq_iff _ _).1 q15
    obtain rfl := ctsEq_eq _ _ q16
    obtain rfl := (nmEq_iff _ _).1 q17
    obtain rfl := ctsEq_eq _ _ q18
    refine ⟨((t35 - t36).toNat + 1), ?_⟩
    rw [← h]
    exact loop_run (fun s : Int × (List AV) => ⟨[(1, AV.int .i64 t1), (7, AV.ptr [0, 7] 0 0), (9, AV.own [0, 9]), (34, AV.own [0, 34]), (35, AV.int .i64 t35), (36, AV.int .i64 s.1)], [([0, 0, 7], ⟨false, [.int .i64], h0⟩), ([0, 1, 7], ⟨false, [.int .i64], h1⟩), ([0, 2, 7], ⟨false, [.int .i64, .int .i64], h2⟩), ([0, 7], ⟨true, [], [AV.agg [AV.own [0, 0, 7], AV.own [0, 1, 7], AV.own [0, 2, 7]]]⟩), ([0, 9], ⟨false, [.int .i64, .int .i64, .int .i64, .int .i64], s.2⟩), ([0, 34], ⟨false, [.int .i64, .int .i64], h5⟩)]⟩) (fun p : (List AV) => k (.exit 0) ⟨[(1, AV.int .i64 t1), (7, AV.ptr [0, 7] 0 0), (9, AV.own [0, 9])], [([0, 0, 7], ⟨false, [.int .i64], h0⟩), ([0, 1, 7], ⟨false, [.int .i64], h1⟩), ([0, 2, 7], ⟨false, [.int .i64, .int .i64], h2⟩), ([0, 7], ⟨true, [], [AV.agg [AV.own [0, 0, 7], AV.own [0, 1, 7], AV.own [0, 2, 7]]]⟩), ([0, 9], ⟨false, [.int .i64, .int .i64, .int .i64, .int .i64], p⟩), ([0, 34], ⟨false, [.int .i64, .int .i64], h5⟩)]⟩) (st99_0 t1 t35 h0 h1 h2 h5 ce k) _ (t36, h4)
  · cases h
def q99 (a0_0 : List AV) (a0_1 : List AV) (a0_2 : List AV) (a1 : Int) : Bool := (q145 a0_0 a0_1 a0_2 a1 && (bif (v145_0 a0_0 a0_1 a0_2 a1) then true else (q146 a0_0 a0_1 a0_2 a1 && (q108 a0_0 a0_1 a0_2 a1 && (ro (runW (R99_0 a1 ((v108_3 a0_0 a0_1 a0_2 a1).length : Int) (v108_0 a0_0 a0_1 a0_2 a1) (v108_1 a0_0 a0_1 a0_2 a1) (v108_2 a0_0 a0_1 a0_2 a1) (v108_3 a0_0 a0_1 a0_2 a1)) ((((v108_3 a0_0 a0_1 a0_2 a1).length : Int) - 0).toNat + 1) (0, [AV.agg [AV.int .i64 1, AV.int .i64 a1, AV.int .i64 (v146_0 a0_0 a0_1 a0_2 a1), AV.int .i64 (v146_1 a0_0 a0_1 a0_2 a1)]])) false (fun p42 => (q147 (v108_0 a0_0 a0_1 a0_2 a1) (v108_1 a0_0 a0_1 a0_2 a1) (v108_2 a0_0 a0_1 a0_2 a1) a1 && (decide ((p42.length + ([AV.agg [AV.int .i64 3, AV.int .i64 a1, AV.int .i64 (v147_0 (v108_0 a0_0 a0_1 a0_2 a1) (v108_1 a0_0 a0_1 a0_2 a1) (v108_2 a0_0 a0_1 a0_2 a1) a1), AV.int .i64 0]]).length) * 32 ≤ 140737488355328) && decide ((p42.length + ([AV.agg [AV.int .i64 3, AV.int .i64 a1, AV.int .i64 (v147_0 (v108_0 a0_0 a0_1 a0_2 a1) (v108_1 a0_0 a0_1 a0_2 a1) (v108_2 a0_0 a0_1 a0_2 a1) a1), AV.int .i64 0]]).length) ≤ 140737488355328)))))))))
def v99_0 (a0_0 : List AV) (a0_1 : List AV) (a0_2 : List AV) (a1 : Int) : List AV := (bif (v145_0 a0_0 a0_1 a0_2 a1) then ([] : List AV) else (ro (runW (R99_0 a1 ((v108_3 a0_0 a0_1 a0_2 a1).length : Int) (v108_0 a0_0 a0_1 a0_2 a1) (v108_1 a0_0 a0_1 a0_2 a1) (v108_2 a0_0 a0_1 a0_2 a1) (v108_3 a0_0 a0_1 a0_2 a1)) ((((v108_3 a0_0 a0_1 a0_2 a1).length : Int) - 0).toNat + 1) (0, [AV.agg [AV.int .i64 1, AV.int .i64 a1, AV.int .i64 (v146_0 a0_0 a0_1 a0_2 a1), AV.int .i64 (v146_1 a0_0 a0_1 a0_2 a1)]])) [] (fun p42 => p42 ++ ([AV.agg [AV.int .i64 3, AV.int .i64 a1, AV.int .i64 (v147_0 (v108_0 a0_0 a0_1 a0_2 a1) (v108_1 a0_0 a0_1 a0_2 a1) (v108_2 a0_0 a0_1 a0_2 a1) a1), AV.int .i64 0]]))))
theorem e99 (a0_0 : List AV) (a0_1 : List AV) (a0_2 : List AV) (a1 : Int) : funA c99 0 99 [AV.agg [AV.sl [.int .i64] a0_0, AV.sl [.int .i64] a0_1, AV.sl [.int .i64, .int .i64] a0_2], AV.int .i64 a1] = (bif q145 a0_0 a0_1 a0_2 a1 then (bif (v145_0 a0_0 a0_1 a0_2 a1) then some (AV.fl [.int .i64, .int .i64, .int .i64, .int .i64] ([] : List AV))
   else (bif q146 a0_0 a0_1 a0_2 a1 then (bif q108 a0_0 a0_1 a0_2 a1 then (ro (runW (R99_0 a1 ((v108_3 a0_0 a0_1 a0_2 a1).length : Int) (v108_0 a0_0 a0_1 a0_2 a1) (v108_1 a0_0 a0_1 a0_2 a1) (v108_2 a0_0 a0_1 a0_2 a1) (v108_3 a0_0 a0_1 a0_2 a1)) ((((v108_3 a0_0 a0_1 a0_2 a1).length : Int) - 0).toNat + 1) (0, [AV.agg [AV.int .i64 1, AV.int .i64 a1, AV.int .i64 (v146_0 a0_0 a0_1 a0_2 a1), AV.int .i64 (v146_1 a0_0 a0_1 a0_2 a1)]])) none (fun p42 => (bif q147 (v108_0 a0_0 a0_1 a0_2 a1) (v108_1 a0_0 a0_1 a0_2 a1) (v108_2 a0_0 a0_1 a0_2 a1) a1 then (bif (decide ((p42.length + ([AV.agg [AV.int .i64 3, AV.int .i64 a1, AV.int .i64 (v147_0 (v108_0 a0_0 a0_1 a0_2 a1) (v108_1 a0_0 a0_1 a0_2 a1) (v108_2 a0_0 a0_1 a0_2 a1) a1), AV.int .i64 0]]).length) * 32 ≤ 140737488355328) && decide ((p42.length + ([AV.agg [AV.int .i64 3, AV.int .i64 a1, AV.int .i64 (v147_0 (v108_0 a0_0 a0_1 a0_2 a1) (v108_1 a0_0 a0_1 a0_2 a1) (v108_2 a0_0 a0_1 a0_2 a1) a1), AV.int .i64 0]]).length) ≤ 140737488355328)) then some (AV.fl [.int .i64, .int .i64, .int .i64, .int .i64] (p42 ++ ([AV.agg [AV.int .i64 3, AV.int .i64 a1, AV.int .i64 (v147_0 (v108_0 a0_0 a0_1 a0_2 a1) (v108_1 a0_0 a0_1 a0_2 a1) (v108_2 a0_0 a0_1 a0_2 a1) a1), AV.int .i64 0]])))
        else none)
       else none)))
     else none)
    else none))
  else none) := by kernel_rfl
theorem r99 (a0_0 : List AV) (a0_1 : List AV) (a0_2 : List AV) (a1 : Int) (h : q99 a0_0 a0_1 a0_2 a1 = true) : funA c99 0 99 [AV.agg [AV.sl [.int .i64] a0_0, AV.sl [.int .i64] a0_1, AV.sl [.int .i64, .int .i64] a0_2], AV.int .i64 a1] = some (AV.fl [.int .i64, .int .i64, .int .i64, .int .i64] (v99_0 a0_0 a0_1 a0_2 a1)) := (e99 a0_0 a0_1 a0_2 a1).trans ((brL (br (fun b => some (AV.fl [.int .i64, .int .i64, .int .i64, .int .i64] (bif b then ([] : List AV) else (ro (runW (R99_0 a1 ((v108_3 a0_0 a0_1 a0_2 a1).length : Int) (v108_0 a0_0 a0_1 a0_2 a1) (v108_1 a0_0 a0_1 a0_2 a1) (v108_2 a0_0 a0_1 a0_2 a1) (v108_3 a0_0 a0_1 a0_2 a1)) ((((v108_3 a0_0 a0_1 a0_2 a1).length : Int) - 0).toNat + 1) (0, [AV.agg [AV.int .i64 1, AV.int .i64 a1, AV.int .i64 (v146_0 a0_0 a0_1 a0_2 a1), AV.int .i64 (v146_1 a0_0 a0_1 a0_2 a1)]])) [] (fun p42 => p42 ++ ([AV.agg [AV.int .i64 3, AV.int .i64 a1, AV.int .i64 (v147_0 (v108_0 a0_0 a0_1 a0_2 a1) (v108_1 a0_0 a0_1 a0_2 a1) (v108_2 a0_0 a0_1 a0_2 a1) a1), AV.int .i64 0]])))))) (fun _ => rfl) (brL (brL (brO (fun o : Option (((List AV))) => some (AV.fl [.int .i64, .int .i64, .int .i64, .int .i64] (ro o [] (fun p42 => p42 ++ ([AV.agg [AV.int .i64 3, AV.int .i64 a1, AV.int .i64 (v147_0 (v108_0 a0_0 a0_1 a0_2 a1) (v108_1 a0_0 a0_1 a0_2 a1) (v108_2 a0_0 a0_1 a0_2 a1) a1), AV.int .i64 0]]))))) (fun p42 => (brL (brL1 (fun _ => rfl))))))))) h)
def m99 : TModel
  | [.agg [.sl g0 a0_0, .sl g1 a0_1, .sl g2 a0_2], .int .i64 a1] => bif ctsEq g0 ([.int .i64]) && ctsEq g1 ([.int .i64]) && ctsEq g2 ([.int .i64, .int .i64]) then some (q99 a0_0 a0_1 a0_2 a1, AV.fl [.int .i64, .int .i64, .int .i64, .int .i64] (v99_0 a0_0 a0_1 a0_2 a1)) else none
  | _ => none
theorem k99 : Known Try.prog 99 := ⟨Try.f99, Try.func99, by kernel_rfl, by kernel_rfl⟩
theorem meets99 : Meets Try.prog 99 m99 := by
  refine meet (f := Try.f99) (l := [(0, sub [1, 1, 1, 1, 1, 0, 1, 0, 0] (body Try.f99))]) (hs := [(99, 0, [1, 7, 9, 34, 35, 36]), (99, 999, [4]), (99, 1000, [1, 7, 9]), (99, 1001, [1, 7, 9, 34, 35, 36])]) (ts := [(108, m108), (145, m145), (146, m146), (147, m147)]) (ws := []) (is := []) (ls := [(99, 0, l99_0)]) (lvl := 0) mixed k99 Try.func99 (by kernel_rfl) (loops_cons ok99_0 noLoop) (allT_cons meets108 (allT_cons meets145 (allT_cons meets146 (allT_cons meets147 allT_nil)))) allM_nil noI fun w xs us r hl hv h => ?_
  unfold m99 at h
  split at h
  · rename_i g0 a0_0 g1 a0_1 g2 a0_2 a1
    obtain ⟨hg, h⟩ := bif_pair h
    simp only [Bool.and_eq_true] at hg
    obtain ⟨⟨q0, q1⟩, q2⟩ := hg
    obtain rfl := ctsEq_eq _ _ q0
    obtain rfl := ctsEq_eq _ _ q1
    obtain rfl := ctsEq_eq _ _ q2
    obtain ⟨h1, rfl⟩ := pair_inj h
    exact r99 a0_0 a0_1 a0_2 a1 h1
  · cases h

/-! ### 48 loop.example/g01984/impl.WorkJournal -/
def F48_0 (t23 : List AV) (t24 : Int) (t25 : Int) (h0 : List AV) (h1 : List AV) (h2 : List AV) (h5 : List AV) : Out ((Int × (List AV) × (List AV) × (List AV) × (List AV))) (((List AV) × (List AV) × (List AV) × (List AV))) := (bif decide (t25 < t24) then (bif (decide (0 ≤ t25) && decide (t25 < (t23.length : Int))) then (bif q99 h0 h1 h2 (fI (t23.getD t25.toNat AV.undef) 0) then (bif (decide ((h5.length + (v99_0 h0 h1 h2 (fI (t23.getD t25.toNat AV.undef) 0)).length) * 32 ≤ 140737488355328) && decide ((h5.length + (v99_0 h0 h1 h2 (fI (t23.getD t25.toNat AV.undef) 0)).length) ≤ 140737488355328)) then (bif q108 h0 h1 h2 (fI (t23.getD t25.toNat AV.undef) 0) then .next (IntKind.i64.wrap (t25 + 1), (v108_0 h0 h1 h2 (fI (t23.getD t25.toNat AV.undef) 0)), (v108_1 h0 h1 h2 (fI (t23.getD t25.toNat AV.undef) 0)), (v108_2 h0 h1 h2 (fI (t23.getD t25.toNat AV.undef) 0)), h5 ++ (v99_0 h0 h1 h2 (fI (t23.getD t25.toNat AV.undef) 0)))
      else .fail)
     else .fail)
    else .fail)
   else .fail)
  else .stop (h0, h1, h2, h5))
def R48_0 (t23 : List AV) (t24 : Int) : ((Int × (List AV) × (List AV) × (List AV) × (List AV))) → Out ((Int × (List AV) × (List AV) × (List AV) × (List AV))) (((List AV) × (List AV) × (List AV) × (List AV))) := fun s : Int × (List AV) × (List AV) × (List AV) × (List AV) => F48_0 t23 t24 s.1 s.2.1 s.2.2.1 s.2.2.2.1 s.2.2.2.2
def l48_0 : LModel := fun _ _ st k => match st with
  | ⟨[(4, .ptr g0 g1 g2), (7, .ptr g3 g4 g5), (8, .own g6), (23, .sl g7 t23), (24, .int .i64 t24), (25, .int .i64 t25)], [(g8, ⟨false, g9, h0⟩), (g10, ⟨false, g11, h1⟩), (g12, ⟨false, g13, h2⟩), (g14, ⟨true, [], [.agg [.snil, .snil, .snil]]⟩), (g15, ⟨true, [], [.agg [.own g16, .own g17, .own g18]]⟩), (g19, ⟨false, g20, h5⟩)]⟩ => bif nmEq g0 ([0, 4]) && Nat.beq g1 0 && Nat.beq g2 0 && nmEq g3 ([0, 7]) && Nat.beq g4 0 && Nat.beq g5 0 && nmEq g6 ([0, 8]) && ctsEq g7 ([.int .i64]) && nmEq g8 ([0, 0, 7]) && ctsEq g9 ([.int .i64]) && nmEq g10 ([0, 1, 7]) && ctsEq g11 ([.int .i64]) && nmEq g12 ([0, 2, 7]) && ctsEq g13 ([.int .i64, .int .i64]) && nmEq g14 ([0, 4]) && nmEq g15 ([0, 7]) && nmEq g16 ([0, 0, 7]) && nmEq g17 ([0, 1, 7]) && nmEq g18 ([0, 2, 7]) && nmEq g19 ([0, 8]) && ctsEq g20 ([.int .i64, .int .i64, .int .i64, .int .i64]) then ro (runW (R48_0 t23 t24) ((t24 - t25).toNat + 1) (t25, h0, h1, h2, h5)) none (fun p : (List AV) × (List AV) × (List AV) × (List AV) => k (.exit 0) ⟨[(4, AV.ptr [0, 4] 0 0), (7, AV.ptr [0, 7] 0 0), (8, AV.own [0, 8])], [([0, 0, 7], ⟨false, [.int .i64], p.1⟩), ([0, 1, 7], ⟨false, [.int .i64], p.2.1⟩), ([0, 2, 7], ⟨false, [.int .i64, .int .i64], p.2.2.1⟩), ([0, 4], ⟨true, [], [AV.agg [AV.snil, AV.snil, AV.snil]]⟩), ([0, 7], ⟨true, [], [AV.agg [AV.own [0, 0, 7], AV.own [0, 1, 7], AV.own [0, 2, 7]]]⟩), ([0, 8], ⟨false, [.int .i64, .int .i64, .int .i64, .int .i64], p.2.2.2⟩)]⟩) else none
  | _ => none
noncomputable def c48 : Cfg := cfg Try.prog [(48, 0, [4, 7, 8, 23, 24, 25]), (48, 999, [4, 5, 6]), (48, 1000, [4, 7, 8]), (48, 1001, [4, 7, 8, 23, 24, 25])] [(99, m99), (105, m105), (106, m106), (107, m107), (108, m108)] [] [] [(48, 0, l48_0)]
theorem s48_0 (ce : CallE) (t23 : List AV) (t24 : Int) (t25 : Int) (h0 : List AV) (h1 : List AV) (h2 : List AV) (h5 : List AV) (next : St → Option AV) (k : Kont) : stepA (codeA c48 ce [] 48 0 (sub [1, 1, 1, 0, 1, 0, 0] (body Try.f48))) (normA [] [4, 7, 8, 23, 24, 25]) next ⟨[(4, AV.ptr [0, 4] 0 0), (7, AV.ptr [0, 7] 0 0), (8, AV.own [0, 8]), (23, AV.sl [.int .i64] t23), (24, AV.int .i64 t24), (25, AV.int .i64 t25)], [([0, 0, 7], ⟨false, [.int .i64], h0⟩), ([0, 1, 7], ⟨false, [.int .i64], h1⟩), ([0, 2, 7], ⟨false, [.int .i64, .int .i64], h2⟩), ([0, 4], ⟨true, [], [AV.agg [AV.snil, AV.snil, AV.snil]]⟩), ([0, 7], ⟨true, [], [AV.agg [AV.own [0, 0, 7], AV.own [0, 1, 7], AV.own [0, 2, 7]]]⟩), ([0, 8], ⟨false, [.int .i64, .int .i64, .int .i64, .int .i64], h5⟩)]⟩ k = (bif decide (t25 < t24) then (bif (decide (0 ≤ t25) && decide (t25 < (t23.length : Int))) then (bif q99 h0 h1 h2 (fI (t23.getD t25.toNat AV.undef) 0) then (bif (decide ((h5.length + (v99_0 h0 h1 h2 (fI (t23.getD t25.toNat AV.undef) 0)).length) * 32 ≤ 140737488355328) && decide ((h5.length + (v99_0 h0 h1 h2 (fI (t23.getD t25.toNat AV.undef) 0)).length) ≤ 140737488355328)) then (bif q108 h0 h1 h2 (fI (t23.getD t25.toNat AV.undef) 0) then next ⟨[(4, AV.ptr [0, 4] 0 0), (7, AV.ptr [0, 7] 0 0), (8, AV.own [0, 8]), (23, AV.sl [.int .i64] t23), (24, AV.int .i64 t24), (25, AV.int .i64 (IntKind.i64.wrap (t25 + 1)))], [([0, 0, 7], ⟨false, [.int .i64], (v108_0 h0 h1 h2 (fI (t23.getD t25.toNat AV.undef) 0))⟩), ([0, 1, 7], ⟨false, [.int .i64], (v108_1 h0 h1 h2 (fI (t23.getD t25.toNat AV.undef) 0))⟩), ([0, 2, 7], ⟨false, [.int .i64, .int .i64], (v108_2 h0 h1 h2 (fI (t23.getD t25.toNat AV.undef) 0))⟩), ([0, 4], ⟨true, [], [AV.agg [AV.snil, AV.snil, AV.snil]]⟩), ([0, 7], ⟨true, [], [AV.agg [AV.own [0, 0, 7], AV.own [0, 1, 7], AV.own [0, 2, 7]]]⟩), ([0, 8], ⟨false, [.int .i64, .int .i64, .int .i64, .int .i64], h5 ++ (v99_0 h0 h1 h2 (fI (t23.getD t25.toNat AV.undef) 0))⟩)]⟩
      else none)
     else none)
    else none)
   else none)
  else k (.exit 0) ⟨[(4, AV.ptr [0, 4] 0 0), (7, AV.ptr [0, 7] 0 0), (8, AV.own [0, 8])], [([0, 0, 7], ⟨false, [.int .i64], h0⟩), ([0, 1, 7], ⟨false, [.int .i64], h1⟩), ([0, 2, 7], ⟨false, [.int .i64, .int .i64], h2⟩), ([0, 4], ⟨true, [], [AV.agg [AV.snil, AV.snil, AV.snil]]⟩), ([0, 7], ⟨true, [], [AV.agg [AV.own [0, 0, 7], AV.own [0, 1, 7], AV.own [0, 2, 7]]]⟩), ([0, 8], ⟨false, [.int .i64, .int .i64, .int .i64, .int .i64], h5⟩)]⟩) := by kernel_rfl
theorem st48_0 (t23 : List AV) (t24 : Int) (ce : CallE) (k : Kont) (s : (Int × (List AV) × (List AV) × (List AV) × (List AV))) (next : St → Option AV) : stepA (codeA c48 ce [] 48 0 (sub [1, 1, 1, 0, 1, 0, 0] (body Try.f48))) (normA [] [4, 7, 8, 23, 24, 25]) next ((fun s : Int × (List AV) × (List AV) × (List AV) × (List AV) => ⟨[(4, AV.ptr [0, 4] 0 0), (7, AV.ptr [0, 7] 0 0), (8, AV.own [0, 8]), (23, AV.sl [.int .i64] t23), (24, AV.int .i64 t24), (25, AV.int .i64 s.1)], [([0, 0, 7], ⟨false, [.int .i64], s.2.1⟩), ([0, 1, 7], ⟨false, [.int .i64], s.2.2.1⟩), ([0, 2, 7], ⟨false, [.int .i64, .int .i64], s.2.2.2.1⟩), ([0, 4], ⟨true, [], [AV.agg [AV.snil, AV.snil, AV.snil]]⟩), ([0, 7], ⟨true, [], [AV.agg [AV.own [0, 0, 7], AV.own [0, 1, 7], AV.own [0, 2, 7]]]⟩), ([0, 8], ⟨false, [.int .i64, .int .i64, .int .i64, .int .i64], s.2.2.2.2⟩)]⟩) s) k = (R48_0 t23 t24 s).el none (fun s => next ((fun s : Int × (List AV) × (List AV) × (List AV) × (List AV) => ⟨[(4, AV.ptr [0, 4] 0 0), (7, AV.ptr [0, 7] 0 0), (8, AV.own [0, 8]), (23, AV.sl [.int .i64] t23), (24, AV.int .i64 t24), (25, AV.int .i64 s.1)], [([0, 0, 7], ⟨false, [.int .i64], s.2.1⟩), ([0, 1, 7], ⟨false, [.int .i64], s.2.2.1⟩), ([0, 2, 7], ⟨false, [.int .i64, .int .i64], s.2.2.2.1⟩), ([0, 4], ⟨true, [], [AV.agg [AV.snil, AV.snil, AV.snil]]⟩), ([0, 7], ⟨true, [], [AV.agg [AV.own [0, 0, 7], AV.own [0, 1, 7], AV.own [0, 2, 7]]]⟩), ([0, 8], ⟨false, [.int .i64, .int .i64, .int .i64, .int .i64], s.2.2.2.2⟩)]⟩) s)) (fun p : (List AV) × (List AV) × (List AV) × (List AV) => k (.exit 0) ⟨[(4, AV.ptr [0, 4] 0 0), (7, AV.ptr [0, 7] 0 0), (8, AV.own [0, 8])], [([0, 0, 7], ⟨false, [.int .i64], p.1⟩), ([0, 1, 7], ⟨false, [.int .i64], p.2.1⟩), ([0, 2, 7], ⟨false, [.int .i64, .int .i64], p.2.2.1⟩), ([0, 4], ⟨true, [], [AV.agg [AV.snil, AV.snil, AV.snil]]⟩), ([0, 7], ⟨true, [], [AV.agg [AV.own [0, 0, 7], AV.own [0, 1, 7], AV.own [0, 2, 7]]]⟩), ([0, 8], ⟨false, [.int .i64, .int .i64, .int .i64, .int .i64], p.2.2.2⟩)]⟩) := (s48_0 ce t23 t24 s.1 s.2.1 s.2.2.1 s.2.2.2.1 s.2.2.2.2 next k).trans (by unfold R48_0; unfold F48_0; simp only [el_cond, el_ro, el_sum, el_fail, el_next, el_stop] <;> rfl)
theorem ok48_0 {ce : CallE} : LoopOK c48 ce [] 48 0 (sub [1, 1, 1, 0, 1, 0, 0] (body Try.f48)) := by
  intro m hm st k r h
  obtain rfl : l48_0 = m := Option.some.inj hm
  unfold l48_0 at h
  split at h
  · rename_i g0 g1 g2 g3 g4 g5 g6 g7 t23 t24 t25 g8 g9 h0 g10 g11 h1 g12 g13 h2 g14 g15 g16 g17 g18 g19 g20 h5
    obtain ⟨hg, h⟩ := bif_some h
    simp only [Bool.and_eq_true] at hg
    obtain ⟨⟨⟨⟨⟨⟨⟨⟨⟨⟨⟨⟨⟨⟨⟨⟨⟨⟨⟨⟨q0, q1⟩, q2⟩, q3⟩, q4⟩, q5⟩, q6⟩, q7⟩, q8⟩, q9⟩, q10⟩, q11⟩, q12⟩, q13⟩, q14⟩, q15⟩, q16⟩, q17⟩, q18⟩, q19⟩, q20⟩ := hg
    obtain rfl := (nmEq_iff _ _).1 q0
    obtain rfl := Nat.eq_of_beq_eq_true q1
    obtain rfl := Nat.eq_of_beq_eq_true q2
    obtain rfl := (nmEq_iff _ _).1 q3
    obtain rfl := Nat.eq_of_beq_eq_true q4
    obtain rfl := Nat.eq_of_beq_eq_true q5
    obtain rfl := (nmEq_iff _ _).1 q6
    obtain rfl := ctsEq_eq _ _ q7
    obtain rfl := (nmEq_iff _ _).1 q8
    obtain rfl := ctsEq_eq _ _ q9
    obtain rfl := (nmEq_iff _ _).1 q10
    obtain rfl := ctsEq_eq _ _ q11
    obtain rfl := (nmEq_iff _ _).1 q12
    obtain rfl := ctsEq_eq _ _ q13
    obtain rfl := (nmEq_iff _ _).1 q14
    obtain rfl := (nmEq_iff _ _).1 q15
    obtain rfl := (nmEq_iff _ _).1 q16
    obtain rfl := (nmEq_iff _ _).1 q17
    obtain rfl := (nmEq_iff _ _).1 q18
    obtain rfl := (nmEq_iff _ _).1 q19
    obtain rfl := ctsEq_eq _ _ q20
    refine ⟨((t24 - t25).toNat + 1), ?_⟩
    rw [← h]
    exact loop_run (fun s : Int × (List AV) × (List AV) × (List AV) × (List AV) => ⟨[(4, AV.ptr [0, 4] 0 0), (7, AV.ptr [0, 7] 0 0), (8, AV.own [0, 8]), (23, AV.sl [.int .i64] t23), (24, AV.int .i64 t24), (25, AV.int .i64 s.1)], [([0, 0, 7], ⟨false, [.int .i64], s.2.1⟩), ([0, 1, 7], ⟨false, [.int .i64], s.2.2.1⟩), ([0, 2, 7], ⟨false, [.int .i64, .int .i64], s.2.2.2.1⟩), ([0, 4], ⟨true, [], [AV.agg [AV.snil, AV.snil, AV.snil]]⟩), ([0, 7], ⟨true, [], [AV.agg [AV.own [0, 0, 7], AV.own [0, 1, 7], AV.own [0, 2, 7]]]⟩), ([0, 8], ⟨false, [.int .i64, .int .i64, .int .i64, .int .i64], s.2.2.2.2⟩)]⟩) (fun p : (List AV) × (List AV) × (List AV) × (List AV) => k (.exit 0) ⟨[(4, AV.ptr [0, 4] 0 0), (7, AV.ptr [0, 7] 0 0), (8, AV.own [0, 8])], [([0, 0, 7], ⟨false, [.int .i64], p.1⟩), ([0, 1, 7], ⟨false, [.int .i64], p.2.1⟩), ([0, 2, 7], ⟨false, [.int .i64, .int .i64], p.2.2.1⟩), ([0, 4], ⟨true, [], [AV.agg [AV.snil, AV.snil, AV.snil]]⟩), ([0, 7], ⟨true, [], [AV.agg [AV.own [0, 0, 7], AV.own [0, 1, 7], AV.own [0, 2, 7]]]⟩), ([0, 8], ⟨false, [.int .i64, .int .i64, .int .i64, .int .i64], p.2.2.2⟩)]⟩) (st48_0 t23 t24 ce k) _ (t25, h0, h1, h2, h5)
  · cases h
def q48 (a0 : List AV) (a1 : List AV) : Bool := (q105 a0 && (bif !(v105_0 a0) then true else (q106 a1 && (bif !(v106_0 a1) then true else (q107 a0 && (ro (runW (R48_0 a1 (a1.length : Int)) (((a1.length : Int) - 0).toNat + 1) (0, (v107_0 a0), (v107_1 a0), (v107_2 a0), ([] : List AV))) false (fun p43 => true)))))))
def v48_0 (a0 : List AV) (a1 : List AV) : List AV := (bif !(v105_0 a0) then ([] : List AV) else (bif !(v106_0 a1) then ([] : List AV) else (ro (runW (R48_0 a1 (a1.length : Int)) (((a1.length : Int) - 0).toNat + 1) (0, (v107_0 a0), (v107_1 a0), (v107_2 a0), ([] : List AV))) [] (fun p43 => p43.1))))
def v48_1 (a0 : List AV) (a1 : List AV) : List AV := (bif !(v105_0 a0) then ([] : List AV) else (bif !(v106_0 a1) then ([] : List AV) else (ro (runW (R48_0 a1 (a1.length : Int)) (((a1.length : Int) - 0).toNat + 1) (0, (v107_0 a0), (v107_1 a0), (v107_2 a0), ([] : List AV))) [] (fun p43 => p43.2.1))))
def v48_2 (a0 : List AV) (a1 : List AV) : List AV := (bif !(v105_0 a0) then ([] : List AV) else (bif !(v106_0 a1) then ([] : List AV) else (ro (runW (R48_0 a1 (a1.length : Int)) (((a1.length : Int) - 0).toNat + 1) (0, (v107_0 a0), (v107_1 a0), (v107_2 a0), ([] : List AV))) [] (fun p43 => p43.2.2.1))))
def v48_3 (a0 : List AV) (a1 : List AV) : List AV := (bif !(v105_0 a0) then ([] : List AV) else (bif !(v106_0 a1) then ([] : List AV) else (ro (runW (R48_0 a1 (a1.length : Int)) (((a1.length : Int) - 0).toNat + 1) (0, (v107_0 a0), (v107_1 a0), (v107_2 a0), ([] : List AV))) [] (fun p43 => p43.2.2.2))))
def v48_4 (a0 : List AV) (a1 : List AV) : Bool := (bif !(v105_0 a0) then false else (bif !(v106_0 a1) then false else true))
theorem e48 (a0 : List AV) (a1 : List AV) : funA c48 0 48 [AV.sl [.int .i64] a0, AV.sl [.int .i64] a1] = (bif q105 a0 then (bif !(v105_0 a0) then some (AV.tup [AV.agg [AV.fl [.int .i64] ([] : List AV), AV.fl [.int .i64] ([] : List AV), AV.fl [.int .i64, .int .i64] ([] : List AV)], AV.fl [.int .i64, .int .i64, .int .i64, .int .i64] ([] : List AV), AV.bool false])
   else (bif q106 a1 then (bif !(v106_0 a1) then some (AV.tup [AV.agg [AV.fl [.int .i64] ([] : List AV), AV.fl [.int .i64] ([] : List AV), AV.fl [.int .i64, .int .i64] ([] : List AV)], AV.fl [.int .i64, .int .i64, .int .i64, .int .i64] ([] : List AV), AV.bool false])
     else (bif q107 a0 then (ro (runW (R48_0 a1 (a1.length : Int)) (((a1.length : Int) - 0).toNat + 1) (0, (v107_0 a0), (v107_1 a0), (v107_2 a0), ([] : List AV))) none (fun p43 => some (AV.tup [AV.agg [AV.fl [.int .i64] p43.1, AV.fl [.int .i64] p43.2.1, AV.fl [.int .i64, .int .i64] p43.2.2.1], AV.fl [.int .i64, .int .i64, .int .i64, .int .i64] p43.2.2.2, AV.bool true])))
      else none))
    else none))
  else none) := by kernel_rfl
theorem r48 (a0 : List AV) (a1 : List AV) (h : q48 a0 a1 = true) : funA c48 0 48 [AV.sl [.int .i64] a0, AV.sl [.int .i64] a1] = some (AV.tup [AV.agg [AV.fl [.int .i64] (v48_0 a0 a1), AV.fl [.int .i64] (v48_1 a0 a1), AV.fl [.int .i64, .int .i64] (v48_2 a0 a1)], AV.fl [.int .i64, .int .i64, .int .i64, .int .i64] (v48_3 a0 a1), AV.bool (v48_4 a0 a1)]) := (e48 a0 a1).trans ((brL (br (fun b => some (AV.tup [AV.agg [AV.fl [.int .i64] (bif b then ([] : List AV) else (bif !(v106_0 a1) then ([] : List AV) else (ro (runW (R48_0 a1 (a1.length : Int)) (((a1.length : Int) - 0).toNat + 1) (0, (v107_0 a0), (v107_1 a0), (v107_2 a0), ([] : List AV))) [] (fun p43 => p43.1)))), AV.fl [.int .i64] (bif b then ([] : List AV) else (bif !(v106_0 a1) then ([] : List AV) else (ro (runW (R48_0 a1 (a1.length : Int)) (((a1.length : Int) - 0).toNat + 1) (0, (v107_0 a0), (v107_1 a0), (v107_2 a0), ([] : List AV))) [] (fun p43 => p43.2.1)))), AV.fl [.int .i64, .int .i64] (bif b then ([] : List AV) else (bif !(v106_0 a1) then ([] : List AV) else (ro (runW (R48_0 a1 (a1.length : Int)) (((a1.length : Int) - 0).toNat + 1) (0, (v107_0 a0), (v107_1 a0), (v107_2 a0), ([] : List AV))) [] (fun p43 => p43.2.2.1))))], AV.fl [.int .i64, .int .i64, .int .i64, .int .i64] (bif b then ([] : List AV) else (bif !(v106_0 a1) then ([] : List AV) else (ro (runW (R48_0 a1 (a1.length : Int)) (((a1.length : Int) - 0).toNat + 1) (0, (v107_0 a0), (v107_1 a0), (v107_2 a0), ([] : List AV))) [] (fun p43 => p43.2.2.2)))), AV.bool (bif b then false else (bif !(v106_0 a1) then false else true))])) (fun _ => rfl) (brL (br (fun b => some (AV.tup [AV.agg [AV.fl [.int .i64] (bif b then ([] : List AV) else (ro (runW (R48_0 a1 (a1.length : Int)) (((a1.length : Int) - 0).toNat + 1) (0, (v107_0 a0), (v107_1 a0), (v107_2 a0), ([] : List AV))) [] (fun p43 => p43.1))), AV.fl [.int .i64] (bif b then ([] : List AV) else (ro (runW (R48_0 a1 (a1.length : Int)) (((a1.length : Int) - 0).toNat + 1) (0, (v107_0 a0), (v107_1 a0), (v107_2 a0), ([] : List AV))) [] (fun p43 => p43.2.1))), AV.fl [.int .i64, .int .i64] (bif b then ([] : List AV) else (ro (runW (R48_0 a1 (a1.length : Int)) (((a1.length : Int) - 0).toNat + 1) (0, (v107_0 a0), (v107_1 a0), (v107_2 a0), ([] : List AV))) [] (fun p43 => p43.2.2.1)))], AV.fl [.int .i64, .int .i64, .int .i64, .int .i64] (bif b then ([] : List AV) else (ro (runW (R48_0 a1 (a1.length : Int)) (((a1.length : Int) - 0).toNat + 1) (0, (v107_0 a0), (v107_1 a0), (v107_2 a0), ([] : List AV))) [] (fun p43 => p43.2.2.2))), AV.bool (bif b then false else true)])) (fun _ => rfl) (brL (brO (fun o : Option (((List AV) × (List AV) × (List AV) × (List AV))) => some (AV.tup [AV.agg [AV.fl [.int .i64] (ro o [] (fun p43 => p43.1)), AV.fl [.int .i64] (ro o [] (fun p43 => p43.2.1)), AV.fl [.int .i64, .int .i64] (ro o [] (fun p43 => p43.2.2.1))], AV.fl [.int .i64, .int .i64, .int .i64, .int .i64] (ro o [] (fun p43 => p43.2.2.2)), AV.bool true])) (fun p43 => (fun _ => rfl)))))))) h)
def m48 : TModel
  | [.sl g0 a0, .sl g1 a1] => bif ctsEq g0 ([.int .i64]) && ctsEq g1 ([.int .i64]) then some (q48 a0 a1, AV.tup [AV.agg [AV.fl [.int .i64] (v48_0 a0 a1), AV.fl [.int .i64] (v48_1 a0 a1), AV.fl [.int .i64, .int .i64] (v48_2 a0 a1)], AV.fl [.int .i64, .int .i64, .int .i64, .int .i64] (v48_3 a0 a1), AV.bool (v48_4 a0 a1)]) else none
  | _ => none
theorem k48 : Known Try.prog 48 := ⟨Try.f48, Try.func48, by kernel_rfl, by kernel_rfl⟩
theorem meets48 : Meets Try.prog 48 m48 := by
  refine meet (f := Try.f48) (l := [(0, sub [1, 1, 1, 0, 1, 0, 0] (body Try.f48))]) (hs := [(48, 0, [4, 7, 8, 23, 24, 25]), (48, 999, [4, 5, 6]), (48, 1000, [4, 7, 8]), (48, 1001, [4, 7, 8, 23, 24, 25])]) (ts := [(99, m99), (105, m105), (106, m106), (107, m107), (108, m108)]) (ws := []) (is := []) (ls := [(48, 0, l48_0)]) (lvl := 0) mixed k48 Try.func48 (by kernel_rfl) (loops_cons ok48_0 noLoop) (allT_cons meets99 (allT_cons meets105 (allT_cons meets106 (allT_cons meets107 (allT_cons meets108 allT_nil))))) allM_nil noI fun w xs us r hl hv h => ?_
  unfold m48 at h
  split at h
  · rename_i g0 a0 g1 a1
    obtain ⟨hg, h⟩ := bif_pair h
    simp only [Bool.and_eq_true] at hg
    obtain ⟨q0, q1⟩ := hg
    obtain rfl := ctsEq_eq _ _ q0
    obtain rfl := ctsEq_eq _ _ q1
    obtain ⟨h1, rfl⟩ := pair_inj h
    exact r48 a0 a1 h1
  · cases h

/-! ### 34 loop.example/g01984/laws.eqIntS -/
def F34_0 (t0 : List AV) (t1 : List AV) (t5 : Int) : Out (Int) (Unit ⊕ Unit) := (bif decide (t5 < (t0.length : Int)) then (bif (decide (0 ≤ t5) && decide (t5 < (t0.length : Int))) then (bif (decide (0 ≤ t5) && decide (t5 < (t1.length : Int))) then (bif !decide (fI (t0.getD t5.toNat AV.undef) 0 = fI (t1.getD t5.toNat AV.undef) 0) then .stop (.inr ())
     else .next (IntKind.i64.wrap (t5 + 1)))
    else .fail)
   else .fail)
  else .stop (.inl ()))
def R34_0 (t0 : List AV) (t1 : List AV) : (Int) → Out (Int) (Unit ⊕ Unit) := fun s : Int => F34_0 t0 t1 s
def l34_0 : LModel := fun _ _ st k => match st with
  | ⟨[(0, .sl g0 t0), (1, .sl g1 t1), (5, .int .i64 t5)], []⟩ => bif ctsEq g0 ([.int .i64]) && ctsEq g1 ([.int .i64]) then ro (runW (R34_0 t0 t1) (((t0.length : Int) - t5).toNat + 1) t5) none (sumE (fun _ : Unit => k (.exit 0) ⟨[], []⟩) (fun _ : Unit => k .ret ⟨[(4, AV.bool false)], []⟩)) else none
  | _ => none
noncomputable def c34 : Cfg := cfg Try.prog [(34, 0, [0, 1, 5]), (34, 999, [4]), (34, 1000, []), (34, 1001, [0, 1, 5])] [] [] [] [(34, 0, l34_0)]
theorem s34_0 (ce : CallE) (t0 : List AV) (t1 : List AV) (t5 : Int) (next : St → Option AV) (k : Kont) : stepA (codeA c34 ce [] 34 0 (sub [1, 1, 0, 1, 0, 0] (body Try.f34))) (normA [] [0, 1, 5]) next ⟨[(0, AV.sl [.int .i64] t0), (1, AV.sl [.int .i64] t1), (5, AV.int .i64 t5)], []⟩ k = (bif decide (t5 < (t0.length : Int)) then (bif (decide (0 ≤ t5) && decide (t5 < (t0.length : Int))) then (bif (decide (0 ≤ t5) && decide (t5 < (t1.length : Int))) then (bif !decide (fI (t0.getD t5.toNat AV.undef) 0 = fI (t1.getD t5.toNat AV.undef) 0) then k .ret ⟨[(4, AV.bool false)], []⟩
     else next ⟨[(0, AV.sl [.int .i64] t0), (1, AV.sl [.int .i64] t1), (5, AV.int .i64 (IntKind.i64.wrap (t5 + 1)))], []⟩)
    else none)
   else none)
  else k (.exit 0) ⟨[], []⟩) := by kernel_rfl
theorem st34_0 (t0 : List AV) (t1 : List AV) (ce : CallE) (k : Kont) (s : Int) (next : St → Option AV) : stepA (codeA c34 ce [] 34 0 (sub [1, 1, 0, 1, 0, 0] (body Try.f34))) (normA [] [0, 1, 5]) next ((fun s : Int => ⟨[(0, AV.sl [.int .i64] t0), (1, AV.sl [.int .i64] t1), (5, AV.int .i64 s)], []⟩) s) k = (R34_0 t0 t1 s).el none (fun s => next ((fun s : Int => ⟨[(0, AV.sl [.int .i64] t0), (1, AV.sl [.int .i64] t1), (5, AV.int .i64 s)], []⟩) s)) (sumE (fun _ : Unit => k (.exit 0) ⟨[], []⟩) (fun _ : Unit => k .ret ⟨[(4, AV.bool false)], []⟩)) := (s34_0 ce t0 t1 s next k).trans (by unfold R34_0; unfold F34_0; simp only [el_cond, el_ro, el_sum, el_fail, el_next, el_stop] <;> rfl)
theorem ok34_0 {ce : CallE} : LoopOK c34 ce [] 34 0 (sub [1, 1, 0, 1, 0, 0] (body Try.f34)) := by
  intro m hm st k r h
  obtain rfl : l34_0 = m := Option.some.inj hm
  unfold l34_0 at h
  split at h
  · rename_i g0 t0 g1 t1 t5
    obtain ⟨hg, h⟩ := bif_some h
    simp only [Bool.and_eq_true] at hg
    obtain ⟨q0, q1⟩ := hg
    obtain rfl := ctsEq_eq _ _ q0
    obtain rfl := ctsEq_eq _ _ q1
    refine ⟨(((t0.length : Int) - t5).toNat + 1), ?_⟩
    rw [← h]
    exact loop_run (fun s : Int => ⟨[(0, AV.sl [.int .i64] t0), (1, AV.sl [.int .i64] t1), (5, AV.int .i64 s)], []⟩) (sumE (fun _ : Unit => k (.exit 0) ⟨[], []⟩) (fun _ : Unit => k .ret ⟨[(4, AV.bool false)], []⟩)) (st34_0 t0 t1 ce k) _ t5
  · cases h
def q34 (a0 : List AV) (a1 : List AV) : Bool := (bif !decide ((a0.length : Int) = (a1.length : Int)) then true else (ro (runW (R34_0 a0 a1) (((a0.length : Int) - 0).toNat + 1) 0) false (sumE (fun _ => true) (fun _ => true))))
def v34_0 (a0 : List AV) (a1 : List AV) : Bool := (bif !decide ((a0.length : Int) = (a1.length : Int)) then false else (ro (runW (R34_0 a0 a1) (((a0.length : Int) - 0).toNat + 1) 0) false (sumE (fun _ => true) (fun _ => false))))
theorem e34 (a0 : List AV) (a1 : List AV) : funA c34 0 34 [AV.sl [.int .i64] a0, AV.sl [.int .i64] a1] = (bif !decide ((a0.length : Int) = (a1.length : Int)) then some (AV.bool false)
  else (ro (runW (R34_0 a0 a1) (((a0.length : Int) - 0).toNat + 1) 0) none (sumE (fun _ => some (AV.bool true)) (fun _ => some (AV.bool false))))) := by kernel_rfl
theorem r34 (a0 : List AV) (a1 : List AV) (h : q34 a0 a1 = true) : funA c34 0 34 [AV.sl [.int .i64] a0, AV.sl [.int .i64] a1] = some (AV.bool (v34_0 a0 a1)) := (e34 a0 a1).trans ((br (fun b => some (AV.bool (bif b then false else (ro (runW (R34_0 a0 a1) (((a0.length : Int) - 0).toNat + 1) 0) false (sumE (fun _ => true) (fun _ => false)))))) (fun _ => rfl) (brO (fun o : Option (Unit ⊕ Unit) => some (AV.bool (ro o false (sumE (fun _ => true) (fun _ => false))))) (brS (fun o : Unit ⊕ Unit => some (AV.bool ((sumE (fun _ => true) (fun _ => false)) o))) (fun _ => (fun _ => rfl)) (fun _ => (fun _ => rfl))))) h)
def m34 : TModel
  | [.sl g0 a0, .sl g1 a1] => bif ctsEq g0 ([.int .i64]) && ctsEq g1 ([.int .i64]) then some (q34 a0 a1, AV.bool (v34_0 a0 a1)) else none
  | _ => none
theorem k34 : Known Try.prog 34 := ⟨Try.f34, Try.func34, by kernel_rfl, by kernel_rfl⟩
theorem meets34 : Meets Try.prog 34 m34 := by
  refine meet (f := Try.f34) (l := [(0, sub [1, 1, 0, 1, 0, 0] (body Try.f34))]) (hs := [(34, 0, [0, 1, 5]), (34, 999, [4]), (34, 1000, []), (34, 1001, [0, 1, 5])]) (ts := []) (ws := []) (is := []) (ls := [(34, 0, l34_0)]) (lvl := 0) mixed k34 Try.func34 (by kernel_rfl) (loops_cons ok34_0 noLoop) allT_nil allM_nil noI fun w xs us r hl hv h => ?_
  unfold m34 at h
  split at h
  · rename_i g0 a0 g1 a1
    obtain ⟨hg, h⟩ := bif_pair h
    simp only [Bool.and_eq_true] at hg
    obtain ⟨q0, q1⟩ := hg
    obtain rfl := ctsEq_eq _ _ q0
    obtain rfl := ctsEq_eq _ _ q1
    obtain ⟨h1, rfl⟩ := pair_inj h
    exact r34 a0 a1 h1
  · cases h

/-! ### 142 loop.example/g01984/laws.eqPivot -/
noncomputable def c142 : Cfg := cfg Try.prog [(142, 999, [4])] [] [] [] []
def q142 (a0_0 : Int) (a0_1 : Int) (a1_0 : Int) (a1_1 : Int) : Bool := true
def v142_0 (a0_0 : Int) (a0_1 : Int) (a1_0 : Int) (a1_1 : Int) : Bool := (bif !decide (a0_0 = a1_0) then false else (bif !decide (a0_1 = a1_1) then false else true))
theorem e142 (a0_0 : Int) (a0_1 : Int) (a1_0 : Int) (a1_1 : Int) : funA c142 0 142 [AV.agg [AV.int .i64 a0_0, AV.int .i64 a0_1], AV.agg [AV.int .i64 a1_0, AV.int .i64 a1_1]] = (bif !decide (a0_0 = a1_0) then some (AV.bool false)
  else (bif !decide (a0_1 = a1_1) then some (AV.bool false)
   else some (AV.bool true))) := by kernel_rfl
theorem r142 (a0_0 : Int) (a0_1 : Int) (a1_0 : Int) (a1_1 : Int) : funA c142 0 142 [AV.agg [AV.int .i64 a0_0, AV.int .i64 a0_1], AV.agg [AV.int .i64 a1_0, AV.int .i64 a1_1]] = some (AV.bool (v142_0 a0_0 a0_1 a1_0 a1_1)) := (e142 a0_0 a0_1 a1_0 a1_1).trans (of_tt (brT (fun b => some (AV.bool (bif b then false else (bif !decide (a0_1 = a1_1) then false else true)))) (fun _ => rfl) (brT (fun b => some (AV.bool (bif b then false else true))) (fun _ => rfl) (fun _ => rfl))))
def m142 : TModel
  | [.agg [.int .i64 a0_0, .int .i64 a0_1], .agg [.int .i64 a1_0, .int .i64 a1_1]] => some (true, AV.bool (v142_0 a0_0 a0_1 a1_0 a1_1))
  | _ => none
theorem k142 : Known Try.prog 142 := ⟨Try.f142, Try.func142, by kernel_rfl, by kernel_rfl⟩
theorem meets142 : Meets Try.prog 142 m142 := by
  refine meet (f := Try.f142) (l := []) (hs := [(142, 999, [4])]) (ts := []) (ws := []) (is := []) (ls := []) (lvl := 0) mixed k142 Try.func142 (by kernel_rfl) noLoop allT_nil allM_nil noI fun w xs us r hl hv h => ?_
  unfold m142 at h
  split at h
  · rename_i a0_0 a0_1 a1_0 a1_1
    obtain ⟨h1, rfl⟩ := pair_inj h
    exact r142 a0_0 a0_1 a1_0 a1_1
  · cases h

/-! ### 94 loop.example/g01984/laws.eqPivotS -/
def F94_0 (t0 : List AV) (t1 : List AV) (t5 : Int) : Out (Int) (Unit ⊕ Unit) := (bif decide (t5 < (t0.length : Int)) then (bif (decide (0 ≤ t5) && decide (t5 < (t0.length : Int))) then (bif (decide (0 ≤ t5) && decide (t5 < (t1.length : Int))) then (bif !(v142_0 (fI (t0.getD t5.toNat AV.undef) 0) (fI (t0.getD t5.toNat AV.undef) 1) (fI (t1.getD t5.toNat AV.undef) 0) (fI (t1.getD t5.toNat AV.undef) 1)) then .stop (.inr ())
     else .next (IntKind.i64.wrap (t5 + 1)))
    else .fail)
   else .fail)
  else .stop (.inl ()))
def R94_0 (t0 : List AV) (t1 : List AV) : (Int) → Out (Int) (Unit ⊕ Unit) := fun s : Int => F94_0 t0 t1 s
def l94_0 : LModel := fun _ _ st k => match st with
  | ⟨[(0, .sl g0 t0), (1, .sl g1 t1), (5, .int .i64 t5)], []⟩ => bif ctsEq g0 ([.int .i64, .int .i64]) && ctsEq g1 ([.int .i64, .int .i64]) then ro (runW (R94_0 t0 t1) (((t0.length : Int) - t5).toNat + 1) t5) none (sumE (fun _ : Unit => k (.exit 0) ⟨[], []⟩) (fun _ : Unit => k .ret ⟨[(4, AV.bool false)], []⟩)) else none
  | _ => none
noncomputable def c94 : Cfg := cfg Try.prog [(94, 0, [0, 1, 5]), (94, 999, [4]), (94, 1000, []), (94, 1001, [0, 1, 5])] [(142, m142)] [] [] [(94, 0, l94_0)]
theorem s94_0 (ce : CallE) (t0 : List AV) (t1 : List AV) (t5 : Int) (next : St → Option AV) (k : Kont) : stepA (codeA c94 ce [] 94 0 (sub [1, 1, 0, 1, 0, 0] (body Try.f94))) (normA [] [0, 1, 5]) next ⟨[(0, AV.sl [.int .i64, .int .i64] t0), (1, AV.sl [.int .i64, .int .i64] t1), (5, AV.int .i64 t5)], []⟩ k = (bif decide (t5 < (t0.length : Int)) then (bif (decide (0 ≤ t5) && decide (t5 < (t0.length : Int))) then (bif (decide (0 ≤ t5) && decide (t5 < (t1.length : Int))) then (bif !(v142_0 (fI (t0.getD t5.toNat AV.undef) 0) (fI (t0.getD t5.toNat AV.undef) 1) (fI (t1.getD t5.toNat AV.undef) 0) (fI (t1.getD t5.toNat AV.undef) 1)) then k .ret ⟨[(4, AV.bool false)], []⟩
     else next ⟨[(0, AV.sl [.int .i64, .int .i64] t0), (1, AV.sl [.int .i64, .int .i64] t1), (5, AV.int .i64 (IntKind.i64.wrap (t5 + 1)))], []⟩)
    else none)
   else none)
  else k (.exit 0) ⟨[], []⟩) := by kernel_rfl
theorem st94_0 (t0 : List AV) (t1 : List AV) (ce : CallE) (k : Kont) (s : Int) (next : St → Option AV) : stepA (codeA c94 ce [] 94 0 (sub [1, 1, 0, 1, 0, 0] (body Try.f94))) (normA [] [0, 1, 5]) next ((fun s : Int => ⟨[(0, AV.sl [.int .i64, .int .i64] t0), (1, AV.sl [.int .i64, .int .i64] t1), (5, AV.int .i64 s)], []⟩) s) k = (R94_0 t0 t1 s).el none (fun s => next ((fun s : Int => ⟨[(0, AV.sl [.int .i64, .int .i64] t0), (1, AV.sl [.int .i64, .int .i64] t1), (5, AV.int .i64 s)], []⟩) s)) (sumE (fun _ : Unit => k (.exit 0) ⟨[], []⟩) (fun _ : Unit => k .ret ⟨[(4, AV.bool false)], []⟩)) := (s94_0 ce t0 t1 s next k).trans (by unfold R94_0; unfold F94_0; simp only [el_cond, el_ro, el_sum, el_fail, el_next, el_stop] <;> rfl)
theorem ok94_0 {ce : CallE} : LoopOK c94 ce [] 94 0 (sub [1, 1, 0, 1, 0, 0] (body Try.f94)) := by
  intro m hm st k r h
  obtain rfl : l94_0 = m := Option.some.inj hm
  unfold l94_0 at h
  split at h
  · rename_i g0 t0 g1 t1 t5
    obtain ⟨hg, h⟩ := bif_some h
    simp only [Bool.and_eq_true] at hg
    obtain ⟨q0, q1⟩ := hg
    obtain rfl := ctsEq_eq _ _ q0
    obtain rfl := ctsEq_eq _ _ q1
    refine ⟨(((t0.length : Int) - t5).toNat + 1), ?_⟩
    rw [← h]
    exact loop_run (fun s : Int => ⟨[(0, AV.sl [.int .i64, .int .i64] t0), (1, AV.sl [.int .i64, .int .i64] t1), (5, AV.int .i64 s)], []⟩) (sumE (fun _ : Unit => k (.exit 0) ⟨[], []⟩) (fun _ : Unit => k .ret ⟨[(4, AV.bool false)], []⟩)) (st94_0 t0 t1 ce k) _ t5
  · cases h
def q94 (a0 : List AV) (a1 : List AV) : Bool := (bif !decide ((a0.length : Int) = (a1.length : Int)) then true else (ro (runW (R94_0 a0 a1) (((a0.length : Int) - 0).toNat + 1) 0) false (sumE (fun _ => true) (fun _ => true))))
def v94_0 (a0 : List AV) (a1 : List AV) : Bool := (bif !decide ((a0.length : Int) = (a1.length : Int)) then false else (ro (runW (R94_0 a0 a1) (((a0.length : Int) - 0).toNat + 1) 0) false (sumE (fun _ => true) (fun _ => false))))
theorem e94 (a0 : List AV) (a1 : List AV) : funA c94 0 94 [AV.sl [.int .i64, .int .i64] a0, AV.sl [.int .i64, .int .i64] a1] = (bif !decide ((a0.length : Int) = (a1.length : Int)) then some (AV.bool false)
  else (ro (runW (R94_0 a0 a1) (((a0.length : Int) - 0).toNat + 1) 0) none (sumE (fun _ => some (AV.bool true)) (fun _ => some (AV.bool false))))) := by kernel_rfl
theorem r94 (a0 : List AV) (a1 : List AV) (h : q94 a0 a1 = true) : funA c94 0 94 [AV.sl [.int .i64, .int .i64] a0, AV.sl [.int .i64, .int .i64] a1] = some (AV.bool (v94_0 a0 a1)) := (e94 a0 a1).trans ((br (fun b => some (AV.bool (bif b then false else (ro (runW (R94_0 a0 a1) (((a0.length : Int) - 0).toNat + 1) 0) false (sumE (fun _ => true) (fun _ => false)))))) (fun _ => rfl) (brO (fun o : Option (Unit ⊕ Unit) => some (AV.bool (ro o false (sumE (fun _ => true) (fun _ => false))))) (brS (fun o : Unit ⊕ Unit => some (AV.bool ((sumE (fun _ => true) (fun _ => false)) o))) (fun _ => (fun _ => rfl)) (fun _ => (fun _ => rfl))))) h)
def m94 : TModel
  | [.sl g0 a0, .sl g1 a1] => bif ctsEq g0 ([.int .i64, .int .i64]) && ctsEq g1 ([.int .i64, .int .i64]) then some (q94 a0 a1, AV.bool (v94_0 a0 a1)) else none
  | _ => none
theorem k94 : Known Try.prog 94 := ⟨Try.f94, Try.func94, by kernel_rfl, by kernel_rfl⟩
theorem meets94 : Meets Try.prog 94 m94 := by
  refine meet (f := Try.f94) (l := [(0, sub [1, 1, 0, 1, 0, 0] (body Try.f94))]) (hs := [(94, 0, [0, 1, 5]), (94, 999, [4]), (94, 1000, []), (94, 1001, [0, 1, 5])]) (ts := [(142, m142)]) (ws := []) (is := []) (ls := [(94, 0, l94_0)]) (lvl := 0) mixed k94 Try.func94 (by kernel_rfl) (loops_cons ok94_0 noLoop) (allT_cons meets142 allT_nil) allM_nil noI fun w xs us r hl hv h => ?_
  unfold m94 at h
  split at h
  · rename_i g0 a0 g1 a1
    obtain ⟨hg, h⟩ := bif_pair h
    simp only [Bool.and_eq_true] at hg
    obtain ⟨q0, q1⟩ := hg
    obtain rfl := ctsEq_eq _ _ q0
    obtain rfl := ctsEq_eq _ _ q1
    obtain ⟨h1, rfl⟩ := pair_inj h
    exact r94 a0 a1 h1
  · cases h

/-! ### 40 loop.example/g01984/laws.eqCracker -/
noncomputable def c40 : Cfg := cfg Try.prog [(40, 999, [4])] [(34, m34), (94, m94)] [] [] []
def q40 (a0_0 : List AV) (a0_1 : List AV) (a0_2 : List AV) (a1_0 : List AV) (a1_1 : List AV) (a1_2 : List AV) : Bool := (q34 a0_0 a1_0 && (bif !(v34_0 a0_0 a1_0) then true else (q34 a0_1 a1_1 && (bif !(v34_0 a0_1 a1_1) then true else q94 a0_2 a1_2))))
def v40_0 (a0_0 : List AV) (a0_1 : List AV) (a0_2 : List AV) (a1_0 : List AV) (a1_1 : List AV) (a1_2 : List AV) : Bool := (bif !(v34_0 a0_0 a1_0) then false else (bif !(v34_0 a0_1 a1_1) then false else (bif !(v94_0 a0_2 a1_2) then false else true)))
theorem e40 (a0_0 : List AV) (a0_1 : List AV) (a0_2 : List AV) (a1_0 : List AV) (a1_1 : List AV) (a1_2 : List AV) : funA c40 0 40 [AV.agg [AV.sl [.int .i64] a0_0, AV.sl [.int .i64] a0_1, AV.sl [.int .i64, .int .i64] a0_2], AV.agg [AV.sl [.int .i64] a1_0, AV.sl [.int .i64] a1_1, AV.sl [.int .i64, .int .i64] a1_2]] = (bif q34 a0_0 a1_0 then (bif !(v34_0 a0_0 a1_0) then some (AV.bool false)
   else (bif q34 a0_1 a1_1 then (bif !(v34_0 a0_1 a1_1) then some (AV.bool false)
     else (bif q94 a0_2 a1_2 then (bif !(v94_0 a0_2 a1_2) then some (AV.bool false)
       else some (AV.bool true))
      else none))
    else none))
  else none) := by kernel_rfl
theorem r40 (a0_0 : List AV) (a0_1 : List AV) (a0_2 : List AV) (a1_0 : List AV) (a1_1 : List AV) (a1_2 : List AV) (h : q40 a0_0 a0_1 a0_2 a1_0 a1_1 a1_2 = true) : funA c40 0 40 [AV.agg [AV.sl [.int .i64] a0_0, AV.sl [.int .i64] a0_1, AV.sl [.int .i64, .int .i64] a0_2], AV.agg [AV.sl [.int .i64] a1_0, AV.sl [.int .i64] a1_1, AV.sl [.int .i64, .int .i64] a1_2]] = some (AV.bool (v40_0 a0_0 a0_1 a0_2 a1_0 a1_1 a1_2)) := (e40 a0_0 a0_1 a0_2 a1_0 a1_1 a1_2).trans ((brL (br (fun b => some (AV.bool (bif b then false else (bif !(v34_0 a0_1 a1_1) then false else (bif !(v94_0 a0_2 a1_2) then false else true))))) (fun _ => rfl) (brL (br (fun b => some (AV.bool (bif b then false else (bif !(v94_0 a0_2 a1_2) then false else true)))) (fun _ => rfl) (brL1 (brT (fun b => some (AV.bool (bif b then false else true))) (fun _ => rfl) (fun _ => rfl))))))) h)
def m40 : TModel
  | [.agg [.sl g0 a0_0, .sl g1 a0_1, .sl g2 a0_2], .agg [.sl g3 a1_0, .sl g4 a1_1, .sl g5 a1_2]] => bif ctsEq g0 ([.int .i64]) && ctsEq g1 ([.int .i64]) && ctsEq g2 ([.int .i64, .int .i64]) && ctsEq g3 ([.int .i64]) && ctsEq g4 ([.int .i64]) && ctsEq g5 ([.int .i64, .int .i64]) then some (q40 a0_0 a0_1 a0_2 a1_0 a1_1 a1_2, AV.bool (v40_0 a0_0 a0_1 a0_2 a1_0 a1_1 a1_2)) else none
  | _ => none
theorem k40 : Known Try.prog 40 := ⟨Try.f40, Try.func40, by kernel_rfl, by kernel_rfl⟩
theorem meets40 : Meets Try.prog 40 m40 := by
  refine meet (f := Try.f40) (l := []) (hs := [(40, 999, [4])]) (ts := [(34, m34), (94, m94)]) (ws := []) (is := []) (ls := []) (lvl := 0) mixed k40 Try.func40 (by kernel_rfl) noLoop (allT_cons meets34 (allT_cons meets94 allT_nil)) allM_nil noI fun w xs us r hl hv h => ?_
  unfold m40 at h
  split at h
  · rename_i g0 a0_0 g1 a0_1 g2 a0_2 g3 a1_0 g4 a1_1 g5 a1_2
    obtain ⟨hg, h⟩ := bif_pair h
    simp only [Bool.and_eq_true] at hg
    obtain ⟨⟨⟨⟨⟨q0, q1⟩, q2⟩, q3⟩, q4⟩, q5⟩ := hg
    obtain rfl := ctsEq_eq _ _ q0
    obtain rfl := ctsEq_eq _ _ q1
    obtain rfl := ctsEq_eq _ _ q2
    obtain rfl := ctsEq_eq _ _ q3
    obtain rfl := ctsEq_eq _ _ q4
    obtain rfl := ctsEq_eq _ _ q5
    obtain ⟨h1, rfl⟩ := pair_inj h
    exact r40 a0_0 a0_1 a0_2 a1_0 a1_1 a1_2 h1
  · cases h

/-! ### 100 loop.example/g01984/laws.eqEntry -/
noncomputable def c100 : Cfg := cfg Try.prog [(100, 999, [4])] [] [] [] []
def q100 (a0_0 : Int) (a0_1 : Int) (a0_2 : Int) (a0_3 : Int) (a1_0 : Int) (a1_1 : Int) (a1_2 : Int) (a1_3 : Int) : Bool := true
def v100_0 (a0_0 : Int) (a0_1 : Int) (a0_2 : Int) (a0_3 : Int) (a1_0 : Int) (a1_1 : Int) (a1_2 : Int) (a1_3 : Int) : Bool := (bif !decide (a0_0 = a1_0) then false else (bif !decide (a0_1 = a1_1) then false else (bif !decide (a0_2 = a1_2) then false else (bif !decide (a0_3 = a1_3) then false else true))))
theorem e100 (a0_0 : Int) (a0_1 : Int) (a0_2 : Int) (a0_3 : Int) (a1_0 : Int) (a1_1 : Int) (a1_2 : Int) (a1_3 : Int) : funA c100 0 100 [AV.agg [AV.int .i64 a0_0, AV.int .i64 a0_1, AV.int .i64 a0_2, AV.int .i64 a0_3], AV.agg [AV.int .i64 a1_0, AV.int .i64 a1_1, AV.int .i64 a1_2, AV.int .i64 a1_3]] = (bif !decide (a0_0 = a1_0) then some (AV.bool false)
  else (bif !decide (a0_1 = a1_1) then some (AV.bool false)
   else (bif !decide (a0_2 = a1_2) then some (AV.bool false)
    else (bif !decide (a0_3 = a1_3) then some (AV.bool false)
     else some (AV.bool true))))) := by kernel_rfl
theorem r100 (a0_0 : Int) (a0_1 : Int) (a0_2 : Int) (a0_3 : Int) (a1_0 : Int) (a1_1 : Int) (a1_2 : Int) (a1_3 : Int) : funA c100 0 100 [AV.agg [AV.int .i64 a0_0, AV.int .i64 a0_1, AV.int .i64 a0_2, AV.int .i64 a0_3], AV.agg [AV.int .i64 a1_0, AV.int .i64 a1_1, AV.int .i64 a1_2, AV.int .i64 a1_3]] = some (AV.bool (v100_0 a0_0 a0_1 a0_2 a0_3 a1_0 a1_1 a1_2 a1_3)) := (e100 a0_0 a0_1 a0_2 a0_3 a1_0 a1_1 a1_2 a1_3).trans (of_tt (brT (fun b => some (AV.bool (bif b then false else (bif !decide (a0_1 = a1_1) then false else (bif !decide (a0_2 = a1_2) then false else (bif !decide (a0_3 = a1_3) then false else true)))))) (fun _ => rfl) (brT (fun b => some (AV.bool (bif b then false else (bif !decide (a0_2 = a1_2) then false else (bif !decide (a0_3 = a1_3) then false else true))))) (fun _ => rfl) (brT (fun b => some (AV.bool (bif b then false else (bif !decide (a0_3 = a1_3) then false else true)))) (fun _ => rfl) (brT (fun b => some (AV.bool (bif b then false else true))) (fun _ => rfl) (fun _ => rfl))))))
def m100 : TModel
  | [.agg [.int .i64 a0_0, .int .i64 a0_1, .int .i64 a0_2, .int .i64 a0_3], .agg [.int .i64 a1_0, .int .i64 a1_1, .int .i64 a1_2, .int .i64 a1_3]] => some (true, AV.bool (v100_0 a0_0 a0_1 a0_2 a0_3 a1_0 a1_1 a1_2 a1_3))
  | _ => none
theorem k100 : Known Try.prog 100 := ⟨Try.f100, Try.func100, by kernel_rfl, by kernel_rfl⟩
theorem meets100 : Meets Try.prog 100 m100 := by
  refine meet (f := Try.f100) (l := []) (hs := [(100, 999, [4])]) (ts := []) (ws := []) (is := []) (ls := []) (lvl := 0) mixed k100 Try.func100 (by kernel_rfl) noLoop allT_nil allM_nil noI fun w xs us r hl hv h => ?_
  unfold m100 at h
  split at h
  · rename_i a0_0 a0_1 a0_2 a0_3 a1_0 a1_1 a1_2 a1_3
    obtain ⟨h1, rfl⟩ := pair_inj h
    exact r100 a0_0 a0_1 a0_2 a0_3 a1_0 a1_1 a1_2 a1_3
  · cases h

/-! ### 43 loop.example/g01984/laws.eqEntryS -/
def F43_0 (t0 : List AV) (t1 : List AV) (t5 : Int) : Out (Int) (Unit ⊕ Unit) := (bif decide (t5 < (t0.length : Int)) then (bif (decide (0 ≤ t5) && decide (t5 < (t0.length : Int))) then (bif (decide (0 ≤ t5) && decide (t5 < (t1.length : Int))) then (bif !(v100_0 (fI (t0.getD t5.toNat AV.undef) 0) (fI (t0.getD t5.toNat AV.undef) 1) (fI (t0.getD t5.toNat AV.undef) 2) (fI (t0.getD t5.toNat AV.undef) 3) (fI (t1.getD t5.toNat AV.undef) 0) (fI (t1.getD t5.toNat AV.undef) 1) (fI (t1.getD t5.toNat AV.undef) 2) (fI (t1.getD t5.toNat AV.undef) 3)) then .stop (.inr ())
     else .next (IntKind.i64.wrap (t5 + 1)))
    else .fail)
   else .fail)
  else .stop (.inl ()))
def R43_0 (t0 : List AV) (t1 : List AV) : (Int) → Out (Int) (Unit ⊕ Unit) := fun s : Int => F43_0 t0 t1 s
def l43_0 : LModel := fun _ _ st k => match st with
  | ⟨[(0, .sl g0 t0), (1, .sl g1 t1), (5, .int .i64 t5)], []⟩ => bif ctsEq g0 ([.int .i64, .int .i64, .int .i64, .int .i64]) && ctsEq g1 ([.int .i64, .int .i64, .int .i64, .int .i64]) then ro (runW (R43_0 t0 t1) (((t0.length : Int) - t5).toNat + 1) t5) none (sumE (fun _ : Unit => k (.exit 0) ⟨[], []⟩) (fun _ : Unit => k .ret ⟨[(4, AV.bool false)], []⟩)) else none
  | _ => none
noncomputable def c43 : Cfg := cfg Try.prog [(43, 0, [0, 1, 5]), (43, 999, [4]), (43, 1000, []), (43, 1001, [0, 1, 5])] [(100, m100)] [] [] [(43, 0, l43_0)]
theorem s43_0 (ce : CallE) (t0 : List AV) (t1 : List AV) (t5 : Int) (next : St → Option AV) (k : Kont) : stepA (codeA c43 ce [] 43 0 (sub [1, 1, 0, 1, 0, 0] (body Try.f43))) (normA [] [0, 1, 5]) next ⟨[(0, AV.sl [.int .i64, .int .i64, .int .i64, .int .i64] t0), (1, AV.sl [.int .i64, .int .i64, .int .i64, .int .i64] t1), (5, AV.int .i64 t5)], []⟩ k = (bif decide (t5 < (t0.length : Int)) then (bif (decide (0 ≤ t5) && decide (t5 < (t0.length : Int))) then (bif (decide (0 ≤ t5) && decide (t5 < (t1.length : Int))) then (bif !(v100_0 (fI (t0.getD t5.toNat AV.undef) 0) (fI (t0.getD t5.toNat AV.undef) 1) (fI (t0.getD t5.toNat AV.undef) 2) (fI (t0.getD t5.toNat AV.undef) 3) (fI (t1.getD t5.toNat AV.undef) 0) (fI (t1.getD t5.toNat AV.undef) 1) (fI (t1.getD t5.toNat AV.undef) 2) (fI (t1.getD t5.toNat AV.undef) 3)) then k .ret ⟨[(4, AV.bool false)], []⟩
     else next ⟨[(0, AV.sl [.int .i64, .int .i64, .int .i64, .int .i64] t0), (1, AV.sl [.int .i64, .int .i64, .int .i64, .int .i64] t1), (5, AV.int .i64 (IntKind.i64.wrap (t5 + 1)))], []⟩)
    else none)
   else none)
  else k (.exit 0) ⟨[], []⟩) := by kernel_rfl
theorem st43_0 (t0 : List AV) (t1 : List AV) (ce : CallE) (k : Kont) (s : Int) (next : St → Option AV) : stepA (codeA c43 ce [] 43 0 (sub [1, 1, 0, 1, 0, 0] (body Try.f43))) (normA [] [0, 1, 5]) next ((fun s : Int => ⟨[(0, AV.sl [.int .i64, .int .i64, .int .i64, .int .i64] t0), (1, AV.sl [.int .i64, .int .i64, .int .i64, .int .i64] t1), (5, AV.int .i64 s)], []⟩) s) k = (R43_0 t0 t1 s).el none (fun s => next ((fun s : Int => ⟨[(0, AV.sl [.int .i64, .int .i64, .int .i64, .int .i64] t0), (1, AV.sl [.int .i64, .int .i64, .int .i64, .int .i64] t1), (5, AV.int .i64 s)], []⟩) s)) (sumE (fun _ : Unit => k (.exit 0) ⟨[], []⟩) (fun _ : Unit => k .ret ⟨[(4, AV.bool false)], []⟩)) := (s43_0 ce t0 t1 s next k).trans (by unfold R43_0; unfold F43_0; simp only [el_cond, el_ro, el_sum, el_fail, el_next, el_stop] <;> rfl)
theorem ok43_0 {ce : CallE} : LoopOK c43 ce [] 43 0 (sub [1, 1, 0, 1, 0, 0] (body Try.f43)) := by
  intro m hm st k r h
  obtain rfl : l43_0 = m := Option.some.inj hm
  unfold l43_0 at h
  split at h
  · rename_i g0 t0 g1 t1 t5
    obtain ⟨hg, h⟩ := bif_some h
    simp only [Bool.and_eq_true] at hg
    obtain ⟨q0, q1⟩ := hg
    obtain rfl := ctsEq_eq _ _ q0
    obtain rfl := ctsEq_eq _ _ q1
    refine ⟨(((t0.length : Int) - t5).toNat + 1), ?_⟩
    rw [← h]
    exact loop_run (fun s : Int => ⟨[(0, AV.sl [.int .i64, .int .i64, .int .i64, .int .i64] t0), (1, AV.sl [.int .i64, .int .i64, .int .i64, .int .i64] t1), (5, AV.int .i64 s)], []⟩) (sumE (fun _ : Unit => k (.exit 0) ⟨[], []⟩) (fun _ : Unit => k .ret ⟨[(4, AV.bool false)], []⟩)) (st43_0 t0 t1 ce k) _ t5
  · cases h
def q43 (a0 : List AV) (a1 : List AV) : Bool := (bif !decide ((a0.length : Int) = (a1.length : Int)) then true else (ro (runW (R43_0 a0 a1) (((a0.length : Int) - 0).toNat + 1) 0) false (sumE (fun _ => true) (fun _ => true))))
def v43_0 (a0 : List AV) (a1 : List AV) : Bool := (bif !decide ((a0.length : Int) = (a1.length : Int)) then false else (ro (runW (R43_0 a0 a1) (((a0.length : Int) - 0).toNat + 1) 0) false (sumE (fun _ => true) (fun _ => false))))
theorem e43 (a0 : List AV) (a1 : List AV) : funA c43 0 43 [AV.sl [.int .i64, .int .i64, .int .i64, .int .i64] a0, AV.sl [.int .i64, .int .i64, .int .i64, .int .i64] a1] = (bif !decide ((a0.length : Int) = (a1.length : Int)) then some (AV.bool false)
  else (ro (runW (R43_0 a0 a1) (((a0.length : Int) - 0).toNat + 1) 0) none (sumE (fun _ => some (AV.bool true)) (fun _ => some (AV.bool false))))) := by kernel_rfl
theorem r43 (a0 : List AV) (a1 : List AV) (h : q43 a0 a1 = true) : funA c43 0 43 [AV.sl [.int .i64, .int .i64, .int .i64, .int .i64] a0, AV.sl [.int .i64, .int .i64, .int .i64, .int .i64] a1] = some (AV.bool (v43_0 a0 a1)) := (e43 a0 a1).trans ((br (fun b => some (AV.bool (bif b then false else (ro (runW (R43_0 a0 a1) (((a0.length : Int) - 0).toNat + 1) 0) false (sumE (fun _ => true) (fun _ => false)))))) (fun _ => rfl) (brO (fun o : Option (Unit ⊕ Unit) => some (AV.bool (ro o false (sumE (fun _ => true) (fun _ => false))))) (brS (fun o : Unit ⊕ Unit => some (AV.bool ((sumE (fun _ => true) (fun _ => false)) o))) (fun _ => (fun _ => rfl)) (fun _ => (fun _ => rfl))))) h)
def m43 : TModel
  | [.sl g0 a0, .sl g1 a1] => bif ctsEq g0 ([.int .i64, .int .i64, .int .i64, .int .i64]) && ctsEq g1 ([.int .i64, .int .i64, .int .i64, .int .i64]) then some (q43 a0 a1, AV.bool (v43_0 a0 a1)) else none
  | _ => none
theorem k43 : Known Try.prog 43 := ⟨Try.f43, Try.func43, by kernel_rfl, by kernel_rfl⟩
theorem meets43 : Meets Try.prog 43 m43 := by
  refine meet (f := Try.f43) (l := [(0, sub [1, 1, 0, 1, 0, 0] (body Try.f43))]) (hs := [(43, 0, [0, 1, 5]), (43, 999, [4]), (43, 1000, []), (43, 1001, [0, 1, 5])]) (ts := [(100, m100)]) (ws := []) (is := []) (ls := [(43, 0, l43_0)]) (lvl := 0) mixed k43 Try.func43 (by kernel_rfl) (loops_cons ok43_0 noLoop) (allT_cons meets100 allT_nil) allM_nil noI fun w xs us r hl hv h => ?_
  unfold m43 at h
  split at h
  · rename_i g0 a0 g1 a1
    obtain ⟨hg, h⟩ := bif_pair h
    simp only [Bool.and_eq_true] at hg
    obtain ⟨q0, q1⟩ := hg
    obtain rfl := ctsEq_eq _ _ q0
    obtain rfl := ctsEq_eq _ _ q1
    obtain ⟨h1, rfl⟩ := pair_inj h
    exact r43 a0 a1 h1
  · cases h

/-! ### 49 loop.example/g01984/laws.markIntS -/
def F49_0 (t1 : Int) (t5 : Int) (h0 : List AV) : Out ((Int × Int × (List AV))) ((Int × (List AV))) := (bif decide (t5 < (h0.length : Int)) then (bif (decide (0 ≤ t5) && decide (t5 < (h0.length : Int))) then .next (IntKind.i64.wrap (t1 + 1), IntKind.i64.wrap (t5 + 1), h0.set t5.toNat (AV.agg [AV.int .i64 t1]))
   else .fail)
  else .stop (t1, h0))
def R49_0 : ((Int × Int × (List AV))) → Out ((Int × Int × (List AV))) ((Int × (List AV))) := fun s : Int × Int × (List AV) => F49_0 s.1 s.2.1 s.2.2
def l49_0 : LModel := fun _ _ st k => match st with
  | ⟨[(0, .own g0), (1, .int .i64 t1), (5, .int .i64 t5)], [(g1, ⟨false, g2, h0⟩)]⟩ => bif nmEq g0 ([1]) && nmEq g1 ([1]) && ctsEq g2 ([.int .i64]) then ro (runW (R49_0) (((h0.length : Int) - t5).toNat + 1) (t1, t5, h0)) none (fun p : Int × (List AV) => k (.exit 0) ⟨[(1, AV.int .i64 p.1)], [([1], ⟨false, [.int .i64], p.2⟩)]⟩) else none
  | _ => none
noncomputable def c49 : Cfg := cfg Try.prog [(49, 0, [0, 1, 5]), (49, 999, [4]), (49, 1000, [1]), (49, 1001, [0, 1, 5])] [] [] [] [(49, 0, l49_0)]
theorem s49_0 (ce : CallE) (t1 : Int) (t5 : Int) (h0 : List AV) (next : St → Option AV) (k : Kont) : stepA (codeA c49 ce [0] 49 0 (sub [1, 0, 1, 0, 0] (body Try.f49))) (normA [0] [0, 1, 5]) next ⟨[(0, AV.own [1]), (1, AV.int .i64 t1), (5, AV.int .i64 t5)], [([1], ⟨false, [.int .i64], h0⟩)]⟩ k = (bif decide (t5 < (h0.length : Int)) then (bif (decide (0 ≤ t5) && decide (t5 < (h0.length : Int))) then next ⟨[(0, AV.own [1]), (1, AV.int .i64 (IntKind.i64.wrap (t1 + 1))), (5, AV.int .i64 (IntKind.i64.wrap (t5 + 1)))], [([1], ⟨false, [.int .i64], h0.set t5.toNat (AV.agg [AV.int .i64 t1])⟩)]⟩
   else none)
  else k (.exit 0) ⟨[(1, AV.int .i64 t1)], [([1], ⟨false, [.int .i64], h0⟩)]⟩) := by kernel_rfl
theorem st49_0 (ce : CallE) (k : Kont) (s : (Int × Int × (List AV))) (next : St → Option AV) : stepA (codeA c49 ce [0] 49 0 (sub [1, 0, 1, 0, 0] (body Try.f49))) (normA [0] [0, 1, 5]) next ((fun s : Int × Int × (List AV) => ⟨[(0, AV.own [1]), (1, AV.int .i64 s.1), (5, AV.int .i64 s.2.1)], [([1], ⟨false, [.int .i64], s.2.2⟩)]⟩) s) k = (R49_0 s).el none (fun s => next ((fun s : Int × Int × (List AV) => ⟨[(0, AV.own [1]), (1, AV.int .i64 s.1), (5, AV.int .i64 s.2.1)], [([1], ⟨false, [.int .i64], s.2.2⟩)]⟩) s)) (fun p : Int × (List AV) => k (.exit 0) ⟨[(1, AV.int .i64 p.1)], [([1], ⟨false, [.int .i64], p.2⟩)]⟩) := (s49_0 ce s.1 s.2.1 s.2.2 next k).trans (by unfold R49_0; unfold F49_0; simp only [el_cond, el_ro, el_sum, el_fail, el_next, el_stop] <;> rfl)
theorem ok49_0 {ce : CallE} : LoopOK c49 ce [0] 49 0 (sub [1, 0, 1, 0, 0] (body Try.f49)) := by
  intro m hm st k r h
  obtain rfl : l49_0 = m := Option.some.inj hm
  unfold l49_0 at h
  split at h
  · rename_i g0 t1 t5 g1 g2 h0
    obtain ⟨hg, h⟩ := bif_some h
    simp only [Bool.and_eq_true] at hg
    obtain ⟨⟨q0, q1⟩, q2⟩ := hg
    obtain rfl := (nmEq_iff _ _).1 q0
    obtain rfl := (nmEq_iff _ _).1 q1
    obtain rfl := ctsEq_eq _ _ q2
    refine ⟨(((h0.length : Int) - t5).toNat + 1), ?_⟩
    rw [← h]
    exact loop_run (fun s : Int × Int × (List AV) => ⟨[(0, AV.own [1]), (1, AV.int .i64 s.1), (5, AV.int .i64 s.2.1)], [([1], ⟨false, [.int .i64], s.2.2⟩)]⟩) (fun p : Int × (List AV) => k (.exit 0) ⟨[(1, AV.int .i64 p.1)], [([1], ⟨false, [.int .i64], p.2⟩)]⟩) (st49_0 ce k) _ (t1, t5, h0)
  · cases h
def q49 (a1 : Int) (b0 : List AV) : Bool := (ro (runW (R49_0) (((b0.length : Int) - 0).toNat + 1) (a1, 0, b0)) false (fun p50 => true))
def v49_0 (a1 : Int) (b0 : List AV) : Int := (ro (runW (R49_0) (((b0.length : Int) - 0).toNat + 1) (a1, 0, b0)) 0 (fun p50 => p50.1))
def v49_1 (a1 : Int) (b0 : List AV) : List AV := (ro (runW (R49_0) (((b0.length : Int) - 0).toNat + 1) (a1, 0, b0)) [] (fun p50 => p50.2))
theorem e49 (a1 : Int) (b0 : List AV) (K : AV → List Blk → Option AV) : inlA c49 1 49 [AV.own [1], AV.int .i64 a1] [0] (canH 1 [⟨false, [.int .i64], b0⟩]) (keepB 1 K) = (ro (runW (R49_0) (((b0.length : Int) - 0).toNat + 1) (a1, 0, b0)) none (fun p50 => K (AV.int .i64 p50.1) [⟨false, [.int .i64], p50.2⟩])) := by kernel_rfl
theorem r49 (a1 : Int) (b0 : List AV) (K : AV → List Blk → Option AV) (h : q49 a1 b0 = true) : inlA c49 1 49 [AV.own [1], AV.int .i64 a1] [0] (canH 1 [⟨false, [.int .i64], b0⟩]) (keepB 1 K) = K (AV.int .i64 (v49_0 a1 b0)) [⟨false, [.int .i64], (v49_1 a1 b0)⟩] := (e49 a1 b0 K).trans ((brO (fun o : Option ((Int × (List AV))) => K (AV.int .i64 (ro o 0 (fun p50 => p50.1))) [⟨false, [.int .i64], (ro o [] (fun p50 => p50.2))⟩]) (fun p50 => (fun _ => rfl))) h)
def m49 : WModel
  | [.own g0, .int .i64 a1], [⟨false, g1, b0⟩] => bif nmEq g0 ([1]) && ctsEq g1 ([.int .i64]) then some (q49 a1 b0, AV.int .i64 (v49_0 a1 b0), [⟨false, [.int .i64], (v49_1 a1 b0)⟩]) else none
  | _, _ => none
theorem k49 : Known Try.prog 49 := ⟨Try.f49, Try.func49, by kernel_rfl, by kernel_rfl⟩
theorem meets49 : MeetsM Try.prog 49 m49 := by
  refine meetM (f := Try.f49) (l := [(0, sub [1, 0, 1, 0, 0] (body Try.f49))]) (hs := [(49, 0, [0, 1, 5]), (49, 999, [4]), (49, 1000, [1]), (49, 1001, [0, 1, 5])]) (ts := []) (ws := []) (is := []) (ls := [(49, 0, l49_0)]) (lvl := 0) mixed k49 Try.func49 (by kernel_rfl) (loops_cons ok49_0 noLoop) allT_nil allM_nil noI fun C w xs us bs r bs' hl hv hh h K => ?_
  unfold m49 at h
  split at h
  · rename_i g0 a1 g1 b0
    obtain ⟨hg, h⟩ := bif_pair h
    simp only [Bool.and_eq_true] at hg
    obtain ⟨q0, q1⟩ := hg
    obtain rfl := (nmEq_iff _ _).1 q0
    obtain rfl := ctsEq_eq _ _ q1
    obtain ⟨h1, rfl, rfl⟩ := trip_inj h
    exact r49 a1 b0 K h1
  · cases h

/-! ### 101 loop.example/g01984/laws.markPivotS -/
def F101_0 (t1 : Int) (t5 : Int) (h0 : List AV) : Out ((Int × Int × (List AV))) ((Int × (List AV))) := (bif decide (t5 < (h0.length : Int)) then (bif (decide (0 ≤ t5) && decide (t5 < (h0.length : Int))) then (bif (decide (0 ≤ t5) && decide (t5 < ((h0.set t5.toNat (AV.agg [AV.int .i64 t1, AV.int .i64 (fI (h0.getD t5.toNat AV.undef) 1)])).length : Int))) then .next (IntKind.i64.wrap (IntKind.i64.wrap (t1 + 1) + 1), IntKind.i64.wrap (t5 + 1), (h0.set t5.toNat (AV.agg [AV.int .i64 t1, AV.int .i64 (fI (h0.getD t5.toNat AV.undef) 1)])).set t5.toNat (AV.agg [AV.int .i64 (fI ((h0.set t5.toNat (AV.agg [AV.int .i64 t1, AV.int .i64 (fI (h0.getD t5.toNat AV.undef) 1)])).getD t5.toNat AV.undef) 0), AV.int .i64 (IntKind.i64.wrap (t1 + 1))]))
    else .fail)
   else .fail)
  else .stop (t1, h0))
def R101_0 : ((Int × Int × (List AV))) → Out ((Int × Int × (List AV))) ((Int × (List AV))) := fun s : Int × Int × (List AV) => F101_0 s.1 s.2.1 s.2.2
def l101_0 : LModel := fun _ _ st k => match st with
  | ⟨[(0, .own g0), (1, .int .i64 t1), (5, .int .i64 t5)], [(g1, ⟨false, g2, h0⟩)]⟩ => bif nmEq g0 ([1]) && nmEq g1 ([1]) && ctsEq g2 ([.int .i64, .int .i64]) then ro (runW (R101_0) (((h0.length : Int) - t5).toNat + 1) (t1, t5, h0)) none (fun p : Int × (List AV) => k (.exit 0) ⟨[(1, AV.int .i64 p.1)], [([1], ⟨false, [.int .i64, .int .i64], p.2⟩)]⟩) else none
  | _ => none
noncomputable def c101 : Cfg := cfg Try.prog [(101, 0, [0, 1, 5]), (101, 999, [4]), (101, 1000, [1]), (101, 1001, [0, 1, 5])] [] [] [] [(101, 0, l101_0)]
theorem s101_0 (ce : CallE) (t1 : Int) (t5 : Int) (h0 : List AV) (next : St → Option AV) (k : Kont) : stepA (codeA c101 ce [0] 101 0 (sub [1, 0, 1, 0, 0] (body Try.f101))) (normA [0] [0, 1, 5]) next ⟨[(0, AV.own [1]), (1, AV.int .i64 t1), (5, AV.int .i64 t5)], [([1], ⟨false, [.int .i64, .int .i64], h0⟩)]⟩ k = (bif decide (t5 < (h0.length : Int)) then (bif (decide (0 ≤ t5) && decide (t5 < (h0.length : Int))) then (bif (decide (0 ≤ t5) && decide (t5 < ((h0.set t5.toNat (AV.agg [AV.int .i64 t1, AV.int .i64 (fI (h0.getD t5.toNat AV.undef) 1)])).length : Int))) then next ⟨[(0, AV.own [1]), (1, AV.int .i64 (IntKind.i64.wrap (IntKind.i64.wrap (t1 + 1) + 1))), (5, AV.int .i64 (IntKind.i64.wrap (t5 + 1)))], [([1], ⟨false, [.int .i64, .int .i64], (h0.set t5.toNat (AV.agg [AV.int .i64 t1, AV.int .i64 (fI (h0.getD t5.toNat AV.undef) 1)])).set t5.toNat (AV.agg [AV.int .i64 (fI ((h0.set t5.toNat (AV.agg [AV.int .i64 t1, AV.int .i64 (fI (h0.getD t5.toNat AV.undef) 1)])).getD t5.toNat AV.undef) 0), AV.int .i64 (IntKind.i64.wrap (t1 + 1))])⟩)]⟩
    else none)
   else none)
  else k (.exit 0) ⟨[(1, AV.int .i64 t1)], [([1], ⟨false, [.int .i64, .int .i64], h0⟩)]⟩) := by kernel_rfl
theorem st101_0 (ce : CallE) (k : Kont) (s : (Int × Int × (List AV))) (next : St → Option AV) : stepA (codeA c101 ce [0] 101 0 (sub [1, 0, 1, 0, 0] (body Try.f101))) (normA [0] [0, 1, 5]) next ((fun s : Int × Int × (List AV) => ⟨[(0, AV.own [1]), (1, AV.int .i64 s.1), (5, AV.int .i64 s.2.1)], [([1], ⟨false, [.int .i64, .int .i64], s.2.2⟩)]⟩) s) k = (R101_0 s).el none (fun s => next ((fun s : Int × Int × (List AV) => ⟨[(0, AV.own [1]), (1, AV.int .i64 s.1), (5, AV.int .i64 s.2.1)], [([1], ⟨false, [.int .i64, .int .i64], s.2.2⟩)]⟩) s)) (fun p : Int × (List AV) => k (.exit 0) ⟨[(1, AV.int .i64 p.1)], [([1], ⟨false, [.int .i64, .int .i64], p.2⟩)]⟩) := (s101_0 ce s.1 s.2.1 s.2.2 next k).trans (by unfold R101_0; unfold F101_0; simp only [el_cond, el_ro, el_sum, el_fail, el_next, el_stop] <;> rfl)
theorem ok101_0 {ce : CallE} : LoopOK c101 ce [0] 101 0 (sub [1, 0, 1, 0, 0] (body Try.f101)) := by
  intro m hm st k r h
  obtain rfl : l101_0 = m := Option.some.inj hm
  unfold l101_0 at h
  split at h
  · rename_i g0 t1 t5 g1 g2 h0
    obtain ⟨hg, h⟩ := bif_some h
    simp only [Bool.and_eq_true] at hg
    obtain ⟨⟨q0, q1⟩, q2⟩ := hg
    obtain rfl := (nmEq_iff _ _).1 q0
    obtain rfl := (nmEq_iff _ _).1 q1
    obtain rfl := ctsEq_eq _ _ q2
    refine ⟨(((h0.length : Int) - t5).toNat + 1), ?_⟩
    rw [← h]
    exact loop_run (fun s : Int × Int × (List AV) => ⟨[(0, AV.own [1]), (1, AV.int .i64 s.1), (5, AV.int .i64 s.2.1)], [([1], ⟨false, [.int .i64, .int .i64], s.2.2⟩)]⟩) (fun p : Int × (List AV) => k (.exit 0) ⟨[(1, AV.int .i64 p.1)], [([1], ⟨false, [.int .i64, .int .i64], p.2⟩)]⟩) (st101_0 ce k) _ (t1, t5, h0)
  · cases h
def q101 (a1 : Int) (b0 : List AV) : Bool := (ro (runW (R101_0) (((b0.length : Int) - 0).toNat + 1) (a1, 0, b0)) false (fun p51 => true))
def v101_0 (a1 : Int) (b0 : List AV) : Int := (ro (runW (R101_0) (((b0.length : Int) - 0).toNat + 1) (a1, 0, b0)) 0 (fun p51 => p51.1))
def v101_1 (a1 : Int) (b0 : List AV) : List AV := (ro (runW (R101_0) (((b0.length : Int) - 0).toNat + 1) (a1, 0, b0)) [] (fun p51 => p51.2))
theorem e101 (a1 : Int) (b0 : List AV) (K : AV → List Blk → Option AV) : inlA c101 1 101 [AV.own [1], AV.int .i64 a1] [0] (canH 1 [⟨false, [.int .i64, .int .i64], b0⟩]) (keepB 1 K) = (ro (runW (R101_0) (((b0.length : Int) - 0).toNat + 1) (a1, 0, b0)) none (fun p51 => K (AV.int .i64 p51.1) [⟨false, [.int .i64, .int .i64], p51.2⟩])) := by kernel_rfl
theorem r101 (a1 : Int) (b0 : List AV) (K : AV → List Blk → Option AV) (h : q101 a1 b0 = true) : inlA c101 1 101 [AV.own [1], AV.int .i64 a1] [0] (canH 1 [⟨false, [.int .i64, .int .i64], b0⟩]) (keepB 1 K) = K (AV.int .i64 (v101_0 a1 b0)) [⟨false, [.int .i64, .int .i64], (v101_1 a1 b0)⟩] := (e101 a1 b0 K).trans ((brO (fun o : Option ((Int × (List AV))) => K (AV.int .i64 (ro o 0 (fun p51 => p51.1))) [⟨false, [.int .i64, .int .i64], (ro o [] (fun p51 => p51.2))⟩]) (fun p51 => (fun _ => rfl))) h)
def m101 : WModel
  | [.own g0, .int .i64 a1], [⟨false, g1, b0⟩] => bif nmEq g0 ([1]) && ctsEq g1 ([.int .i64, .int .i64]) then some (q101 a1 b0, AV.int .i64 (v101_0 a1 b0), [⟨false, [.int .i64, .int .i64], (v101_1 a1 b0)⟩]) else none
  | _, _ => none
theorem k101 : Known Try.prog 101 := ⟨Try.f101, Try.func101, by kernel_rfl, by kernel_rfl⟩
theorem meets101 : MeetsM Try.prog 101 m101 := by
  refine meetM (f := Try.f101) (l := [(0, sub [1, 0, 1, 0, 0] (body Try.f101))]) (hs := [(101, 0, [0, 1, 5]), (101, 999, [4]), (101, 1000, [1]), (101, 1001, [0, 1, 5])]) (ts := []) (ws := []) (is := []) (ls := [(101, 0, l101_0)]) (lvl := 0) mixed k101 Try.func101 (by kernel_rfl) (loops_cons ok101_0 noLoop) allT_nil allM_nil noI fun C w xs us bs r bs' hl hv hh h K => ?_
  unfold m101 at h
  split at h
  · rename_i g0 a1 g1 b0
    obtain ⟨hg, h⟩ := bif_pair h
    simp only [Bool.and_eq_true] at hg
    obtain ⟨q0, q1⟩ := hg
    obtain rfl := (nmEq_iff _ _).1 q0
    obtain rfl := ctsEq_eq _ _ q1
    obtain ⟨h1, rfl, rfl⟩ := trip_inj h
    exact r101 a1 b0 K h1
  · cases h

/-! ### 44 loop.example/g01984/laws.markCracker -/
noncomputable def c44 : Cfg := cfg Try.prog [(44, 999, [4])] [] [(49, m49), (101, m101)] [] []
def q44 (a1 : Int) (b0 : List AV) (b1 : List AV) (b2 : List AV) : Bool := (q49 a1 b0 && (q49 (v49_0 a1 b0) b1 && q101 (v49_0 (v49_0 a1 b0) b1) b2))
def v44_0 (a1 : Int) (b0 : List AV) (b1 : List AV) (b2 : List AV) : Int := (v101_0 (v49_0 (v49_0 a1 b0) b1) b2)
def v44_1 (a1 : Int) (b0 : List AV) (b1 : List AV) (b2 : List AV) : List AV := (v49_1 a1 b0)
def v44_2 (a1 : Int) (b0 : List AV) (b1 : List AV) (b2 : List AV) : List AV := (v49_1 (v49_0 a1 b0) b1)
def v44_3 (a1 : Int) (b0 : List AV) (b1 : List AV) (b2 : List AV) : List AV := (v101_1 (v49_0 (v49_0 a1 b0) b1) b2)
theorem e44 (a1 : Int) (b0 : List AV) (b1 : List AV) (b2 : List AV) (K : AV → List Blk → Option AV) : inlA c44 1 44 [AV.agg [AV.own [1], AV.own [2], AV.own [3]], AV.int .i64 a1] [0] (canH 1 [⟨false, [.int .i64], b0⟩, ⟨false, [.int .i64], b1⟩, ⟨false, [.int .i64, .int .i64], b2⟩]) (keepB 3 K) = (bif q49 a1 b0 then (bif q49 (v49_0 a1 b0) b1 then (bif q101 (v49_0 (v49_0 a1 b0) b1) b2 then K (AV.int .i64 (v101_0 (v49_0 (v49_0 a1 b0) b1) b2)) [⟨false, [.int .i64], (v49_1 a1 b0)⟩, ⟨false, [.int .i64], (v49_1 (v49_0 a1 b0) b1)⟩, ⟨false, [.int .i64, .int .i64], (v101_1 (v49_0 (v49_0 a1 b0) b1) b2)⟩]
    else none)
   else none)
  else none) := by kernel_rfl
theorem r44 (a1 : Int) (b0 : List AV) (b1 : List AV) (b2 : List AV) (K : AV → List Blk → Option AV) (h : q44 a1 b0 b1 b2 = true) : inlA c44 1 44 [AV.agg [AV.own [1], AV.own [2], AV.own [3]], AV.int .i64 a1] [0] (canH 1 [⟨false, [.int .i64], b0⟩, ⟨false, [.int .i64], b1⟩, ⟨false, [.int .i64, .int .i64], b2⟩]) (keepB 3 K) = K (AV.int .i64 (v44_0 a1 b0 b1 b2)) [⟨false, [.int .i64], (v44_1 a1 b0 b1 b2)⟩, ⟨false, [.int .i64], (v44_2 a1 b0 b1 b2)⟩, ⟨false, [.int .i64, .int .i64], (v44_3 a1 b0 b1 b2)⟩] := (e44 a1 b0 b1 b2 K).trans ((brL (brL (brL1 (fun _ => rfl)))) h)
def m44 : WModel
  | [.agg [.own g0, .own g1, .own g2], .int .i64 a1], [⟨false, g3, b0⟩, ⟨false, g4, b1⟩, ⟨false, g5, b2⟩] => bif nmEq g0 ([1]) && nmEq g1 ([2]) && nmEq g2 ([3]) && ctsEq g3 ([.int .i64]) && ctsEq g4 ([.int .i64]) && ctsEq g5 ([.int .i64, .int .i64]) then some (q44 a1 b0 b1 b2, AV.int .i64 (v44_0 a1 b0 b1 b2), [⟨false, [.int .i64], (v44_1 a1 b0 b1 b2)⟩, ⟨false, [.int .i64], (v44_2 a1 b0 b1 b2)⟩, ⟨false, [.int .i64, .int .i64], (v44_3 a1 b0 b1 b2)⟩]) else none
  | _, _ => none
theorem k44 : Known Try.prog 44 := ⟨Try.f44, Try.func44, by kernel_rfl, by kernel_rfl⟩
theorem meets44 : MeetsM Try.prog 44 m44 := by
  refine meetM (f := Try.f44) (l := []) (hs := [(44, 999, [4])]) (ts := []) (ws := [(49, m49), (101, m101)]) (is := []) (ls := []) (lvl := 0) mixed k44 Try.func44 (by kernel_rfl) noLoop allT_nil (allM_cons meets49 (allM_cons meets101 allM_nil)) noI fun C w xs us bs r bs' hl hv hh h K => ?_
  unfold m44 at h
  split at h
  · rename_i g0 g1 g2 a1 g3 b0 g4 b1 g5 b2
    obtain ⟨hg, h⟩ := bif_pair h
    simp only [Bool.and_eq_true] at hg
    obtain ⟨⟨⟨⟨⟨q0, q1⟩, q2⟩, q3⟩, q4⟩, q5⟩ := hg
    obtain rfl := (nmEq_iff _ _).1 q0
    obtain rfl := (nmEq_iff _ _).1 q1
    obtain rfl := (nmEq_iff _ _).1 q2
    obtain rfl := ctsEq_eq _ _ q3
    obtain rfl := ctsEq_eq _ _ q4
    obtain rfl := ctsEq_eq _ _ q5
    obtain ⟨h1, rfl, rfl⟩ := trip_inj h
    exact r44 a1 b0 b1 b2 K h1
  · cases h
end Go.Proofs.Ytepfklcdpkpepaa
