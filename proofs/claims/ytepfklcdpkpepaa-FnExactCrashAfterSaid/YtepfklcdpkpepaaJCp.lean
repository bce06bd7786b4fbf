/- the law -/
import Derived.Test.YtepfklcdpkpepaaJCk
namespace Go.Proofs.Ytepfklcdpkpepaa
open Go Go.Proofs.VE
set_option linter.unusedVariables false
set_option linter.unusedSimpArgs false
/-- CrashAfter, both. -/
theorem same55 (xs es : List AV) (n : Int) (h1 : xs.length ≤ 1048576) (h2 : es.length ≤ 1048576) :
    (q55 xs es n = true ∧ q56 xs es n = true) ∧ (v56_0 xs es n = v55_0 xs es n ∧ v56_1 xs es n = v55_1 xs es n ∧ v56_2 xs es n = v55_2 xs es n ∧ v56_3 xs es n = v55_3 xs es n) ∧
      ((v55_0 xs es n).length ≤ 1048576 ∧ (v55_1 xs es n).length ≤ 1048576 ∧ (v55_2 xs es n).length ≤ 1048576) := by
  unfold q55 q56 v55_0 v55_1 v55_2 v55_3 v56_0 v56_1 v56_2 v56_3
  rw [v68]
  by_cases c1 : 0 ≤ n
  · by_cases c2 : n ≤ es.length
    · have d1 : decide (n < 0) = false := decide_eq_false (by omega)
      have d2 : decide (n > (es.length : Int)) = false := decide_eq_false (by omega)
      have d3 : decide (0 ≤ n) = true := decide_eq_true c1
      have d4 : decide (n ≤ (es.length : Int)) = true := decide_eq_true c2
      have d5 : decide ((0 : Int) ≤ 0) = true := rfl
      obtain ⟨⟨x1, x2⟩, ⟨x3, x4, x5, x6, x7, x8⟩, g0, g1, g2⟩ := same52 xs ((es.take (Int.toNat n)).drop (Int.toNat 0)) h1 (by rw [List.length_drop, List.length_take]; omega)
      rw [d1, d2, d3, d4]
      simp only [Bool.and_self, Bool.not_true, cond_false, Bool.true_and, decide_true, d5]
      exact ⟨⟨x1, x2⟩, ⟨x3, x4, x5, x8⟩, g0, g1, g2⟩
    · have d1 : decide (n < 0) = false := decide_eq_false (by omega)
      have d2 : decide (n > (es.length : Int)) = true := decide_eq_true (by omega)
      have d3 : decide (0 ≤ n) = true := decide_eq_true c1
      have d4 : decide (n ≤ (es.length : Int)) = false := decide_eq_false c2
      rw [d1, d2, d3, d4]
      simp only [Bool.and_false, Bool.not_false, cond_true, cond_false]
      exact ⟨⟨trivial, trivial⟩, ⟨by first | trivial | rfl, by first | trivial | rfl, by first | trivial | rfl, by first | trivial | rfl⟩, by simp, by simp, by simp⟩
  · have d1 : decide (n < 0) = true := decide_eq_true (by omega)
    have d3 : decide (0 ≤ n) = false := decide_eq_false c1
    rw [d1, d3]
    simp only [Bool.false_and, Bool.not_false, cond_true, cond_false]
    exact ⟨⟨trivial, trivial⟩, ⟨by first | trivial | rfl, by first | trivial | rfl, by first | trivial | rfl, by first | trivial | rfl⟩, by simp, by simp, by simp⟩
theorem raw12_true (xs es : List AV) (n : Int) (a1 : xs.length ≤ 9223372036854775807) (a2 : es.length ≤ 9223372036854775807) : raw12 xs es n = some (.bool true) := by
  unfold raw12
  by_cases c1 : (xs.length : Int) > 1048576
  · rw [decide_eq_true c1]
    rfl
  rw [decide_eq_false c1, P51 a2 (by omega) (by omega)]
  by_cases c2 : (1048576 : Int) < es.length
  · rw [if_pos c2]
    rfl
  rw [if_neg c2, decide_eq_false (by omega : ¬ (1048576 : Int) - (es.length : Int) < 0)]
  obtain ⟨t1, t2⟩ := P30 xs (by omega)
  obtain ⟨u1, u2⟩ := P53 es (by omega)
  have l1 : (xs.map cp30).length ≤ 1048576 := by rw [List.length_map]; omega
  have l2 : (es.map cp53).length ≤ 1048576 := by rw [List.length_map]; omega
  generalize xs.map cp30 = xs' at *
  generalize es.map cp53 = es' at *
  obtain ⟨⟨x1, x2⟩, ⟨x3, x4, x5, x6⟩, g0, g1, g2⟩ := same55 xs' es' n l1 l2
  generalize hd0 : v55_0 xs' es' n = d0 at *
  generalize hd1 : v55_1 xs' es' n = d1 at *
  generalize hd2 : v55_2 xs' es' n = d2 at *
  generalize hd3 : v55_3 xs' es' n = d3 at *
  obtain ⟨z1, z2⟩ := P40s d0 d1 d2 g0 g1 g2
  obtain ⟨i1, i2⟩ := P34s xs' l1
  obtain ⟨j1, j2⟩ := P43s es' l2
  obtain ⟨k1, k4, k5⟩ := mI xs' 1 l1 (by omega) (by omega)
  obtain ⟨k1', k4', k5'⟩ := mE es' (v49_0 1 xs') l2 (by omega) (by omega)
  obtain ⟨m1, m2, m3, m4, m5⟩ := mhC d0 d1 d2 1 g0 g1 g2 (by omega) (by omega)
  have o1 : decide (v45_0 (v49_0 1 xs') es' < 0) = false := decide_eq_false (by omega)
  have o2 : decide (v44_0 1 d0 d1 d2 < 0) = false := decide_eq_false (by omega)
  simp only [t1, t2, u1, u2, x1, x2, x3, x4, x5, x6, hd0, hd1, hd2, hd3, z1, z2, i1, i2, j1, j2, k1, k1', m1, m2, m3, o1, o2, beq_self_eq_true, decide_true, Bool.not_true, cond_false, cond_true]
theorem law12 {x0 x1 x2 : AV} (t0 : TA Try.prog 23 x0) (t1 : TA Try.prog 75 x1) (t2 : TA Try.prog 3 x2) : m12 [x0, x1, x2] = some (true, .bool true) := by
  obtain ⟨xs, rfl, a1, _⟩ := tw_sl (ta_one (ct := .sl [.int .i64]) t0 (by kernel_rfl) (by kernel_rfl))
  obtain ⟨es, rfl, a2, _⟩ := tw_sl (ta_one (ct := .sl [.int .i64, .int .i64, .int .i64, .int .i64]) t1 (by kernel_rfl) (by kernel_rfl))
  obtain ⟨n, rfl, _⟩ := tw_int (ta_one (ct := .int .i64) t2 (by kernel_rfl) (by kernel_rfl))
  show (raw12 xs es n).map (fun r => (true, r)) = _
  rw [raw12_true xs es n a1 a2]
  rfl

end Go.Proofs.Ytepfklcdpkpepaa
