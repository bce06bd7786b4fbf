/- crashes -/
import Derived.Test.YtmlhhemflhiinaaRWk
namespace Go.Proofs.Ytmlhhemflhiinaa
open Go Go.Proofs.VE
set_option linter.unusedVariables false
set_option linter.unusedSimpArgs false
/-- CrashAfter, both. -/
theorem same16 (xs es : List AV) (n : Int) (h1 : xs.length ≤ 1048576) (h2 : es.length ≤ 1048576) :
    (q16 xs es n = true ∧ q20 xs es n = true) ∧ (v20_0 xs es n = v16_0 xs es n ∧ v20_1 xs es n = v16_1 xs es n ∧ v20_2 xs es n = v16_2 xs es n ∧ v20_3 xs es n = v16_3 xs es n) ∧
      ((v16_0 xs es n).length ≤ 1048576 ∧ (v16_1 xs es n).length ≤ 1048576 ∧ (v16_2 xs es n).length ≤ 1048576) := by
  unfold q16 q20 v16_0 v16_1 v16_2 v16_3 v20_0 v20_1 v20_2 v20_3
  rw [v28]
  by_cases c1 : 0 ≤ n
  · by_cases c2 : n ≤ es.length
    · have d1 : decide (n < 0) = false := decide_eq_false (by omega)
      have d2 : decide (n > (es.length : Int)) = false := decide_eq_false (by omega)
      have d3 : decide (0 ≤ n) = true := decide_eq_true c1
      have d4 : decide (n ≤ (es.length : Int)) = true := decide_eq_true c2
      have d5 : decide ((0 : Int) ≤ 0) = true := rfl
      obtain ⟨⟨x1, x2⟩, ⟨x3, x4, x5, x6, x7, x8⟩, g0, g1, g2⟩ := same29 xs ((es.take (Int.toNat n)).drop (Int.toNat 0)) h1 (by rw [List.length_drop, List.length_take]; omega)
      rw [d1, d2, d3, d4]
      simp only [Bool.and_self, Bool.not_true, cond_false, Bool.true_and, decide_true, d5]
      exact ⟨⟨x1, x2⟩, ⟨x3, x4, x5, x8⟩, g0, g1, g2⟩
    · have d1 : decide (n < 0) = false := decide_eq_false (by omega)
      have d2 : decide (n > (es.length : Int)) = true := decide_eq_true (by omega)
      have d3 : decide (0 ≤ n) = true := decide_eq_true c1
      have d4 : decide (n ≤ (es.length : Int)) = false := decide_eq_false c2
      rw [d1, d2, d3, d4]
      simp only [Bool.and_false, Bool.not_false, cond_true, cond_false]
      exact ⟨⟨trivial, trivial⟩, ⟨by first | trivial | rfl, by first | trivial | rfl, by first | trivial | rfl, by first | trivial | rfl⟩, by simp, by simp, by simp⟩
  · have d1 : decide (n < 0) = true := decide_eq_true (by omega)
    have d3 : decide (0 ≤ n) = false := decide_eq_false c1
    rw [d1, d3]
    simp only [Bool.false_and, Bool.not_false, cond_true, cond_false]
    exact ⟨⟨trivial, trivial⟩, ⟨by first | trivial | rfl, by first | trivial | rfl, by first | trivial | rfl, by first | trivial | rfl⟩, by simp, by simp, by simp⟩
theorem ok55 (xs es : List AV) (n : Int) (h1 : xs.length ≤ 1048576) (h2 : es.length ≤ 1048576) (h : v16_3 xs es n = true) : Col (v16_0 xs es n) (v16_1 xs es n) (v16_2 xs es n) ∧ N2 (v16_2 xs es n) := by
  unfold v16_3 at h
  unfold v16_0 v16_1 v16_2
  cases hc : v28_0 n 0 (es.length : Int) with
  | false => rw [hc] at h; cases h
  | true =>
    rw [hc] at h
    simp only [Bool.not_true, cond_false] at h ⊢
    exact (same52x xs ((es.take (Int.toNat n)).drop (Int.toNat 0)) h1 (by rw [List.length_drop, List.length_take]; omega)).2.2.2 h

end Go.Proofs.Ytmlhhemflhiinaa
