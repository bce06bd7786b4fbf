/- insert, both -/
import Derived.Test.YtepfklcdpkpepaaIVr
namespace Go.Proofs.Ytepfklcdpkpepaa
open Go Go.Proofs.VE
set_option linter.unusedVariables false
set_option linter.unusedSimpArgs false

/-- InsertValue, both. -/
theorem same26 (s : List AV) (n : Int) (v r p : List AV) (x : Int) (h0 : s.length ≤ 1048576) (h1 : v.length ≤ 1048576) (h2 : r.length ≤ 1048576) (h3 : p.length ≤ 1048576) :
    q26 s n v r p x = true ∧ q27 s n v r p x = true ∧ v27_0 s n v r p x = v26_0 s n v r p x ∧ v27_1 s n v r p x = v26_1 s n v r p x ∧ v27_2 s n v r p x = v26_2 s n v r p x ∧ v27_3 s n v r p x = v26_3 s n v r p x ∧ v27_4 s n v r p x = v26_4 s n v r p x ∧ v27_5 s n v r p x = v26_5 s n v r p x ∧ v27_6 s n v r p x = v26_6 s n v r p x ∧
      (v26_0 s n v r p x).length ≤ 1048576 ∧ (v26_2 s n v r p x).length ≤ 1048576 ∧ (v26_3 s n v r p x).length ≤ 1048576 ∧ (v26_4 s n v r p x).length ≤ 1048576 := by
  obtain ⟨a, b, c, d, e, f⟩ := P74 s n v r p h0 h1 h2 h3
  obtain ⟨a', b', c', d', e', f'⟩ := P75 s n v r p h0 h1 h2 h3
  unfold q26 q27 v26_0 v26_1 v26_2 v26_3 v26_4 v26_5 v26_6 v27_0 v27_1 v27_2 v27_3 v27_4 v27_5 v27_6
  rw [a, b, c, d, e, f, a', b', c', d', e', f', (P16 s n v r p h0 h1 h2 h3).1, (P16 s n v r p h0 h1 h2 h3).2, (P18 s n v r p h0 h1 h2 h3).1, (P18 s n v r p h0 h1 h2 h3).2]
  have go : ∀ row : Int, q82 v r p x row = true ∧ q83 v r p x row = true ∧ v83_0 v r p x row = v82_0 v r p x row ∧ v83_1 v r p x row = v82_1 v r p x row ∧ v83_2 v r p x row = v82_2 v r p x row ∧ v83_4 v r p x row = v82_4 v r p x row ∧
      (v82_4 v r p x row = true → (v82_0 v r p x row).length ≤ 1048576 ∧ (v82_1 v r p x row).length ≤ 1048576 ∧ (v82_2 v r p x row).length ≤ 1048576 ∧ v.length < 64) := fun row => same82 v r p x row h1 h2 h3
  have st : ∀ y : AV, decide ((s.length + [y].length) * 32 ≤ 140737488355328) = true ∧ decide (s.length + [y].length ≤ 140737488355328) = true := fun y => ⟨decide_eq_true (by simp only [List.length_singleton]; omega), decide_eq_true (by simp only [List.length_singleton]; omega)⟩
  have hsv : isS s n v r p = true → (s.length : Int) = v.length := fun h => by
    unfold isS at h
    simp only [Bool.and_eq_true, decide_eq_true_eq] at h
    exact h.2.1
  cases hS : isS s n v r p with
  | false => exact ⟨rfl, rfl, rfl, rfl, rfl, rfl, rfl, rfl, rfl, by simp only [Bool.not_false, cond_true]; omega, h1, h2, h3⟩
  | true =>
    cases decide (n ≥ 1000) with
    | true => exact ⟨rfl, rfl, rfl, rfl, rfl, rfl, rfl, rfl, rfl, by simp only [Bool.not_true, cond_false, cond_true]; omega, h1, h2, h3⟩
    | false =>
      by_cases hl : (s.length : Int) > 0
      · have w1 : IntKind.i64.wrap ((s.length : Int) - 1) = s.length - 1 := wrap_in (by omega) (by omega)
        have c1 : decide (0 ≤ (s.length : Int) - 1) = true := decide_eq_true (by omega)
        have c2 : decide ((s.length : Int) - 1 < s.length) = true := decide_eq_true (by omega)
        rw [decide_eq_true hl, w1, c1, c2]
        generalize IntKind.i64.wrap (fI (s.getD ((s.length : Int) - 1).toNat AV.undef) 1 + 1) = row
        obtain ⟨g1, g2, g3, g4, g5, g6, g7⟩ := go row
        rw [g1, g2, g3, g4, g5, g6]
        simp only [(st _).1, (st _).2]
        cases hv : v82_4 v r p x row with
        | false => exact ⟨by first | trivial | rfl, by first | trivial | rfl, by first | trivial | rfl, by first | trivial | rfl, by first | trivial | rfl, by first | trivial | rfl, by first | trivial | rfl, by first | trivial | rfl, by first | trivial | rfl, by simp only [Bool.not_true, Bool.not_false, cond_false, cond_true]; omega, h1, h2, h3⟩
        | true =>
          obtain ⟨k1, k2, k3, k4⟩ := g7 hv
          have hse := hsv hS
          exact ⟨by first | trivial | rfl, by first | trivial | rfl, by first | trivial | rfl, by first | trivial | rfl, by first | trivial | rfl, by first | trivial | rfl, by first | trivial | rfl, by first | trivial | rfl, by first | trivial | rfl, by simp only [Bool.not_true, cond_false, cond_true, List.length_append, List.length_singleton]; omega, k1, k2, k3⟩
      · rw [decide_eq_false hl]
        obtain ⟨g1, g2, g3, g4, g5, g6, g7⟩ := go 0
        rw [g1, g2, g3, g4, g5, g6]
        simp only [(st _).1, (st _).2]
        cases hv : v82_4 v r p x 0 with
        | false => exact ⟨by first | trivial | rfl, by first | trivial | rfl, by first | trivial | rfl, by first | trivial | rfl, by first | trivial | rfl, by first | trivial | rfl, by first | trivial | rfl, by first | trivial | rfl, by first | trivial | rfl, by simp only [Bool.not_true, Bool.not_false, cond_false, cond_true]; omega, h1, h2, h3⟩
        | true =>
          obtain ⟨k1, k2, k3, k4⟩ := g7 hv
          have hse := hsv hS
          exact ⟨by first | trivial | rfl, by first | trivial | rfl, by first | trivial | rfl, by first | trivial | rfl, by first | trivial | rfl, by first | trivial | rfl, by first | trivial | rfl, by first | trivial | rfl, by first | trivial | rfl, by simp only [Bool.not_true, cond_false, cond_true, List.length_append, List.length_singleton]; omega, k1, k2, k3⟩

end Go.Proofs.Ytepfklcdpkpepaa
