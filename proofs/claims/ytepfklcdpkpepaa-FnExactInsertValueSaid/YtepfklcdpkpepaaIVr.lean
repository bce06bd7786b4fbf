/- ripple insert, both -/
import Derived.Test.YtepfklcdpkpepaaIVi
namespace Go.Proofs.Ytepfklcdpkpepaa
open Go Go.Proofs.VE
set_option linter.unusedVariables false
set_option linter.unusedSimpArgs false

theorem item_eq (a b : Int) : v133_0 a b = v132_0 a b := by
  unfold v133_0 v132_0
  rw [v68, v68]
  have h1 : decide (a ≥ -999) = decide (-999 ≤ a) := rfl
  have h2 : decide (b ≥ 0) = decide (0 ≤ b) := rfl
  rw [h1, h2]
  cases decide (-999 ≤ a) <;> cases decide (a ≤ 999) <;> cases decide (0 ≤ b) <;> cases decide (b ≤ 999) <;> rfl
theorem set_same {V V' : List AV} {n : Nat} {i : Int} {c : AV} (h1 : V.length = n) (h2 : V'.length = n) (h0 : 0 ≤ i) (hi : i < n) (h : ∀ j : Nat, (j : Int) ≠ i → V.getD j .undef = V'.getD j .undef) : V.set i.toNat c = V'.set i.toNat c := by
  apply List.ext_getElem
  · rw [List.length_set, List.length_set, h1, h2]
  · intro j g1 g2
    rw [List.length_set] at g1 g2
    by_cases e : i.toNat = j
    · subst e
      rw [List.getElem_set_self, List.getElem_set_self]
    · rw [List.getElem_set_ne e, List.getElem_set_ne e]
      have := h j (by omega)
      rw [List.getD_eq_getElem?_getD, List.getD_eq_getElem?_getD, List.getElem?_eq_getElem g1, List.getElem?_eq_getElem g2] at this
      exact this
theorem ins_init (vs rs ps : List AV) (x row : Int) (hc : isC vs rs ps = true) (h : vs.length ≤ 1048576) (h3 : ps.length ≤ 1048576) : InsI vs.length ps.length ((vs.length : Int), 0, (ps.length : Int) - 1, vs ++ [AV.int .i64 0], rs ++ [AV.int .i64 0], ps) ((vs.length : Int), 0, (ps.length : Int) - 1, vs ++ [AV.int .i64 x], rs ++ [AV.int .i64 row], ps) := by
  have hl := isC_len hc
  have app : ∀ (X : List AV) (a b : AV), (X.length : Int) = vs.length → ∀ j : Nat, (j : Int) ≠ vs.length → (X ++ [a]).getD j .undef = (X ++ [b]).getD j .undef := fun X a b hX j hj => by
    simp only [List.getD_eq_getElem?_getD]
    by_cases e : j < X.length
    · rw [List.getElem?_append_left e, List.getElem?_append_left e]
    · rw [List.getElem?_eq_none (by simp; omega), List.getElem?_eq_none (by simp; omega)]
  exact ⟨rfl, rfl, rfl, rfl, by simp, by simp, by simp only [List.length_append, List.length_singleton]; omega, by simp only [List.length_append, List.length_singleton]; omega, rfl, by simp only; omega, by simp only; omega, by simp only; omega, by simp only; omega, by simp only; omega, by simp only; omega, fun j hj => isC_at hc j (by simp only at hj; omega), app vs _ _ rfl, app rs _ _ hl⟩
/-- RippleInsert, both. -/
theorem same82 (vs rs ps : List AV) (x row : Int) (h1 : vs.length ≤ 1048576) (h2 : rs.length ≤ 1048576) (h3 : ps.length ≤ 1048576) :
    q82 vs rs ps x row = true ∧ q83 vs rs ps x row = true ∧ v83_0 vs rs ps x row = v82_0 vs rs ps x row ∧ v83_1 vs rs ps x row = v82_1 vs rs ps x row ∧ v83_2 vs rs ps x row = v82_2 vs rs ps x row ∧ v83_4 vs rs ps x row = v82_4 vs rs ps x row ∧
      (v82_4 vs rs ps x row = true → (v82_0 vs rs ps x row).length ≤ 1048576 ∧ (v82_1 vs rs ps x row).length ≤ 1048576 ∧ (v82_2 vs rs ps x row).length ≤ 1048576 ∧ vs.length < 64) := by
  obtain ⟨a1, a2, a3, a4⟩ := P127 vs rs ps h1 h2 h3
  obtain ⟨b1, b2, b3, b4⟩ := P129 vs rs ps h1 h2 h3
  unfold q82 q83 v82_0 v82_1 v82_2 v82_4 v83_0 v83_1 v83_2 v83_4
  rw [a1, a2, a3, a4, b1, b2, b3, b4, (P67 vs rs ps h1 h2 h3).1, (P67 vs rs ps h1 h2 h3).2, (P71 vs rs ps h1 h2 h3).1, (P71 vs rs ps h1 h2 h3).2, item_eq, (P69 vs rs ps row h2).1, (P69 vs rs ps row h2).2, (P72 vs rs ps row h2).1, (P72 vs rs ps row h2).2]
  cases hc : isC vs rs ps with
  | false => exact ⟨rfl, rfl, rfl, rfl, rfl, rfl, fun h => by cases h⟩
  | true =>
    cases v132_0 x row with
    | false => exact ⟨rfl, rfl, rfl, rfl, rfl, rfl, fun h => by cases h⟩
    | true =>
      cases decide (v90_0 rs row ≥ 0) with
      | true => exact ⟨rfl, rfl, rfl, rfl, rfl, rfl, fun h => by cases h⟩
      | false =>
        by_cases hl : (vs.length : Int) ≥ 64
        · rw [decide_eq_true hl]
          exact ⟨rfl, rfl, rfl, rfl, rfl, rfl, fun h => by cases h⟩
        · rw [decide_eq_false hl]
          have hle := isC_len hc
          have w1 : IntKind.i64.wrap ((ps.length : Int) - 1) = ps.length - 1 := wrap_in (by omega) (by omega)
          obtain ⟨r, r', g1, g2, s, s', hI, rfl, rfl⟩ := runIns x row vs.length ps.length h1 h3 _ _ (ins_init vs rs ps x row hc h1 h3) (((ps.length : Int) - 1 - 0 + 1).toNat + 1) (by simp only; omega)
          rw [w1, g1, g2]
          obtain ⟨e1, e2, e3, e4, lv, lv', lr, lr', lp, h0, hh, k0, k1, m0, m1, hat, av, ar⟩ := hI
          have c1 : decide ((vs.length + [AV.int .i64 0].length) * 8 ≤ 140737488355328) = true := decide_eq_true (by simp only [List.length_singleton]; omega)
          have c2 : decide (vs.length + [AV.int .i64 0].length ≤ 140737488355328) = true := decide_eq_true (by simp only [List.length_singleton]; omega)
          have c3 : decide ((rs.length + [AV.int .i64 0].length) * 8 ≤ 140737488355328) = true := decide_eq_true (by simp only [List.length_singleton]; omega)
          have c4 : decide (rs.length + [AV.int .i64 0].length ≤ 140737488355328) = true := decide_eq_true (by simp only [List.length_singleton]; omega)
          have c5 : decide ((vs.length + [AV.int .i64 x].length) * 8 ≤ 140737488355328) = true := c1
          have c6 : decide (vs.length + [AV.int .i64 x].length ≤ 140737488355328) = true := c2
          have c7 : decide ((rs.length + [AV.int .i64 row].length) * 8 ≤ 140737488355328) = true := c3
          have c8 : decide (rs.length + [AV.int .i64 row].length ≤ 140737488355328) = true := c4
          have d1 : decide (0 ≤ s.1) = true := decide_eq_true h0
          have d2 : decide (s.1 < (s.2.2.2.1.length : Int)) = true := decide_eq_true (by omega)
          have d3 : decide (s.1 < (s.2.2.2.2.1.length : Int)) = true := decide_eq_true (by omega)
          have d2' : decide (s.1 < (s'.2.2.2.1.length : Int)) = true := decide_eq_true (by omega)
          have d3' : decide (s.1 < (s'.2.2.2.2.1.length : Int)) = true := decide_eq_true (by omega)
          have sv := set_same (c := AV.agg [AV.int .i64 x]) lv lv' h0 (by omega) av
          have sr := set_same (c := AV.agg [AV.int .i64 row]) lr lr' h0 (by omega) ar
          simp only [ro, c1, c2, c3, c4, c5, c6, c7, c8, e1, e4, d1, d2, d3, d2', d3', sv, sr, Bool.not_true, cond_false, cond_true, Bool.and_self, List.length_set, lv', lr', lp, true_and]
          refine ⟨?_, fun _ => ⟨by omega, by omega, h3, by omega⟩⟩
          have d4 : decide (s.1 < ((vs.length + 1 : Nat) : Int)) = true := decide_eq_true (by omega)
          rw [d4]
          rfl

end Go.Proofs.Ytepfklcdpkpepaa
