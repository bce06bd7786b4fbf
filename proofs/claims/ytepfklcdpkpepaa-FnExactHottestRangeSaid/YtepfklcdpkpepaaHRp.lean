/- the law: HottestRange -/
import Derived.Test.YtepfklcdpkpepaaHRk
namespace Go.Proofs.Ytepfklcdpkpepaa
open Go Go.Proofs.VE
set_option linter.unusedVariables false
set_option linter.unusedSimpArgs false
theorem raw7_true (xs rs : List AV) (a1 : xs.length ≤ 9223372036854775807) (a2 : rs.length ≤ 9223372036854775807) : raw7 xs rs = some (.bool true) := by
  unfold raw7
  by_cases c1 : (xs.length : Int) > 1048576
  · rw [decide_eq_true c1]
    rfl
  rw [decide_eq_false c1, P28 a2 (by omega) (by omega)]
  by_cases c2 : (1048576 : Int) < rs.length
  · rw [if_pos c2]
    rfl
  rw [if_neg c2, decide_eq_false (by omega : ¬ (1048576 : Int) - (rs.length : Int) < 0)]
  obtain ⟨t1, t2⟩ := P30 xs (by omega)
  obtain ⟨u1, u2⟩ := P31 rs (by omega)
  have l1 : (xs.map cp30).length ≤ 1048576 := by rw [List.length_map]; omega
  have l2 : (rs.map cp31).length ≤ 1048576 := by rw [List.length_map]; omega
  generalize xs.map cp30 = xs' at *
  generalize rs.map cp31 = rs' at *
  obtain ⟨x1, x2, x3, x4, x5⟩ := same29 xs' rs' l1 l2
  obtain ⟨i1, i2⟩ := P34 xs' l1
  obtain ⟨j1, j2⟩ := P35 rs' l2
  have y : ∀ a b : Int, v33_0 a b a b = true := fun a b => by unfold v33_0; simp
  simp only [t1, t2, u1, u2, x1, x2, x3, x4, x5, i1, i2, j1, j2, y, decide_true, Bool.not_true, cond_false, cond_true]
theorem law7 {x0 x1 : AV} (t0 : TA Try.prog 23 x0) (t1 : TA Try.prog 48 x1) : m7 [x0, x1] = some (true, .bool true) := by
  obtain ⟨xs, rfl, a1, _⟩ := tw_sl (ta_one (ct := .sl [.int .i64]) t0 (by kernel_rfl) (by kernel_rfl))
  obtain ⟨rs, rfl, a2, _⟩ := tw_sl (ta_one (ct := .sl [.int .i64, .int .i64]) t1 (by kernel_rfl) (by kernel_rfl))
  show (raw7 xs rs).map (fun r => (true, r)) = _
  rw [raw7_true xs rs a1 a2]
  rfl

end Go.Proofs.Ytepfklcdpkpepaa
