/- the law -/
import Derived.Test.YtepfklcdpkpepaaJRk
namespace Go.Proofs.Ytepfklcdpkpepaa
open Go Go.Proofs.VE
set_option linter.unusedVariables false
set_option linter.unusedSimpArgs false
theorem raw11_true (xs es : List AV) (a1 : xs.length ≤ 9223372036854775807) (a2 : es.length ≤ 9223372036854775807) : raw11 xs es = some (.bool true) := by
  unfold raw11
  by_cases c1 : (xs.length : Int) > 1048576
  · rw [decide_eq_true c1]
    rfl
  rw [decide_eq_false c1, P51 a2 (by omega) (by omega)]
  by_cases c2 : (1048576 : Int) < es.length
  · rw [if_pos c2]
    rfl
  rw [if_neg c2, decide_eq_false (by omega : ¬ (1048576 : Int) - (es.length : Int) < 0)]
  obtain ⟨t1, t2⟩ := P30 xs (by omega)
  obtain ⟨u1, u2⟩ := P53 es (by omega)
  have l1 : (xs.map cp30).length ≤ 1048576 := by rw [List.length_map]; omega
  have l2 : (es.map cp53).length ≤ 1048576 := by rw [List.length_map]; omega
  generalize xs.map cp30 = xs' at *
  generalize es.map cp53 = es' at *
  obtain ⟨⟨x1, x2⟩, ⟨x3, x4, x5, x6, x7, x8⟩, g0, g1, g2⟩ := same52 xs' es' l1 l2
  generalize hd0 : v52_0 xs' es' = d0 at *
  generalize hd1 : v52_1 xs' es' = d1 at *
  generalize hd2 : v52_2 xs' es' = d2 at *
  generalize hd3 : v52_3 xs' es' = d3 at *
  generalize hd4 : v52_4 xs' es' = d4 at *
  generalize hd5 : v52_5 xs' es' = d5 at *
  obtain ⟨z1, z2⟩ := P40s d0 d1 d2 g0 g1 g2
  obtain ⟨i1, i2⟩ := P34s xs' l1
  obtain ⟨j1, j2⟩ := P43s es' l2
  obtain ⟨k1, k4, k5⟩ := mI xs' 1 l1 (by omega) (by omega)
  obtain ⟨k1', k4', k5'⟩ := mE es' (v49_0 1 xs') l2 (by omega) (by omega)
  obtain ⟨m1, m2, m3, m4, m5⟩ := mhC d0 d1 d2 1 g0 g1 g2 (by omega) (by omega)
  have o1 : decide (v45_0 (v49_0 1 xs') es' < 0) = false := decide_eq_false (by omega)
  have o2 : decide (v44_0 1 d0 d1 d2 < 0) = false := decide_eq_false (by omega)
  simp only [t1, t2, u1, u2, x1, x2, x3, x4, x5, x6, x7, x8, hd0, hd1, hd2, hd3, hd4, hd5, z1, z2, i1, i2, j1, j2, k1, k1', m1, m2, m3, o1, o2, beq_self_eq_true, decide_true, Bool.not_true, cond_false, cond_true]
theorem law11 {x0 x1 : AV} (t0 : TA Try.prog 23 x0) (t1 : TA Try.prog 75 x1) : m11 [x0, x1] = some (true, .bool true) := by
  obtain ⟨xs, rfl, a1, _⟩ := tw_sl (ta_one (ct := .sl [.int .i64]) t0 (by kernel_rfl) (by kernel_rfl))
  obtain ⟨es, rfl, a2, _⟩ := tw_sl (ta_one (ct := .sl [.int .i64, .int .i64, .int .i64, .int .i64]) t1 (by kernel_rfl) (by kernel_rfl))
  show (raw11 xs es).map (fun r => (true, r)) = _
  rw [raw11_true xs es a1 a2]
  rfl

end Go.Proofs.Ytepfklcdpkpepaa
