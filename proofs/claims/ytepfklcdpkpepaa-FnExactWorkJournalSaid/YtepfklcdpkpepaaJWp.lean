/- the law -/
import Derived.Test.YtepfklcdpkpepaaJWj
namespace Go.Proofs.Ytepfklcdpkpepaa
open Go Go.Proofs.VE
set_option linter.unusedVariables false
set_option linter.unusedSimpArgs false

theorem raw10_true (xs ts : List AV) (a1 : xs.length ≤ 9223372036854775807) (a2 : ts.length ≤ 9223372036854775807) : raw10 xs ts = some (.bool true) := by
  unfold raw10
  by_cases c1 : (xs.length : Int) > 1048576
  · rw [decide_eq_true c1]
    rfl
  by_cases c2 : (ts.length : Int) > 1048576
  · rw [decide_eq_false c1, decide_eq_true c2]
    rfl
  rw [decide_eq_false c1, decide_eq_false c2]
  obtain ⟨t1, t2⟩ := P30 xs (by omega)
  obtain ⟨u1, u2⟩ := P30 ts (by omega)
  have l1 : (xs.map cp30).length ≤ 1048576 := by rw [List.length_map]; omega
  have l2 : (ts.map cp30).length ≤ 1048576 := by rw [List.length_map]; omega
  generalize xs.map cp30 = xs' at *
  generalize ts.map cp30 = ts' at *
  obtain ⟨x1, x2, x3, x4, x5, x6, x7, g0, g1, g2, g3⟩ := same47 xs' ts' l1 l2
  generalize hd0 : v47_0 xs' ts' = d0 at *
  generalize hd1 : v47_1 xs' ts' = d1 at *
  generalize hd2 : v47_2 xs' ts' = d2 at *
  generalize hd3 : v47_3 xs' ts' = d3 at *
  generalize hd4 : v47_4 xs' ts' = d4 at *
  obtain ⟨y1, y2⟩ := P43s d3 g3
  obtain ⟨z1, z2⟩ := P40s d0 d1 d2 g0 g1 g2
  obtain ⟨i1, i2⟩ := P34s xs' l1
  obtain ⟨j1, j2⟩ := P34s ts' l2
  obtain ⟨k1, _, _, k4, k5⟩ := mhI xs' 1 l1 (by omega) (by omega)
  obtain ⟨k1', _, _, k4', k5'⟩ := mhI ts' (v49_0 1 xs') l2 (by omega) (by omega)
  obtain ⟨m1, m2, m3, m4, m5⟩ := mhC d0 d1 d2 1 g0 g1 g2 (by omega) (by omega)
  obtain ⟨n1, n2, n3, n4, n5⟩ := mhE d3 (v44_0 1 d0 d1 d2) g3 (by omega) (by omega)
  have o1 : decide (v49_0 (v49_0 1 xs') ts' < 0) = false := decide_eq_false (by omega)
  have o2 : decide (v44_0 1 d0 d1 d2 < 0) = false := decide_eq_false (by omega)
  have o3 : decide (v45_0 (v44_0 1 d0 d1 d2) d3 < 0) = false := decide_eq_false (by omega)
  simp only [t1, t2, u1, u2, x1, x2, x3, x4, x5, x6, x7, hd0, hd1, hd2, hd3, hd4, y1, y2, z1, z2, i1, i2, j1, j2, k1, k1', m1, m2, m3, n1, n2, n3, o1, o2, o3, beq_self_eq_true, decide_true, Bool.not_true, cond_false, cond_true]
theorem law10 {x0 x1 : AV} (t0 : TA Try.prog 23 x0) (t1 : TA Try.prog 23 x1) : m10 [x0, x1] = some (true, .bool true) := by
  obtain ⟨xs, rfl, a1, _⟩ := tw_sl (ta_one (ct := .sl [.int .i64]) t0 (by kernel_rfl) (by kernel_rfl))
  obtain ⟨ts, rfl, a2, _⟩ := tw_sl (ta_one (ct := .sl [.int .i64]) t1 (by kernel_rfl) (by kernel_rfl))
  show (raw10 xs ts).map (fun r => (true, r)) = _
  rw [raw10_true xs ts a1 a2]
  rfl

end Go.Proofs.Ytepfklcdpkpepaa
