/- the law -/
import Derived.Test.YtepfklcdpkpepaaIVq
namespace Go.Proofs.Ytepfklcdpkpepaa
open Go Go.Proofs.VE
set_option linter.unusedVariables false
set_option linter.unusedSimpArgs false

theorem raw6_true (s : List AV) (n : Int) (v r p : List AV) (x : Int) (a1 : s.length ≤ 9223372036854775807) (a2 : v.length ≤ 9223372036854775807) (a3 : r.length ≤ 9223372036854775807) (a4 : p.length ≤ 9223372036854775807) : raw6 s n v r p x = some (.bool true) := by
  unfold raw6
  rw [P15 a1 a2 a3 a4 (by omega) (by omega)]
  by_cases c1 : 1048576 < (s.length : Int) + ((v.length : Int) + (r.length : Int) + (p.length : Int))
  · rw [if_pos c1]
    rfl
  rw [if_neg c1, decide_eq_false (by omega : ¬ (1048576 : Int) - ((s.length : Int) + ((v.length : Int) + (r.length : Int) + (p.length : Int))) < 0)]
  obtain ⟨t1, t2, t3, t4, t5, t6⟩ := P17 s n v r p (by omega) (by omega) (by omega) (by omega)
  have l1 : (s.map cp70).length ≤ 1048576 := by rw [List.length_map]; omega
  have l2 : (v.map cp30).length ≤ 1048576 := by rw [List.length_map]; omega
  have l3 : (r.map cp30).length ≤ 1048576 := by rw [List.length_map]; omega
  have l4 : (p.map cp93).length ≤ 1048576 := by rw [List.length_map]; omega
  generalize s.map cp70 = s' at *
  generalize v.map cp30 = v' at *
  generalize r.map cp30 = r' at *
  generalize p.map cp93 = p' at *
  obtain ⟨x1, w1, x2, x3, x4, x5, x6, x7, x8, g0, g2, g3, g4⟩ := same26 s' n v' r' p' x l1 l2 l3 l4
  generalize hd0 : v26_0 s' n v' r' p' x = d0 at *
  generalize hd1 : v26_1 s' n v' r' p' x = d1 at *
  generalize hd2 : v26_2 s' n v' r' p' x = d2 at *
  generalize hd3 : v26_3 s' n v' r' p' x = d3 at *
  generalize hd4 : v26_4 s' n v' r' p' x = d4 at *
  obtain ⟨y1, y2⟩ := P19s s' n v' r' p' l1 l2 l3 l4
  obtain ⟨z1, z2⟩ := P19s d0 d1 d2 d3 d4 g0 g2 g3 g4
  obtain ⟨k1, k2, k3, k4, _⟩ := markheld s' n v' r' p' 1 l1 l2 l3 l4 (by omega) (by omega)
  obtain ⟨m1, m2, m3, m4, _⟩ := markheld d0 d1 d2 d3 d4 1 g0 g2 g3 g4 (by omega) (by omega)
  have n1 : decide (v22_0 n 1 s' v' r' p' < 0) = false := decide_eq_false (by omega)
  have n2 : decide (v22_0 d1 1 d0 d2 d3 d4 < 0) = false := decide_eq_false (by omega)
  simp only [t1, t2, t3, t4, t5, t6, x1, w1, x2, x3, x4, x5, x6, x7, x8, hd0, hd1, hd2, hd3, hd4, y1, y2, z1, z2, k1, n1, m1, m2, m3, n2, beq_self_eq_true, decide_true, Bool.not_true, cond_false, cond_true]
theorem law6 {x0 x1 : AV} (t0 : TA Try.prog 28 x0) (t1 : TA Try.prog 3 x1) : m6 [x0, x1] = some (true, .bool true) := by
  obtain ⟨s, n, v, r, p, rfl, a1, a2, a3, a4⟩ := store_args t0 (by kernel_rfl) (by kernel_rfl)
  obtain ⟨x, rfl, _⟩ := tw_int (ta_one (ct := .int .i64) t1 (by kernel_rfl) (by kernel_rfl))
  show (raw6 s n v r p x).map (fun r => (true, r)) = _
  rw [raw6_true s n v r p x a1 a2 a3 a4]
  rfl

end Go.Proofs.Ytepfklcdpkpepaa
