/- the law -/
import Derived.Test.YtepfklcdpkpepaaJNg
namespace Go.Proofs.Ytepfklcdpkpepaa
open Go Go.Proofs.VE
set_option linter.unusedVariables false
set_option linter.unusedSimpArgs false

theorem raw9_true (v r p : List AV) (x : Int) (a2 : v.length ≤ 9223372036854775807) (a3 : r.length ≤ 9223372036854775807) (a4 : p.length ≤ 9223372036854775807) : raw9 v r p x = some (.bool true) := by
  unfold raw9
  rw [P36 a2 a3 a4 (by omega) (by omega)]
  by_cases c1 : 1048576 < ((v.length : Int) + (r.length : Int) + (p.length : Int))
  · rw [if_pos c1]
    rfl
  rw [if_neg c1, decide_eq_false (by omega : ¬ (1048576 : Int) - ((v.length : Int) + (r.length : Int) + (p.length : Int)) < 0)]
  obtain ⟨t1, t2, t3, t4⟩ := P38 v r p (by omega) (by omega) (by omega)
  have l2 : (v.map cp30).length ≤ 1048576 := by rw [List.length_map]; omega
  have l3 : (r.map cp30).length ≤ 1048576 := by rw [List.length_map]; omega
  have l4 : (p.map cp93).length ≤ 1048576 := by rw [List.length_map]; omega
  have hN : N2 (p.map cp93) := N2.map (fun y => ⟨_, _, rfl⟩) p
  generalize v.map cp30 = v' at *
  generalize r.map cp30 = r' at *
  generalize p.map cp93 = p' at *
  obtain ⟨x1, x2, x3, x4⟩ := same41 v' r' p' x l2 l3 l4 hN
  generalize hw : v41_0 v' r' p' x = w at *
  obtain ⟨y1, y2⟩ := P43s w (by omega)
  obtain ⟨z1, z2⟩ := P40s v' r' p' l2 l3 l4
  obtain ⟨k1, k4⟩ := mC v' r' p' 1 l2 l3 l4 (by omega) (by omega)
  obtain ⟨m1, m2, m3, m4, _⟩ := mhE w 1 (by omega) (by omega) (by omega)
  have n1 : decide (v44_0 1 v' r' p' < 0) = false := decide_eq_false (by omega)
  have n2 : decide (v45_0 1 w < 0) = false := decide_eq_false (by omega)
  simp only [t1, t2, t3, t4, x1, x2, x3, hw, y1, y2, z1, z2, k1, n1, m1, m2, m3, n2, decide_true, Bool.not_true, cond_false, cond_true]
theorem law9 {x0 x1 : AV} (t0 : TA Try.prog 26 x0) (t1 : TA Try.prog 3 x1) : m9 [x0, x1] = some (true, .bool true) := by
  obtain ⟨v, r, p, rfl, a2, a3, a4⟩ := crack_args t0 (by kernel_rfl) (by kernel_rfl)
  obtain ⟨x, rfl, _⟩ := tw_int (ta_one (ct := .int .i64) t1 (by kernel_rfl) (by kernel_rfl))
  show (raw9 v r p x).map (fun r => (true, r)) = _
  rw [raw9_true v r p x a2 a3 a4]
  rfl

end Go.Proofs.Ytepfklcdpkpepaa
