/- the law -/
import Derived.Test.YtepfklcdpkpepaaISs
namespace Go.Proofs.Ytepfklcdpkpepaa
open Go Go.Proofs.VE
set_option linter.unusedVariables false
set_option linter.unusedSimpArgs false

theorem raw3_true (s : List AV) (n : Int) (v r p : List AV) (a1 : s.length ≤ 9223372036854775807) (a2 : v.length ≤ 9223372036854775807) (a3 : r.length ≤ 9223372036854775807) (a4 : p.length ≤ 9223372036854775807) : raw3 s n v r p = some (.bool true) := by
  unfold raw3
  rw [P15 a1 a2 a3 a4 (by omega) (by omega)]
  by_cases c1 : 1048576 < (s.length : Int) + ((v.length : Int) + (r.length : Int) + (p.length : Int))
  · rw [if_pos c1]
    rfl
  rw [if_neg c1, decide_eq_false (by omega : ¬ (1048576 : Int) - ((s.length : Int) + ((v.length : Int) + (r.length : Int) + (p.length : Int))) < 0)]
  obtain ⟨t1, t2, t3, t4, t5, t6⟩ := P17 s n v r p (by omega) (by omega) (by omega) (by omega)
  have l1 : (s.map cp70).length ≤ 1048576 := by rw [List.length_map]; omega
  have l2 : (v.map cp30).length ≤ 1048576 := by rw [List.length_map]; omega
  have l3 : (r.map cp30).length ≤ 1048576 := by rw [List.length_map]; omega
  have l4 : (p.map cp93).length ≤ 1048576 := by rw [List.length_map]; omega
  generalize s.map cp70 = s' at *
  generalize v.map cp30 = v' at *
  generalize r.map cp30 = r' at *
  generalize p.map cp93 = p' at *
  obtain ⟨x1, x2⟩ := P16 s' n v' r' p' l1 l2 l3 l4
  obtain ⟨x3, x4⟩ := P18 s' n v' r' p' l1 l2 l3 l4
  obtain ⟨y1, y2⟩ := P19s s' n v' r' p' l1 l2 l3 l4
  simp only [t1, t2, t3, t4, t5, t6, x1, x2, x3, x4, y1, y2, beq_self_eq_true, Bool.not_true, cond_false, cond_true]
theorem law3 {x0 : AV} (t0 : TA Try.prog 28 x0) : m3 [x0] = some (true, .bool true) := by
  obtain ⟨s, n, v, r, p, rfl, a1, a2, a3, a4⟩ := store_args t0 (by kernel_rfl) (by kernel_rfl)
  show (raw3 s n v r p).map (fun r => (true, r)) = _
  rw [raw3_true s n v r p a1 a2 a3 a4]
  rfl

end Go.Proofs.Ytepfklcdpkpepaa
