/- the law -/
import Derived.Test.YtdhhceamknidmaaIBs
namespace Go.Proofs.Ytdhhceamknidmaa
open Go Go.Proofs.VE
set_option linter.unusedVariables false
set_option linter.unusedSimpArgs false
theorem raw4_true (v r p ws : List AV) (s : Int) (a1 : v.length ≤ 9223372036854775807) (a2 : r.length ≤ 9223372036854775807) (a3 : p.length ≤ 9223372036854775807) (a4 : ws.length ≤ 9223372036854775807) (a5 : ∀ x ∈ ws, (fL x 0).length ≤ 9223372036854775807) (a6 : okI ws) : raw4 v r p ws s = some (.bool true) := by
  unfold raw4
  obtain ⟨c1, c2⟩ := P14 (s := s) (a := 1048576) a1 a2 a3 a4 a5 (by omega) (by omega)
  rw [c1]
  rcases c2 with c2 | ⟨c2, c3, l1, l2, l3, l4, l5⟩
  · rw [c2]; rfl
  rw [decide_eq_false (by omega : ¬ v14_0 v r p ws s 1048576 < 0)]
  obtain ⟨e1, e2, e3, e4, e5, e6⟩ := P16 v r p ws s l1 l2 l3 l4 l5
  have n1 : (v.map cp27).length ≤ 1048576 := by rw [List.length_map]; omega
  have n2 : (r.map cp27).length ≤ 1048576 := by rw [List.length_map]; omega
  have n3 : (p.map cp89).length ≤ 1048576 := by rw [List.length_map]; omega
  have n4 : (ws.map cpW).length ≤ 1048576 := by rw [List.length_map]; omega
  have n5 := few20_cp l5
  have n6 := okI_cp a6
  rw [e1, e2, e3, e4, e5, e6]
  generalize v.map cp27 = v1 at *
  generalize r.map cp27 = r1 at *
  generalize p.map cp89 = p1 at *
  generalize ws.map cpW = ws1 at *
  obtain ⟨g1, g2, g3⟩ := isB_both v1 r1 p1 ws1 s n1 n2 n3 n4 n5 n6
  obtain ⟨i1, i2⟩ := P18 v1 r1 p1 ws1 s v1 r1 p1 ws1 s n1 n2 n3 n4 n5
  rw [g1, g2, g3, i1, i2, eqB_self]
  simp only [beq_self_eq_true, Bool.not_true, cond_true, cond_false]
theorem law4 {x0 : AV} (t0 : TA Try.prog 28 x0) : m4 [x0] = some (true, .bool true) := by
  obtain ⟨v, r, p, ws, s, rfl, a1, a2, a3, a4, a5, a6⟩ := board_args2 t0 (by kernel_rfl) (by kernel_rfl)
  show (raw4 v r p ws s).map (fun r => (true, r)) = _
  rw [raw4_true v r p ws s a1 a2 a3 a4 a5 a6]
  rfl

end Go.Proofs.Ytdhhceamknidmaa
