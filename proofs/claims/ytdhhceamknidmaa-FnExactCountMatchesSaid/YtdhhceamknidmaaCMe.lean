/- dividing, both -/
import Derived.Test.YtdhhceamknidmaaCMd
namespace Go.Proofs.Ytdhhceamknidmaa
open Go Go.Proofs.VE
set_option linter.unusedVariables false
set_option linter.unusedSimpArgs false
theorem col_few {vs rs ps : List AV} (h : Col vs rs ps) : ps.length ≤ 2001 := by
  have hl := h.n64
  have hc := (isC_iff vs rs ps (by omega)).2 h
  unfold isC at hc
  simp only [Bool.and_eq_true] at hc
  exact few vs ps hc.2.2.2.2
theorem Pc.cut {vs rs ps : List AV} (h : Col vs rs ps) {v a b t : Int} (hp : Pc vs.length ps v a b t) {p : Int} (p0 : 0 ≤ p) (p1 : p < ps.length) : (el ps p < v → pat ps p ≤ a) ∧ (v < el ps p → b ≤ pat ps p) := by
  obtain ⟨t0, t1, lo, hi, ea, eb⟩ := hp
  constructor
  · intro hl
    have hpt : p < t := by
      rcases Int.lt_or_le p t with h1 | h1
      · exact h1
      · have := hi p h1 p1; omega
    rw [ea, if_neg (by omega)]
    by_cases e : p = t - 1
    · rw [e]; exact Int.le_refl _
    · exact (h.lt (i := p) (j := t - 1) p0 (by omega) (by omega)).2
  · intro hl
    have hpt : t ≤ p := by
      rcases Int.lt_or_le p t with h1 | h1
      · have := lo p p0 h1; omega
      · exact h1
    rw [eb, if_neg (by omega)]
    by_cases e : p = t
    · rw [e]; exact Int.le_refl _
    · exact (h.lt (i := t) (j := p) t0 (by omega) p1).2
theorem bound_of {v : Int} (hv : -1000 ≤ v ∧ v ≤ 1000) : v67_0 v (-1000) 1000 = true := by
  rw [v67, decide_eq_true hv.1, decide_eq_true hv.2]
  rfl

end Go.Proofs.Ytdhhceamknidmaa
