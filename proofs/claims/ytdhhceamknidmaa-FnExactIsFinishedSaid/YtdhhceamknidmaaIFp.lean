/- the law -/
import Derived.Test.YtdhhceamknidmaaIFs
namespace Go.Proofs.Ytdhhceamknidmaa
open Go Go.Proofs.VE
set_option linter.unusedVariables false
set_option linter.unusedSimpArgs false
/-- Has the worker more to do? -/
def more (ws : List AV) (k : Int) : Bool := decide (fI (ws.getD k.toNat .undef) 1 < ((fL (ws.getD k.toNat .undef) 0).length : Int))
theorem P21 (vs rs ps ws : List AV) (s : Int) (h1 : vs.length ≤ 1048576) (h2 : rs.length ≤ 1048576) (h3 : ps.length ≤ 1048576) (h4 : ws.length ≤ 1048576) (h5 : few20 ws) (h6 : okI ws) :
    q21 vs rs ps ws s = true ∧ v21_0 vs rs ps ws s = (v19_0 vs rs ps ws s && noneB (more ws) ws.length) := by
  have hr : runW (R21_0 vs rs ps ws s) (((ws.length : Int) - 0).toNat + 1) 0 = some (ro (findF (more ws) ws.length 0) (.inl ()) fun _ => .inr ()) := by
    refine runW_find (fun i => i) ws.length _ _ _ (fun k h0 hn => ?_) ?_ ws.length _ 0 (Int.le_refl 0) (by omega) (by omega)
    · have d1 : decide (k < (ws.length : Int)) = true := decide_eq_true hn
      have d2 : decide (0 ≤ k) = true := decide_eq_true h0
      simp only [R21_0, F21_0, d1, d2, Bool.and_self, cond_true, more]
      rw [wrap_in (a := k + 1) (by omega) (by omega)]
    · simp only [R21_0, F21_0, Int.lt_irrefl, decide_false, cond_false]
  unfold q21 v21_0 noneB
  rw [hr, (isB_both vs rs ps ws s h1 h2 h3 h4 h5 h6).1]
  cases findF (more ws) ws.length 0 <;> cases v19_0 vs rs ps ws s <;> exact ⟨rfl, rfl⟩
theorem P117 (ws : List AV) (h4 : ws.length ≤ 1048576) : q117 ws = true ∧ v117_0 ws = ro (findF (more ws) ws.length 0) (-1) id := by
  have hr : runW (R117_0 ws ws.length) (((ws.length : Int) - 0).toNat + 1) 0 = some (ro (findF (more ws) ws.length 0) (.inl ()) fun i => .inr i) := by
    refine runW_find (fun i => i) ws.length _ _ _ (fun k h0 hn => ?_) ?_ ws.length _ 0 (Int.le_refl 0) (by omega) (by omega)
    · have d1 : decide (k < (ws.length : Int)) = true := decide_eq_true hn
      have d2 : decide (0 ≤ k) = true := decide_eq_true h0
      simp only [R117_0, F117_0, v74_0, d1, d2, Bool.and_self, cond_true, more]
      rw [wrap_in (a := k + 1) (by omega) (by omega)]
    · simp only [R117_0, F117_0, Int.lt_irrefl, decide_false, cond_false]
  unfold q117 v117_0
  rw [hr]
  cases findF (more ws) ws.length 0 <;> exact ⟨rfl, rfl⟩
theorem P22 (vs rs ps ws : List AV) (s : Int) (h1 : vs.length ≤ 1048576) (h2 : rs.length ≤ 1048576) (h3 : ps.length ≤ 1048576) (h4 : ws.length ≤ 1048576) (h5 : few20 ws) (h6 : okI ws) :
    q22 vs rs ps ws s = true ∧ v22_0 vs rs ps ws s = (v19_0 vs rs ps ws s && noneB (more ws) ws.length) := by
  obtain ⟨_, b1, b2⟩ := isB_both vs rs ps ws s h1 h2 h3 h4 h5 h6
  obtain ⟨c1, c2⟩ := P117 ws h4
  unfold q22 v22_0 q73 v73_0 noneB
  rw [b1, b2, c1, c2]
  cases hf : findF (more ws) ws.length 0 with
  | none => cases v19_0 vs rs ps ws s <;> exact ⟨rfl, rfl⟩
  | some j =>
    have := (findF_some _ _ hf).1
    rw [decide_eq_true (show ro (some j) (-1) id ≥ 0 from this)]
    cases v19_0 vs rs ps ws s <;> exact ⟨rfl, rfl⟩
theorem raw5_true (v r p ws : List AV) (s : Int) (a1 : v.length ≤ 9223372036854775807) (a2 : r.length ≤ 9223372036854775807) (a3 : p.length ≤ 9223372036854775807) (a4 : ws.length ≤ 9223372036854775807) (a5 : ∀ x ∈ ws, (fL x 0).length ≤ 9223372036854775807) (a6 : okI ws) : raw5 v r p ws s = some (.bool true) := by
  unfold raw5
  obtain ⟨c1, c2⟩ := P14 (s := s) (a := 1048576) a1 a2 a3 a4 a5 (by omega) (by omega)
  rw [c1]
  rcases c2 with c2 | ⟨c2, c3, l1, l2, l3, l4, l5⟩
  · rw [c2]; rfl
  rw [decide_eq_false (by omega : ¬ v14_0 v r p ws s 1048576 < 0)]
  obtain ⟨e1, e2, e3, e4, e5, e6⟩ := P16 v r p ws s l1 l2 l3 l4 l5
  have n1 : (v.map cp27).length ≤ 1048576 := by rw [List.length_map]; omega
  have n2 : (r.map cp27).length ≤ 1048576 := by rw [List.length_map]; omega
  have n3 : (p.map cp89).length ≤ 1048576 := by rw [List.length_map]; omega
  have n4 : (ws.map cpW).length ≤ 1048576 := by rw [List.length_map]; omega
  have n5 := few20_cp l5
  have n6 := okI_cp a6
  rw [e1, e2, e3, e4, e5, e6]
  generalize v.map cp27 = v1 at *
  generalize r.map cp27 = r1 at *
  generalize p.map cp89 = p1 at *
  generalize ws.map cpW = ws1 at *
  obtain ⟨g1, g2⟩ := P21 v1 r1 p1 ws1 s n1 n2 n3 n4 n5 n6
  obtain ⟨h1, h2⟩ := P22 v1 r1 p1 ws1 s n1 n2 n3 n4 n5 n6
  obtain ⟨i1, i2⟩ := P18 v1 r1 p1 ws1 s v1 r1 p1 ws1 s n1 n2 n3 n4 n5
  rw [g1, g2, h1, h2, i1, i2, eqB_self]
  simp only [beq_self_eq_true, Bool.not_true, cond_true, cond_false]
theorem law5 {x0 : AV} (t0 : TA Try.prog 28 x0) : m5 [x0] = some (true, .bool true) := by
  obtain ⟨v, r, p, ws, s, rfl, a1, a2, a3, a4, a5, a6⟩ := board_args2 t0 (by kernel_rfl) (by kernel_rfl)
  show (raw5 v r p ws s).map (fun r => (true, r)) = _
  rw [raw5_true v r p ws s a1 a2 a3 a4 a5 a6]
  rfl

end Go.Proofs.Ytdhhceamknidmaa
