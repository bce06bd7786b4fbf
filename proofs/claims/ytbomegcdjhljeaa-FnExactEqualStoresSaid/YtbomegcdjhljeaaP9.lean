import Derived.Test.YtbomegcdjhljeaaH9
namespace Go.Proofs.Ytbomegcdjhljeaa
open Go Go.Proofs.VE
set_option linter.unusedVariables false
set_option linter.unusedSimpArgs false

theorem P47 (v0 r0 p0 v1 r1 p1 : List AV) (h1 : v0.length ≤ 1048576) (h2 : r0.length ≤ 1048576) (h3 : p0.length ≤ 1048576) : q47 v0 r0 p0 v1 r1 p1 = true ∧ v47_0 v0 r0 p0 v1 r1 p1 = (eqL e1 v0 v1 && eqL e1 r0 r1 && eqL e2 p0 p1) := by
  unfold q47 v47_0
  rw [(P94 v0 v1 h1).1, (P94 v0 v1 h1).2, (P94 r0 r1 h2).1, (P94 r0 r1 h2).2, (P95 p0 p1 h3).1, (P95 p0 p1 h3).2]
  cases eqL e1 v0 v1 <;> cases eqL e1 r0 r1 <;> cases eqL e2 p0 p1 <;> exact ⟨rfl, rfl⟩
theorem P80 (v0 r0 p0 v1 r1 p1 : List AV) (h1 : v0.length ≤ 1048576) (h2 : r0.length ≤ 1048576) (h3 : p0.length ≤ 1048576) : q80 v0 r0 p0 v1 r1 p1 = true ∧ v80_0 v0 r0 p0 v1 r1 p1 = (eqL e1 v0 v1 && eqL e1 r0 r1 && eqL e2 p0 p1) := by
  unfold q80 v80_0
  rw [(P105 v0 v1 h1).1, (P105 v0 v1 h1).2, (P105 r0 r1 h2).1, (P105 r0 r1 h2).2, (P115 p0 p1 h3).1, (P115 p0 p1 h3).2]
  cases eqL e1 v0 v1 <;> cases eqL e1 r0 r1 <;> cases eqL e2 p0 p1 <;> exact ⟨rfl, rfl⟩
theorem P82 (v0 r0 p0 v1 r1 p1 : List AV) (h1 : v0.length ≤ 1048576) (h2 : r0.length ≤ 1048576) (h3 : p0.length ≤ 1048576) : q82 v0 r0 p0 v1 r1 p1 = true ∧ v82_0 v0 r0 p0 v1 r1 p1 = (eqL e1 v0 v1 && eqL e1 r0 r1 && eqL e2 p0 p1) := by
  unfold q82 v82_0
  rw [(P22 v0 v1 h1).1, (P22 v0 v1 h1).2, (P22 r0 r1 h2).1, (P22 r0 r1 h2).2, (P117 p0 p1 h3).1, (P117 p0 p1 h3).2]
  cases eqL e1 v0 v1 <;> cases eqL e1 r0 r1 <;> cases eqL e2 p0 p1 <;> exact ⟨rfl, rfl⟩
theorem P78 (v r p : List AV) (h1 : v.length ≤ 1048576) (h2 : r.length ≤ 1048576) (h3 : p.length ≤ 1048576) : q78 v r p = true ∧ v78_0 v r p = v.map cp34 ∧ v78_1 v r p = r.map cp34 ∧ v78_2 v r p = p.map cp114 := by
  unfold q78 v78_0 v78_1 v78_2
  rw [(P34 v h1).1, (P34 r h2).1, (P114 p h3).1]
  exact ⟨rfl, (P34 v h1).2, (P34 r h2).2, (P114 p h3).2⟩
theorem P40 (s : List AV) (n : Int) (v r p : List AV) (h0 : s.length ≤ 1048576) (h1 : v.length ≤ 1048576) (h2 : r.length ≤ 1048576) (h3 : p.length ≤ 1048576) : q40 s n v r p = true ∧ v40_0 s n v r p = s.map cp77 ∧ v40_1 s n v r p = n ∧ v40_2 s n v r p = v.map cp34 ∧ v40_3 s n v r p = r.map cp34 ∧ v40_4 s n v r p = p.map cp114 := by
  unfold q40 v40_0 v40_1 v40_2 v40_3 v40_4
  obtain ⟨a, b, c, d⟩ := P78 v r p h1 h2 h3
  rw [(P77 s h0).1, a]
  exact ⟨rfl, (P77 s h0).2, rfl, b, c, d⟩
theorem P42 (s : List AV) (n : Int) (v r p : List AV) (h0 : s.length ≤ 1048576) (h1 : v.length ≤ 1048576) (h2 : r.length ≤ 1048576) (h3 : p.length ≤ 1048576) : q42 s n v r p s n v r p = true ∧ v42_0 s n v r p s n v r p = true := by
  unfold q42 v42_0
  rw [(P81 s s h0).1, (P81 s s h0).2, (P82 v r p v r p h1 h2 h3).1, (P82 v r p v r p h1 h2 h3).2, eqL_self e4_self, eqL_self e1_self, eqL_self e1_self, eqL_self e2_self]
  simp

theorem same (s0 : List AV) (n0 : Int) (v0 r0 p0 s1 : List AV) (n1 : Int) (v1 r1 p1 : List AV) (h0 : s0.length ≤ 1048576) (h1 : v0.length ≤ 1048576) (h2 : r0.length ≤ 1048576) (h3 : p0.length ≤ 1048576) :
    q39 s0 n0 v0 r0 p0 s1 n1 v1 r1 p1 = true ∧ q41 s0 n0 v0 r0 p0 s1 n1 v1 r1 p1 = true ∧ v41_0 s0 n0 v0 r0 p0 s1 n1 v1 r1 p1 = v39_0 s0 n0 v0 r0 p0 s1 n1 v1 r1 p1 := by
  have hr : (s0.length : Int) = s1.length → runW (R39_0 s0 n0 v0 r0 p0 s1 n1 v1 r1 p1) (((s0.length : Int) - 0).toNat + 1) 0 = some (ro (findF (fun i => !e4 (s0.getD i.toNat .undef) (s1.getD i.toNat .undef)) s0.length 0) (.inl ()) fun _ => .inr ()) := fun hl => by
    refine runW_find (fun i => i) s0.length _ _ _ (fun i h0 hn => ?_) ?_ s0.length _ 0 (Int.le_refl 0) (by omega) (by omega)
    · have hn' : i < s1.length := by omega
      simp only [R39_0, F39_0, h0, hn, hn', decide_true, Bool.and_self, cond_true]
      rw [wrap_in (a := i + 1) (by omega) (by omega)]
      generalize s0.getD i.toNat .undef = x
      generalize s1.getD i.toNat .undef = y
      congr 1
      simp only [e4]
      cases decide (fI x 0 = fI y 0) <;> cases decide (fI x 1 = fI y 1) <;> cases decide (fI x 2 = fI y 2) <;> cases decide (fI x 3 = fI y 3) <;> rfl
    · simp only [R39_0, F39_0, Int.lt_irrefl, decide_false, cond_false]
  unfold q39 q41 v39_0 v41_0
  rw [(P47 v0 r0 p0 v1 r1 p1 h1 h2 h3).1, (P47 v0 r0 p0 v1 r1 p1 h1 h2 h3).2, (P80 v0 r0 p0 v1 r1 p1 h1 h2 h3).1, (P80 v0 r0 p0 v1 r1 p1 h1 h2 h3).2, (P79 s0 s1 h0).1, (P79 s0 s1 h0).2]
  generalize (eqL e1 v0 v1 && eqL e1 r0 r1 && eqL e2 p0 p1) = cr
  unfold eqL
  by_cases hl : (s0.length : Int) = s1.length
  · rw [decide_eq_true hl, hr hl]
    cases findF (fun i => !e4 (s0.getD i.toNat .undef) (s1.getD i.toNat .undef)) s0.length 0 <;> cases decide (n0 = n1) <;> cases cr <;> exact ⟨rfl, rfl, rfl⟩
  · rw [decide_eq_false hl]
    exact ⟨rfl, rfl, rfl⟩
theorem law (s0 : List AV) (n0 : Int) (v0 r0 p0 s1 : List AV) (n1 : Int) (v1 r1 p1 : List AV) (a1 : s0.length ≤ 9223372036854775807) (a2 : v0.length ≤ 9223372036854775807) (a3 : r0.length ≤ 9223372036854775807) (a4 : p0.length ≤ 9223372036854775807)
    (b1 : s1.length ≤ 9223372036854775807) (b2 : v1.length ≤ 9223372036854775807) (b3 : r1.length ≤ 9223372036854775807) (b4 : p1.length ≤ 9223372036854775807) : q9 s0 n0 v0 r0 p0 s1 n1 v1 r1 p1 = true ∧ v9_0 s0 n0 v0 r0 p0 s1 n1 v1 r1 p1 = true := by
  unfold q9 v9_0
  rw [P38 a1 a2 a3 a4 (by omega) (by omega)]
  by_cases c1 : 1048576 < (s0.length : Int) + ((v0.length : Int) + (r0.length : Int) + (p0.length : Int))
  · rw [if_pos c1]
    exact ⟨rfl, rfl⟩
  rw [if_neg c1, decide_eq_false (by omega : ¬ (1048576 : Int) - ((s0.length : Int) + ((v0.length : Int) + (r0.length : Int) + (p0.length : Int))) < 0), P38 b1 b2 b3 b4 (by omega) (by omega)]
  by_cases c2 : (1048576 : Int) - ((s0.length : Int) + ((v0.length : Int) + (r0.length : Int) + (p0.length : Int))) < (s1.length : Int) + ((v1.length : Int) + (r1.length : Int) + (p1.length : Int))
  · rw [if_pos c2]
    exact ⟨rfl, rfl⟩
  rw [if_neg c2, decide_eq_false (by omega : ¬ (1048576 : Int) - ((s0.length : Int) + ((v0.length : Int) + (r0.length : Int) + (p0.length : Int))) - ((s1.length : Int) + ((v1.length : Int) + (r1.length : Int) + (p1.length : Int))) < 0)]
  obtain ⟨t1, t2, t3, t4, t5, t6⟩ := P40 s0 n0 v0 r0 p0 (by omega) (by omega) (by omega) (by omega)
  obtain ⟨u1, u2, u3, u4, u5, u6⟩ := P40 s1 n1 v1 r1 p1 (by omega) (by omega) (by omega) (by omega)
  have l1 : (s0.map cp77).length ≤ 1048576 := by rw [List.length_map]; omega
  have l2 : (v0.map cp34).length ≤ 1048576 := by rw [List.length_map]; omega
  have l3 : (r0.map cp34).length ≤ 1048576 := by rw [List.length_map]; omega
  have l4 : (p0.map cp114).length ≤ 1048576 := by rw [List.length_map]; omega
  have k1 : (s1.map cp77).length ≤ 1048576 := by rw [List.length_map]; omega
  have k2 : (v1.map cp34).length ≤ 1048576 := by rw [List.length_map]; omega
  have k3 : (r1.map cp34).length ≤ 1048576 := by rw [List.length_map]; omega
  have k4 : (p1.map cp114).length ≤ 1048576 := by rw [List.length_map]; omega
  generalize s0.map cp77 = s0' at *
  generalize v0.map cp34 = v0' at *
  generalize r0.map cp34 = r0' at *
  generalize p0.map cp114 = p0' at *
  generalize s1.map cp77 = s1' at *
  generalize v1.map cp34 = v1' at *
  generalize r1.map cp34 = r1' at *
  generalize p1.map cp114 = p1' at *
  obtain ⟨x1, x2, x3⟩ := same s0' n0 v0' r0' p0' s1' n1 v1' r1' p1' l1 l2 l3 l4
  obtain ⟨y1, y2⟩ := P42 s0' n0 v0' r0' p0' l1 l2 l3 l4
  obtain ⟨z1, z2⟩ := P42 s1' n1 v1' r1' p1' k1 k2 k3 k4
  simp only [t1, t2, t3, t4, t5, t6, u1, u2, u3, u4, u5, u6, x1, x2, x3, y1, y2, z1, z2, beq_self_eq_true, Bool.not_true, cond_false, Bool.and_self, and_self]
theorem store_args {x : AV} (h : TA Try.prog 53 x) : ∃ s n v r p, x = .agg [.sl [.int .i64, .int .i64, .int .i64, .int .i64] s, .int .i64 n, .sl [.int .i64] v, .sl [.int .i64] r, .sl [.int .i64, .int .i64] p] ∧ s.length ≤ 9223372036854775807 ∧ v.length ≤ 9223372036854775807 ∧ r.length ≤ 9223372036854775807 ∧ p.length ≤ 9223372036854775807 := by
  obtain ⟨cs, rfl, h1⟩ := ta_agg (cts := [.sl [.int .i64, .int .i64, .int .i64, .int .i64], .int .i64, .sl [.int .i64], .sl [.int .i64], .sl [.int .i64, .int .i64]]) h (by kernel_rfl) (by kernel_rfl)
  obtain ⟨x0, _, rfl, g0, h2⟩ := tws_cons h1
  obtain ⟨x1, _, rfl, g1, h3⟩ := tws_cons h2
  obtain ⟨x2, _, rfl, g2, h4⟩ := tws_cons h3
  obtain ⟨x3, _, rfl, g3, h5⟩ := tws_cons h4
  obtain ⟨x4, _, rfl, g4, h6⟩ := tws_cons h5
  obtain rfl := tws_nil h6
  obtain ⟨s, rfl, l0, _⟩ := tw_sl g0
  obtain ⟨n, rfl, _⟩ := tw_int g1
  obtain ⟨v, rfl, l2, _⟩ := tw_sl g2
  obtain ⟨r, rfl, l3, _⟩ := tw_sl g3
  obtain ⟨p, rfl, l4, _⟩ := tw_sl g4
  exact ⟨s, n, v, r, p, rfl, l0, l2, l3, l4⟩
theorem law9 {x0 x1 : AV} (t0 : TA Try.prog 53 x0) (t1 : TA Try.prog 53 x1) : m9 [x0, x1] = some (true, .bool true) := by
  obtain ⟨s0, n0, v0, r0, p0, rfl, a1, a2, a3, a4⟩ := store_args t0
  obtain ⟨s1, n1, v1, r1, p1, rfl, b1, b2, b3, b4⟩ := store_args t1
  obtain ⟨h1, h2⟩ := law s0 n0 v0 r0 p0 s1 n1 v1 r1 p1 a1 a2 a3 a4 b1 b2 b3 b4
  show some (q9 s0 n0 v0 r0 p0 s1 n1 v1 r1 p1, AV.bool (v9_0 s0 n0 v0 r0 p0 s1 n1 v1 r1 p1)) = _
  rw [h1, h2]
end Go.Proofs.Ytbomegcdjhljeaa
