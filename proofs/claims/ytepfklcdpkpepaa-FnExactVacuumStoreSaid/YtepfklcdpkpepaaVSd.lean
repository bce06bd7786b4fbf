/- ripple delete -/
import Derived.Test.YtepfklcdpkpepaaVSs
namespace Go.Proofs.Ytepfklcdpkpepaa
open Go Go.Proofs.VE
set_option linter.unusedVariables false
set_option linter.unusedSimpArgs false
abbrev D6 := Int × Int × Int × List AV × List AV × List AV
/-- What holds at the head of RippleDelete's loop. -/
structure DelI (v : Int) (ps : List AV) (n m : Nat) (s s' : D6) : Prop where
  e : s' = s
  lv : s.2.2.2.1.length = n
  lr : s.2.2.2.2.1.length = n
  lp : s.2.2.2.2.2.length = m
  h0 : 0 ≤ s.1
  h1 : s.1 < n
  k0 : 0 ≤ s.2.2.1
  k1 : s.2.2.1 ≤ m
  m0 : 0 ≤ s.2.1
  m1 : s.2.1 ≤ s.2.2.1
  same : ∀ j : Nat, s.2.2.1 ≤ j → j < m → s.2.2.2.2.2.getD j .undef = ps.getD j .undef
structure DelJ (n m : Nat) (r r' : Int × Int × List AV × List AV × List AV) : Prop where
  e : r' = r
  lv : r.2.2.1.length = n
  lr : r.2.2.2.1.length = n
  lp : r.2.2.2.2.length = m
  h0 : 0 ≤ r.1
  h1 : r.1 < n
  m0 : 0 ≤ r.2.1
  m1 : r.2.1 ≤ m
theorem getD_set_ne' {xs : List AV} {i j : Nat} {v d : AV} (h : i ≠ j) : (xs.set i v).getD j d = xs.getD j d := by
  simp only [List.getD_eq_getElem?_getD]
  rw [List.getElem?_set_ne h]
theorem stepDel (v : Int) (ps : List AV) (n m : Nat) (hn : n ≤ 1048576) (hm : m ≤ 1048576) (hat : ∀ j : Nat, j < m → v < fI (ps.getD j .undef) 0 → 1 ≤ fI (ps.getD j .undef) 1 ∧ fI (ps.getD j .undef) 1 ≤ n) (s s' : D6) (h : DelI v ps n m s s') :
    (∃ a b, R80_0 v s = .next a ∧ R81_0 v m s' = .next b ∧ DelI v ps n m a b ∧ ((m : Int) - a.2.2.1).toNat < ((m : Int) - s.2.2.1).toNat) ∨ ∃ r r', R80_0 v s = .stop r ∧ R81_0 v m s' = .stop r' ∧ DelJ n m r r' := by
  obtain ⟨hole, mv, k, V, Rr, P⟩ := s
  obtain ⟨e, lv, lr, lp, h0, h1, k0, k1, m0, m1, same⟩ := h
  subst e
  simp only at lv lr lp h0 h1 k0 k1 m0 m1 same
  by_cases hk : k < m
  · have d1 : decide (k < (P.length : Int)) = true := decide_eq_true (by omega)
    have d1' : decide (k < (m : Int)) = true := decide_eq_true hk
    have d2 : decide (0 ≤ k) = true := decide_eq_true k0
    have wk : IntKind.i64.wrap (k + 1) = k + 1 := wrap_in (by omega) (by omega)
    by_cases hv : fI (P.getD k.toNat .undef) 0 ≤ v
    · have d3 : decide (fI (P.getD k.toNat .undef) 0 ≤ v) = true := decide_eq_true hv
      refine .inl ⟨(hole, mv, k + 1, V, Rr, P), (hole, mv, k + 1, V, Rr, P), ?_, ?_, ⟨rfl, lv, lr, lp, h0, h1, by simp only; omega, by simp only; omega, m0, by simp only; omega, fun j hj => same j (by simp only at hj; omega)⟩, by simp only; omega⟩
      · simp only [R80_0, F80_0, d1, d2, d3, Bool.and_self, cond_true, wk]
      · simp only [R81_0, F81_0, d1, d1', d2, d3, Bool.and_self, cond_true, wk]
    · have d3 : decide (fI (P.getD k.toNat .undef) 0 ≤ v) = false := decide_eq_false hv
      have ek := same k.toNat (by omega) (by omega)
      obtain ⟨a1, a2⟩ := hat k.toNat (by omega) (by rw [← ek]; omega)
      rw [← ek] at a1 a2
      generalize hA : fI (P.getD k.toNat .undef) 1 = A at *
      generalize hZ : fI (P.getD k.toNat .undef) 0 = Z at *
      have wA : IntKind.i64.wrap (A - 1) = A - 1 := wrap_in (by omega) (by omega)
      have hsame : ∀ (c : AV) (j : Nat), k + 1 ≤ (j : Int) → j < m → (P.set k.toNat c).getD j .undef = ps.getD j .undef := fun c j hj hjm => by
        rw [getD_set_ne' (by omega)]
        exact same j (by omega) hjm
      by_cases ha : A - 1 = hole
      · have da : decide (A - 1 = hole) = true := decide_eq_true ha
        have da' : decide (hole = A - 1) = true := decide_eq_true ha.symm
        refine .inl ⟨(A - 1, mv, k + 1, V, Rr, P.set k.toNat (AV.agg [AV.int .i64 Z, AV.int .i64 (A - 1)])), (A - 1, mv, k + 1, V, Rr, P.set k.toNat (AV.agg [AV.int .i64 Z, AV.int .i64 (A - 1)])), ?_, ?_,
          ⟨rfl, lv, lr, by simp only [List.length_set]; exact lp, by simp only; omega, by simp only; omega, by simp only; omega, by simp only; omega, m0, by simp only; omega, hsame _⟩, by simp only; omega⟩
        · simp only [R80_0, F80_0, d1, d2, d3, hA, hZ, wA, wk, da, Bool.and_self, cond_true, cond_false]
          rw [wrap_in (a := mv + 0) (by omega) (by omega), Int.add_zero]
        · simp only [R81_0, F81_0, d1, d1', d2, d3, hA, hZ, wA, wk, da', Bool.and_self, cond_true, cond_false]
          rw [wrap_in (a := mv + 0) (by omega) (by omega), Int.add_zero]
      · have da : decide (A - 1 = hole) = false := decide_eq_false ha
        have da' : decide (hole = A - 1) = false := decide_eq_false (fun e => ha e.symm)
        have c1 : decide (0 ≤ A - 1) = true := decide_eq_true (by omega)
        have c2 : decide (A - 1 < (V.length : Int)) = true := decide_eq_true (by omega)
        have c3 : decide (A - 1 < (Rr.length : Int)) = true := decide_eq_true (by omega)
        have c4 : decide (0 ≤ hole) = true := decide_eq_true h0
        have c5 : decide (hole < (V.length : Int)) = true := decide_eq_true (by omega)
        have c6 : decide (hole < (Rr.length : Int)) = true := decide_eq_true (by omega)
        refine .inl ⟨(A - 1, mv + 1, k + 1, V.set hole.toNat (AV.agg [AV.int .i64 (fI (V.getD (A - 1).toNat .undef) 0)]), Rr.set hole.toNat (AV.agg [AV.int .i64 (fI (Rr.getD (A - 1).toNat .undef) 0)]), P.set k.toNat (AV.agg [AV.int .i64 Z, AV.int .i64 (A - 1)])), _, ?_, ?_,
          ⟨rfl, by simp only [List.length_set]; exact lv, by simp only [List.length_set]; exact lr, by simp only [List.length_set]; exact lp, by simp only; omega, by simp only; omega, by simp only; omega, by simp only; omega, by simp only; omega, by simp only; omega, hsame _⟩, by simp only; omega⟩
        · simp only [R80_0, F80_0, d1, d2, d3, hA, hZ, wA, wk, da, c1, c2, c3, c4, c5, c6, Bool.and_self, cond_true, cond_false]
          rw [wrap_in (a := mv + 1) (by omega) (by omega)]
        · simp only [R81_0, F81_0, d1, d1', d2, d3, hA, hZ, wA, wk, da', c1, c2, c3, c4, c5, c6, Bool.and_self, cond_true, cond_false]
          rw [wrap_in (a := mv + 1) (by omega) (by omega)]
  · have d1 : decide (k < (P.length : Int)) = false := decide_eq_false (by omega)
    have d1' : decide (k < (m : Int)) = false := decide_eq_false hk
    refine .inr ⟨(hole, mv, V, Rr, P), (hole, mv, V, Rr, P), ?_, ?_, ⟨rfl, lv, lr, lp, h0, h1, m0, by simp only; omega⟩⟩
    · simp only [R80_0, F80_0, d1, cond_false]
    · simp only [R81_0, F81_0, d1', cond_false]
theorem runDel (v : Int) (ps : List AV) (n m : Nat) (hn : n ≤ 1048576) (hm : m ≤ 1048576) (hat : ∀ j : Nat, j < m → v < fI (ps.getD j .undef) 0 → 1 ≤ fI (ps.getD j .undef) 1 ∧ fI (ps.getD j .undef) 1 ≤ n) (s : D6) (h : DelI v ps n m s s) (fuel : Nat) (hf : ((m : Int) - s.2.2.1).toNat < fuel) :
    ∃ r, runW (R80_0 v) fuel s = some r ∧ runW (R81_0 v m) fuel s = some r ∧ DelJ n m r r := by
  obtain ⟨r, r', h1, h2, h3⟩ := runW_pair (DelI v ps n m) (DelJ n m) (fun s => ((m : Int) - s.2.2.1).toNat) (stepDel v ps n m hn hm hat) fuel fuel s s h hf hf
  have := h3.e
  subst this
  exact ⟨_, h1, h2, h3⟩
/-- A pivot above the value at a place lies behind it. -/
theorem isC_above {vs rs ps : List AV} (h : isC vs rs ps = true) (i : Int) (h0 : 0 ≤ i) (h1 : i < vs.length) (j : Nat) (hj : j < ps.length) (hv : fI (vs.getD i.toNat .undef) 0 < fI (ps.getD j .undef) 0) : i < fI (ps.getD j .undef) 1 ∧ fI (ps.getD j .undef) 1 ≤ vs.length := by
  unfold isC at h
  simp only [Bool.and_eq_true] at h
  have e := (noneB_iff.1 h.2.2.2.2) (j : Int) (by omega) (by omega)
  unfold badP at e
  rw [Bool.or_eq_false_iff] at e
  obtain ⟨e1, e2⟩ := e
  simp only [badA, v68, Bool.or_eq_false_iff, Bool.not_eq_false', Bool.and_eq_true, decide_eq_true_eq, Int.toNat_natCast] at e1
  unfold badI at e2
  rw [Bool.not_eq_false'] at e2
  have e3 := (noneB_iff.1 e2) i h0 h1
  simp only [Bool.not_eq_false', beq_iff_eq, Int.toNat_natCast] at e3
  rw [decide_eq_true hv] at e3
  exact ⟨of_decide_eq_true e3.symm, e1.2.1.2⟩
theorem v90_row (rs : List AV) (x : Int) (h : rs.length ≤ 1048576) : v90_0 rs x = rowK rs x := (P90 rs x h).2
/-- RippleDelete, both. -/
theorem same80 (vs rs ps : List AV) (row : Int) (h1 : vs.length ≤ 1048576) (h2 : rs.length ≤ 1048576) (h3 : ps.length ≤ 1048576) :
    q80 vs rs ps row = true ∧ q81 vs rs ps row = true ∧ v81_0 vs rs ps row = v80_0 vs rs ps row ∧ v81_1 vs rs ps row = v80_1 vs rs ps row ∧ v81_2 vs rs ps row = v80_2 vs rs ps row ∧ v81_4 vs rs ps row = v80_4 vs rs ps row ∧
      (v80_0 vs rs ps row).length ≤ 1048576 ∧ (v80_1 vs rs ps row).length ≤ 1048576 ∧ (v80_2 vs rs ps row).length ≤ 1048576 := by
  obtain ⟨a1, a2, a3, a4⟩ := P127 vs rs ps h1 h2 h3
  obtain ⟨b1, b2, b3, b4⟩ := P129 vs rs ps h1 h2 h3
  unfold q80 q81 v80_0 v80_1 v80_2 v80_4 v81_0 v81_1 v81_2 v81_4
  rw [a1, a2, a3, a4, b1, b2, b3, b4, (P67 vs rs ps h1 h2 h3).1, (P67 vs rs ps h1 h2 h3).2, (P71 vs rs ps h1 h2 h3).1, (P71 vs rs ps h1 h2 h3).2, (P69 vs rs ps row h2).1, (P69 vs rs ps row h2).2, (P72 vs rs ps row h2).1, (P72 vs rs ps row h2).2, v90_row rs row h2]
  cases hc : isC vs rs ps with
  | false => exact ⟨rfl, rfl, rfl, rfl, rfl, rfl, h1, h2, h3⟩
  | true =>
    have hl := isC_len hc
    obtain ⟨k1, k2⟩ := rowK_lt rs row
    by_cases hr : rowK rs row < 0
    · rw [decide_eq_true hr]
      exact ⟨rfl, rfl, rfl, rfl, rfl, rfl, h1, h2, h3⟩
    · rw [decide_eq_false hr]
      obtain ⟨r, r1, r2, r3⟩ := runDel (fI (vs.getD (rowK rs row).toNat .undef) 0) ps vs.length ps.length h1 h3 (fun j hj hv => by
          have := isC_above hc (rowK rs row) (by omega) (by omega) j hj hv
          omega) (rowK rs row, 0, 0, vs, rs, ps) ⟨rfl, rfl, by simp only; omega, rfl, by simp only; omega, by simp only; omega, by simp, by simp, by simp, by simp, fun _ _ _ => rfl⟩ (((ps.length : Int) - 0).toNat + 1) (by simp)
      rw [r1, r2]
      obtain ⟨hole, mv, V, Rr, P⟩ := r
      obtain ⟨_, lv, lr, lp, g0, g1, m0, m1⟩ := r3
      simp only at lv lr lp g0 g1 m0 m1
      have wV : IntKind.i64.wrap ((V.length : Int) - 1) = (V.length : Int) - 1 := wrap_in (by omega) (by omega)
      have wR : IntKind.i64.wrap ((Rr.length : Int) - 1) = (V.length : Int) - 1 := by rw [wrap_in (by omega) (by omega)]; omega
      have t0 : decide ((0 : Int) ≤ 0) = true := rfl
      have t1 : decide (0 ≤ (V.length : Int) - 1) = true := decide_eq_true (by omega)
      have t2 : decide ((V.length : Int) - 1 ≤ (V.length : Int)) = true := decide_eq_true (by omega)
      have t3 : decide ((V.length : Int) - 1 ≤ (Rr.length : Int)) = true := decide_eq_true (by omega)
      have t4 : decide ((V.length : Int) - 1 < (V.length : Int)) = true := decide_eq_true (by omega)
      have t5 : decide ((V.length : Int) - 1 < (Rr.length : Int)) = true := decide_eq_true (by omega)
      have t6 : decide (0 ≤ hole) = true := decide_eq_true g0
      have t7 : decide (hole < (V.length : Int)) = true := decide_eq_true (by omega)
      have t8 : decide (hole < (Rr.length : Int)) = true := decide_eq_true (by omega)
      have t9 : decide (0 ≤ rowK rs row) = true := decide_eq_true (by omega)
      have t10 : decide (rowK rs row < (vs.length : Int)) = true := decide_eq_true (by omega)
      by_cases ha : (V.length : Int) - 1 = hole
      · have da : decide ((V.length : Int) - 1 = hole) = true := decide_eq_true ha
        have da' : decide (hole = (V.length : Int) - 1) = true := decide_eq_true ha.symm
        simp only [ro, wV, wR, t0, t1, t2, t3, t9, t10, da, da', Bool.and_self, cond_true, cond_false, Bool.not_true, List.length_take, List.length_drop, eq_self, true_and]
        exact ⟨rfl, rfl, by omega, by omega, by omega⟩
      · have da : decide ((V.length : Int) - 1 = hole) = false := decide_eq_false ha
        have da' : decide (hole = (V.length : Int) - 1) = false := decide_eq_false (fun e => ha e.symm)
        simp only [ro, List.length_set, wV, wR, t0, t1, t2, t3, t4, t5, t6, t7, t8, t9, t10, da, da', Bool.and_self, cond_true, cond_false, Bool.not_true, List.length_take, List.length_drop, eq_self, true_and]
        exact ⟨rfl, rfl, by omega, by omega, by omega⟩

end Go.Proofs.Ytepfklcdpkpepaa
