/- ripple insert -/
import Derived.Test.YtepfklcdpkpepaaIVs
namespace Go.Proofs.Ytepfklcdpkpepaa
open Go Go.Proofs.VE
set_option linter.unusedVariables false
set_option linter.unusedSimpArgs false
theorem getD_set_ne {xs : List AV} {i j : Nat} {v d : AV} (h : i ≠ j) : (xs.set i v).getD j d = xs.getD j d := by
  simp only [List.getD_eq_getElem?_getD]
  rw [List.getElem?_set_ne h]
abbrev S6 := Int × Int × Int × List AV × List AV × List AV
/-- The two runs hold the same but for the hole. -/
structure InsI (n m : Nat) (s s' : S6) : Prop where
  e1 : s'.1 = s.1
  e2 : s'.2.1 = s.2.1
  e3 : s'.2.2.1 = s.2.2.1
  e4 : s'.2.2.2.2.2 = s.2.2.2.2.2
  lv : s.2.2.2.1.length = n + 1
  lv' : s'.2.2.2.1.length = n + 1
  lr : s.2.2.2.2.1.length = n + 1
  lr' : s'.2.2.2.2.1.length = n + 1
  lp : s.2.2.2.2.2.length = m
  h0 : 0 ≤ s.1
  h1 : s.1 ≤ n
  k0 : -1 ≤ s.2.2.1
  k1 : s.2.2.1 < m
  m0 : 0 ≤ s.2.1
  m1 : s.2.1 + s.2.2.1 + 1 ≤ m
  hat : ∀ j : Nat, (j : Int) ≤ s.2.2.1 → 0 ≤ fI (s.2.2.2.2.2.getD j .undef) 1 ∧ fI (s.2.2.2.2.2.getD j .undef) 1 ≤ n
  av : ∀ j : Nat, (j : Int) ≠ s.1 → s.2.2.2.1.getD j .undef = s'.2.2.2.1.getD j .undef
  ar : ∀ j : Nat, (j : Int) ≠ s.1 → s.2.2.2.2.1.getD j .undef = s'.2.2.2.2.1.getD j .undef
theorem stepIns (x row : Int) (n m : Nat) (hn : n ≤ 1048576) (hm : m ≤ 1048576) (s s' : S6) (h : InsI n m s s') :
    (∃ a b, R82_0 x row s = .next a ∧ R83_0 x row s' = .next b ∧ InsI n m a b ∧ (a.2.2.1 + 1).toNat < (s.2.2.1 + 1).toNat) ∨ ∃ r r', R82_0 x row s = .stop r ∧ R83_0 x row s' = .stop r' ∧ (r.1 = s.1 ∧ r = (s.1, s.2.1, s.2.2.2.1, s.2.2.2.2.1, s.2.2.2.2.2) ∧ r' = (s'.1, s'.2.1, s'.2.2.2.1, s'.2.2.2.2.1, s'.2.2.2.2.2) ∧ InsI n m s s') := by
  obtain ⟨hole, mv, k, V, Rr, P⟩ := s
  obtain ⟨hole', mv', k', V', Rr', P'⟩ := s'
  have h' := h
  obtain ⟨e1, e2, e3, e4, lv, lv', lr, lr', lp, h0, h1, k0, k1, m0, m1, hat, av, ar⟩ := h
  simp only at e1 e2 e3 e4 lv lv' lr lr' lp h0 h1 k0 k1 m0 m1 hat av ar
  subst e1 e2 e3 e4
  by_cases hk : k' ≥ 0
  · have dk1 : decide (k' ≥ 0) = true := decide_eq_true hk
    have dk2 : decide (0 ≤ k') = true := decide_eq_true hk
    have dk3 : decide (k' < (P'.length : Int)) = true := decide_eq_true (by omega)
    by_cases hv : fI (P'.getD k'.toNat .undef) 0 > x
    · have dv : decide (fI (P'.getD k'.toNat .undef) 0 > x) = true := decide_eq_true hv
      obtain ⟨b0, b1⟩ := hat k'.toNat (by omega)
      have hat' : ∀ (c : AV) (j : Nat), (j : Int) ≤ k' - 1 → 0 ≤ fI ((P'.set k'.toNat c).getD j .undef) 1 ∧ fI ((P'.set k'.toNat c).getD j .undef) 1 ≤ n := fun c j hj => by
        rw [getD_set_ne (by omega)]
        exact hat j (by omega)
      by_cases ha : fI (P'.getD k'.toNat .undef) 1 = hole'
      · have da : decide (fI (P'.getD k'.toNat .undef) 1 = hole') = true := decide_eq_true ha
        have da' : decide (hole' = fI (P'.getD k'.toNat .undef) 1) = true := decide_eq_true ha.symm
        refine .inl ⟨(fI (P'.getD k'.toNat .undef) 1, mv', k' - 1, V, Rr, P'.set k'.toNat (AV.agg [AV.int .i64 (fI (P'.getD k'.toNat .undef) 0), AV.int .i64 (fI (P'.getD k'.toNat .undef) 1 + 1)])),
          (fI (P'.getD k'.toNat .undef) 1, mv', k' - 1, V', Rr', P'.set k'.toNat (AV.agg [AV.int .i64 (fI (P'.getD k'.toNat .undef) 0), AV.int .i64 (fI (P'.getD k'.toNat .undef) 1 + 1)])), ?_, ?_, ⟨rfl, rfl, rfl, rfl, lv, lv', lr, lr', by simp only [List.length_set]; exact lp, b0, b1, by simp only; omega, by simp only; omega, m0, by simp only; omega, hat' _, by simp only; rw [ha]; exact av, by simp only; rw [ha]; exact ar⟩, by simp only; omega⟩
        · simp only [R82_0, F82_0, dk1, dk2, dk3, dv, da, Bool.and_self, cond_true]
          rw [wrap_in (a := mv' + 0) (by omega) (by omega), wrap_in (a := k' - 1) (by omega) (by omega), wrap_in (a := fI (P'.getD k'.toNat .undef) 1 + 1) (by omega) (by omega), Int.add_zero]
        · simp only [R83_0, F83_0, dk1, dk2, dk3, dv, da', Bool.and_self, cond_true]
          rw [wrap_in (a := mv' + 0) (by omega) (by omega), wrap_in (a := k' - 1) (by omega) (by omega), wrap_in (a := fI (P'.getD k'.toNat .undef) 1 + 1) (by omega) (by omega), Int.add_zero]
      · have da : decide (fI (P'.getD k'.toNat .undef) 1 = hole') = false := decide_eq_false ha
        have da' : decide (hole' = fI (P'.getD k'.toNat .undef) 1) = false := decide_eq_false (fun e => ha e.symm)
        have c1 : decide (0 ≤ fI (P'.getD k'.toNat .undef) 1) = true := decide_eq_true b0
        have c2 : decide (fI (P'.getD k'.toNat .undef) 1 < (V.length : Int)) = true := decide_eq_true (by omega)
        have c3 : decide (fI (P'.getD k'.toNat .undef) 1 < (Rr.length : Int)) = true := decide_eq_true (by omega)
        have c4 : decide (0 ≤ hole') = true := decide_eq_true h0
        have c5 : decide (hole' < (V.length : Int)) = true := decide_eq_true (by omega)
        have c6 : decide (hole' < (Rr.length : Int)) = true := decide_eq_true (by omega)
        have c2' : decide (fI (P'.getD k'.toNat .undef) 1 < (V'.length : Int)) = true := decide_eq_true (by omega)
        have c3' : decide (fI (P'.getD k'.toNat .undef) 1 < (Rr'.length : Int)) = true := decide_eq_true (by omega)
        have c5' : decide (hole' < (V'.length : Int)) = true := decide_eq_true (by omega)
        have c6' : decide (hole' < (Rr'.length : Int)) = true := decide_eq_true (by omega)
        have gv := av (fI (P'.getD k'.toNat .undef) 1).toNat (by omega)
        have gr := ar (fI (P'.getD k'.toNat .undef) 1).toNat (by omega)
        have keep : ∀ (X Y : List AV) (c : AV), X.length = n + 1 → Y.length = n + 1 → (∀ j : Nat, (j : Int) ≠ hole' → X.getD j .undef = Y.getD j .undef) → ∀ j : Nat, (j : Int) ≠ fI (P'.getD k'.toNat .undef) 1 → (X.set hole'.toNat c).getD j .undef = (Y.set hole'.toNat c).getD j .undef := fun X Y c hX hY hXY j _ => by
          by_cases hj : hole'.toNat = j
          · rw [hj, getD_set (by omega), getD_set (by omega)]
          · rw [getD_set_ne hj, getD_set_ne hj]
            exact hXY j (by omega)
        refine .inl ⟨(fI (P'.getD k'.toNat .undef) 1, mv' + 1, k' - 1, V.set hole'.toNat (AV.agg [AV.int .i64 (fI (V.getD (fI (P'.getD k'.toNat .undef) 1).toNat .undef) 0)]), Rr.set hole'.toNat (AV.agg [AV.int .i64 (fI (Rr.getD (fI (P'.getD k'.toNat .undef) 1).toNat .undef) 0)]), P'.set k'.toNat (AV.agg [AV.int .i64 (fI (P'.getD k'.toNat .undef) 0), AV.int .i64 (fI (P'.getD k'.toNat .undef) 1 + 1)])),
          (fI (P'.getD k'.toNat .undef) 1, mv' + 1, k' - 1, V'.set hole'.toNat (AV.agg [AV.int .i64 (fI (V'.getD (fI (P'.getD k'.toNat .undef) 1).toNat .undef) 0)]), Rr'.set hole'.toNat (AV.agg [AV.int .i64 (fI (Rr'.getD (fI (P'.getD k'.toNat .undef) 1).toNat .undef) 0)]), P'.set k'.toNat (AV.agg [AV.int .i64 (fI (P'.getD k'.toNat .undef) 0), AV.int .i64 (fI (P'.getD k'.toNat .undef) 1 + 1)])), ?_, ?_,
          ⟨rfl, rfl, rfl, rfl, by simp only [List.length_set]; exact lv, by simp only [List.length_set]; exact lv', by simp only [List.length_set]; exact lr, by simp only [List.length_set]; exact lr', by simp only [List.length_set]; exact lp, b0, b1, by simp only; omega, by simp only; omega, by simp only; omega, by simp only; omega, hat' _, by simp only; rw [gv]; exact keep V V' _ lv lv' av, by simp only; rw [gr]; exact keep Rr Rr' _ lr lr' ar⟩, by simp only; omega⟩
        · simp only [R82_0, F82_0, dk1, dk2, dk3, dv, da, c1, c2, c3, c4, c5, c6, Bool.and_self, cond_true, cond_false]
          rw [wrap_in (a := mv' + 1) (by omega) (by omega), wrap_in (a := k' - 1) (by omega) (by omega), wrap_in (a := fI (P'.getD k'.toNat .undef) 1 + 1) (by omega) (by omega)]
        · simp only [R83_0, F83_0, dk1, dk2, dk3, dv, da', c1, c2', c3', c4, c5', c6', Bool.and_self, cond_true, cond_false]
          rw [wrap_in (a := mv' + 1) (by omega) (by omega), wrap_in (a := k' - 1) (by omega) (by omega), wrap_in (a := fI (P'.getD k'.toNat .undef) 1 + 1) (by omega) (by omega)]
    · have dv : decide (fI (P'.getD k'.toNat .undef) 0 > x) = false := decide_eq_false hv
      refine .inr ⟨(hole', mv', V, Rr, P'), (hole', mv', V', Rr', P'), ?_, ?_, rfl, rfl, rfl, h'⟩
      · simp only [R82_0, F82_0, dk1, dk2, dk3, dv, Bool.and_self, cond_true, cond_false]
      · simp only [R83_0, F83_0, dk1, dk2, dk3, dv, Bool.and_self, cond_true, cond_false]
  · have dk1 : decide (k' ≥ 0) = false := decide_eq_false hk
    refine .inr ⟨(hole', mv', V, Rr, P'), (hole', mv', V', Rr', P'), ?_, ?_, rfl, rfl, rfl, h'⟩
    · simp only [R82_0, F82_0, dk1, cond_false]
    · simp only [R83_0, F83_0, dk1, cond_false]
/-- What both runs come to. -/
def InsJ (n m : Nat) (r r' : Int × Int × List AV × List AV × List AV) : Prop := ∃ s s' : S6, InsI n m s s' ∧ r = (s.1, s.2.1, s.2.2.2.1, s.2.2.2.2.1, s.2.2.2.2.2) ∧ r' = (s'.1, s'.2.1, s'.2.2.2.1, s'.2.2.2.2.1, s'.2.2.2.2.2)
theorem runIns (x row : Int) (n m : Nat) (hn : n ≤ 1048576) (hm : m ≤ 1048576) (s s' : S6) (h : InsI n m s s') (fuel : Nat) (hf : (s.2.2.1 + 1).toNat < fuel) : ∃ r r', runW (R82_0 x row) fuel s = some r ∧ runW (R83_0 x row) fuel s' = some r' ∧ InsJ n m r r' :=
  runW_pair (InsI n m) (InsJ n m) (fun s => (s.2.2.1 + 1).toNat) (fun s s' h => by
    rcases stepIns x row n m hn hm s s' h with h | ⟨r, r', h1, h2, _, h3, h4, h5⟩
    · exact .inl h
    · exact .inr ⟨r, r', h1, h2, s, s', h5, h3, h4⟩) fuel fuel s s' h hf hf
theorem isC_at {vs rs ps : List AV} (h : isC vs rs ps = true) (j : Nat) (hj : j < ps.length) : 0 ≤ fI (ps.getD j .undef) 1 ∧ fI (ps.getD j .undef) 1 ≤ vs.length := by
  unfold isC at h
  simp only [Bool.and_eq_true] at h
  have e := (noneB_iff.1 h.2.2.2.2) (j : Int) (by omega) (by omega)
  simp only [badP, badA, v68, Bool.or_eq_false_iff, Bool.not_eq_false', Bool.and_eq_true, decide_eq_true_eq, Int.toNat_natCast] at e
  exact e.1.2.1

end Go.Proofs.Ytepfklcdpkpepaa
