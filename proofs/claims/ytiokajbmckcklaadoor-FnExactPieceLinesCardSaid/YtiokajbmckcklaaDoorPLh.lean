/- helpers -/
import Derived.Test.YtiokajbmckcklaaDoorPL2
import Derived.Test.YtiokajbmckcklaaDoorVEz
namespace Go.Proofs.YtiokajbmckcklaaDoor
open Go Go.Proofs.VE
set_option linter.unusedVariables false
set_option linter.unusedSimpArgs false
theorem P62 {a0 : List AV} {a1 : Int} (h : a0.length ≤ 9223372036854775807) (h0 : 0 ≤ a1) (h1 : a1 ≤ 1048576) : v62_0 a0 a1 = if a1 < a0.length then -1 else a1 - a0.length := by
  unfold v62_0
  rw [wrap_in (a := a1 - a0.length) (by omega) (by omega)]
  by_cases hl : a1 < a0.length
  · have e : decide (a1 - (a0.length : Int) < 0) = true := decide_eq_true (by omega)
    rw [e, if_pos hl]
    rfl
  · have e : decide (a1 - (a0.length : Int) < 0) = false := decide_eq_false (by omega)
    rw [e, if_neg hl]
    rfl
theorem P63 {a0 : List AV} {a1 : Int} (h : a0.length ≤ 9223372036854775807) (h0 : 0 ≤ a1) (h1 : a1 ≤ 1048576) : v63_0 a0 a1 = if a1 < a0.length then -1 else a1 - a0.length := by
  unfold v63_0
  rw [wrap_in (a := a1 - a0.length) (by omega) (by omega)]
  by_cases hl : a1 < a0.length
  · have e : decide (a1 - (a0.length : Int) < 0) = true := decide_eq_true (by omega)
    rw [e, if_pos hl]
    rfl
  · have e : decide (a1 - (a0.length : Int) < 0) = false := decide_eq_false (by omega)
    rw [e, if_neg hl]
    rfl
theorem P34 {a0_0 a0_1 a0_2 : List AV} {a1 : Int} (ha0_0 : a0_0.length ≤ 9223372036854775807) (ha0_1 : a0_1.length ≤ 9223372036854775807) (ha0_2 : a0_2.length ≤ 9223372036854775807) (h0 : 0 ≤ a1) (h1 : a1 ≤ 1048576) : v34_0 a0_0 a0_1 a0_2 a1 = if a1 < (a0_0.length : Int) + (a0_1.length : Int) + (a0_2.length : Int) then -1 else a1 - ((a0_0.length : Int) + (a0_1.length : Int) + (a0_2.length : Int)) := by
  unfold v34_0
  rw [P62 ha0_0 (by omega) (by omega)]
  by_cases c0 : a1 < (a0_0.length : Int)
  · rw [if_pos c0, if_pos (by omega)]; rfl
  · rw [if_neg c0, decide_eq_false (by omega : ¬ a1 - (a0_0.length : Int) < 0), cond_false]
    rw [P62 ha0_1 (by omega) (by omega)]
    by_cases c1 : a1 - (a0_0.length : Int) < (a0_1.length : Int)
    · rw [if_pos c1, if_pos (by omega)]; rfl
    · rw [if_neg c1, decide_eq_false (by omega : ¬ a1 - (a0_0.length : Int) - (a0_1.length : Int) < 0), cond_false]
      rw [P63 ha0_2 (by omega) (by omega)]
      by_cases c2 : a1 - (a0_0.length : Int) - (a0_1.length : Int) < (a0_2.length : Int)
      · rw [if_pos c2, if_pos (by omega)]; rfl
      · rw [if_neg c2, decide_eq_false (by omega : ¬ a1 - (a0_0.length : Int) - (a0_1.length : Int) - (a0_2.length : Int) < 0), cond_false, if_neg (by omega)]
        omega
def cp14 (x : AV) : AV := (AV.agg [AV.int .i64 (fI x 0)])
theorem P14 (xs : List AV) (h : xs.length ≤ 1048576) : q14 xs = true ∧ v14_0 xs = xs.map cp14 := by
  have hr : runW (R14_0 xs) (((xs.length : Int) - 0).toNat + 1) (0, List.replicate (Int.toNat (xs.length : Int)) (AV.int .i64 0)) = some (xs.map cp14) := by
    refine runW_copy (c := cp14) xs (fun i ys h0 hn hl => ?_) (fun ys => ?_)
    · simp only [R14_0, F14_0]
      have hl' : i < ys.length := by omega
      simp only [h0, hn, hl', decide_true, Bool.and_self, cond_true]
      rw [wrap_in (a := i + 1) (by omega) (by omega)]
      rfl
    · simp only [R14_0, F14_0, Int.lt_irrefl, decide_false, cond_false]
  unfold q14 v14_0
  rw [hr]
  refine ⟨?_, rfl⟩
  simp only [ro, Bool.and_true, Bool.and_eq_true, decide_eq_true_eq]
  omega
def cp65 (x : AV) : AV := (AV.agg [AV.int .i64 (v89_0 (fI x 0) (fI x 1)), AV.int .i64 (v89_1 (fI x 0) (fI x 1))])
theorem P65 (xs : List AV) (h : xs.length ≤ 1048576) : q65 xs = true ∧ v65_0 xs = xs.map cp65 := by
  have hr : runW (R65_0 xs) (((xs.length : Int) - 0).toNat + 1) (0, List.replicate (Int.toNat (xs.length : Int)) (AV.agg [AV.int .i64 0, AV.int .i64 0])) = some (xs.map cp65) := by
    refine runW_copy (c := cp65) xs (fun i ys h0 hn hl => ?_) (fun ys => ?_)
    · simp only [R65_0, F65_0]
      have hl' : i < ys.length := by omega
      simp only [h0, hn, hl', decide_true, Bool.and_self, cond_true]
      rw [wrap_in (a := i + 1) (by omega) (by omega)]
      rfl
    · simp only [R65_0, F65_0, Int.lt_irrefl, decide_false, cond_false]
  unfold q65 v65_0
  rw [hr]
  refine ⟨?_, rfl⟩
  simp only [ro, Bool.and_true, Bool.and_eq_true, decide_eq_true_eq]
  omega
theorem P16 (xs ys : List AV) (h : xs.length ≤ 1048576) : q16 xs ys = true ∧ v16_0 xs ys = eqL ee1 xs ys := by
  have hr : (xs.length : Int) = ys.length → runW (R16_0 xs ys) (((xs.length : Int) - 0).toNat + 1) 0 = some (ro (findF (fun i => !ee1 (xs.getD i.toNat .undef) (ys.getD i.toNat .undef)) xs.length 0) (.inl ()) fun _ => .inr ()) := fun hl => by
    refine runW_find (fun i => i) xs.length _ _ _ (fun i h0 hn => ?_) ?_ xs.length _ 0 (Int.le_refl 0) (by omega) (by omega)
    · have hn' : i < ys.length := by omega
      simp only [R16_0, F16_0, h0, hn, hn', decide_true, Bool.and_self, cond_true]
      rw [wrap_in (a := i + 1) (by omega) (by omega)]
      generalize xs.getD i.toNat .undef = x
      generalize ys.getD i.toNat .undef = y
      congr 1
      all_goals first | rfl | (simp only [ee1]; done) | (simp only [ee1]; cases decide (fI x 0 = fI y 0) <;> rfl)
    · simp only [R16_0, F16_0, Int.lt_irrefl, decide_false, cond_false]
  unfold q16 v16_0 eqL
  by_cases hl : (xs.length : Int) = ys.length
  · rw [decide_eq_true hl, hr hl]
    cases findF (fun i => !ee1 (xs.getD i.toNat .undef) (ys.getD i.toNat .undef)) xs.length 0 <;> exact ⟨rfl, rfl⟩
  · rw [decide_eq_false hl]
    exact ⟨rfl, rfl⟩
theorem P67 (xs ys : List AV) (h : xs.length ≤ 1048576) : q67 xs ys = true ∧ v67_0 xs ys = eqL ee2 xs ys := by
  have hr : (xs.length : Int) = ys.length → runW (R67_0 xs ys) (((xs.length : Int) - 0).toNat + 1) 0 = some (ro (findF (fun i => !ee2 (xs.getD i.toNat .undef) (ys.getD i.toNat .undef)) xs.length 0) (.inl ()) fun _ => .inr ()) := fun hl => by
    refine runW_find (fun i => i) xs.length _ _ _ (fun i h0 hn => ?_) ?_ xs.length _ 0 (Int.le_refl 0) (by omega) (by omega)
    · have hn' : i < ys.length := by omega
      simp only [R67_0, F67_0, h0, hn, hn', decide_true, Bool.and_self, cond_true]
      rw [wrap_in (a := i + 1) (by omega) (by omega)]
      generalize xs.getD i.toNat .undef = x
      generalize ys.getD i.toNat .undef = y
      congr 1
      all_goals first | rfl | (simp only [ee2, v93_0]; done) | (simp only [ee2, v93_0]; cases decide (fI x 0 = fI y 0) <;> cases decide (fI x 1 = fI y 1) <;> rfl)
    · simp only [R67_0, F67_0, Int.lt_irrefl, decide_false, cond_false]
  unfold q67 v67_0 eqL
  by_cases hl : (xs.length : Int) = ys.length
  · rw [decide_eq_true hl, hr hl]
    cases findF (fun i => !ee2 (xs.getD i.toNat .undef) (ys.getD i.toNat .undef)) xs.length 0 <;> exact ⟨rfl, rfl⟩
  · rw [decide_eq_false hl]
    exact ⟨rfl, rfl⟩
def mk76 (t : Int) : AV := AV.agg [AV.int .i64 (t)]
theorem P76 (xs : List AV) (k : Int) (h : xs.length ≤ 1048576) (hk : 0 ≤ k) (hk' : k ≤ 1099511627776) : ∃ ys, q76 k xs = true ∧ v76_0 k xs = k + 1 * xs.length ∧ v76_1 k xs = ys ∧ ys.length = xs.length ∧ ∀ i : Nat, i < xs.length → ys.getD i .undef = mk76 (k + 1 * i) := by
  have step : ∀ (t i : Int) (ys : List AV), 0 ≤ i → i < xs.length → ys.length = xs.length → 0 ≤ t → t + 1 ≤ 4398046511104 → R76_0 (t, i, ys) = .next (t + 1, i + 1, ys.set i.toNat (mk76 t)) := fun t i ys h0 hn hl ht hM => by
    have hl' : i < ys.length := by omega
    have hlN : i.toNat < ys.length := by omega
    simp only [R76_0, F76_0, List.length_set, h0, hl', decide_true, Bool.and_self, cond_true, List.set_set]
    have gs : ∀ v : AV, (ys.set i.toNat v).getD i.toNat AV.undef = v := fun v => getD_set hlN
    try simp only [gs]
    rw [wrap_in (a := t + 1) (by omega) (by omega)]
    rw [wrap_in (a := i + 1) (by omega) (by omega)]
    simp [mk76, fI, AV.cells, Int.add_assoc]
  obtain ⟨ys, e1, e2, e3⟩ := runW_mark (f := R76_0) 1 mk76 xs k 4398046511104 (by omega) hk (by omega) step (fun t ys hl => by simp only [R76_0, F76_0, hl, Int.lt_irrefl, decide_false, cond_false])
  refine ⟨ys, ?_, ?_, ?_, e2, e3⟩
  · unfold q76; rw [e1]; rfl
  · unfold v76_0; rw [e1]; rfl
  · unfold v76_1; rw [e1]; rfl
def mk77 (t : Int) : AV := AV.agg [AV.int .i64 (t), AV.int .i64 (t + 1)]
theorem P77 (xs : List AV) (k : Int) (h : xs.length ≤ 1048576) (hk : 0 ≤ k) (hk' : k ≤ 1099511627776) : ∃ ys, q77 k xs = true ∧ v77_0 k xs = k + 2 * xs.length ∧ v77_1 k xs = ys ∧ ys.length = xs.length ∧ ∀ i : Nat, i < xs.length → ys.getD i .undef = mk77 (k + 2 * i) := by
  have step : ∀ (t i : Int) (ys : List AV), 0 ≤ i → i < xs.length → ys.length = xs.length → 0 ≤ t → t + 2 ≤ 4398046511104 → R77_0 (t, i, ys) = .next (t + 2, i + 1, ys.set i.toNat (mk77 t)) := fun t i ys h0 hn hl ht hM => by
    have hl' : i < ys.length := by omega
    have hlN : i.toNat < ys.length := by omega
    simp only [R77_0, F77_0, List.length_set, h0, hl', decide_true, Bool.and_self, cond_true, List.set_set]
    have gs : ∀ v : AV, (ys.set i.toNat v).getD i.toNat AV.undef = v := fun v => getD_set hlN
    try simp only [gs]
    rw [wrap_in (a := t + 1) (by omega) (by omega)]
    rw [wrap_in (a := t + 1 + 1) (by omega) (by omega)]
    rw [wrap_in (a := i + 1) (by omega) (by omega)]
    simp [mk77, fI, AV.cells, Int.add_assoc]
  obtain ⟨ys, e1, e2, e3⟩ := runW_mark (f := R77_0) 2 mk77 xs k 4398046511104 (by omega) hk (by omega) step (fun t ys hl => by simp only [R77_0, F77_0, hl, Int.lt_irrefl, decide_false, cond_false])
  refine ⟨ys, ?_, ?_, ?_, e2, e3⟩
  · unfold q77; rw [e1]; rfl
  · unfold v77_0; rw [e1]; rfl
  · unfold v77_1; rw [e1]; rfl
theorem v42 (a b c : Int) : v42_0 a b c = (decide (b ≤ a) && decide (a ≤ c)) := by
  unfold v42_0; cases h : decide (a ≥ b) <;> simp_all
theorem run86 (xs : List AV) (h : xs.length ≤ 1048576) : runW (R86_0 xs) (((xs.length : Int) - 0).toNat + 1) 0 = some (ro (findF (fun i => !v42_0 (fI (xs.getD i.toNat .undef) 0) (-999) 999) xs.length 0) (.inl ()) fun _ => .inr ()) := by
  refine runW_find (fun i => i) xs.length _ _ _ (fun i h0 hn => ?_) ?_ xs.length _ 0 (Int.le_refl 0) (by omega) (by omega)
  · simp only [R86_0, F86_0, h0, hn, decide_true, Bool.and_self, cond_true]
    rw [wrap_in (a := i + 1) (by omega) (by omega)]
  · simp only [R86_0, F86_0, Int.lt_irrefl, decide_false, cond_false]
theorem run112 (xs : List AV) (lo hi : AV) (h : xs.length ≤ 1048576) : runW (R112_0 xs lo hi xs.length) (((xs.length : Int) - 0).toNat + 1) 0 = some (ro (findF (fun i => v105_0 (fI (xs.getD i.toNat .undef) 0) lo hi) xs.length 0) (.inl ()) fun i => .inr i) := by
  refine runW_find (fun i => i) xs.length _ _ _ (fun i h0 hn => ?_) ?_ xs.length _ 0 (Int.le_refl 0) (by omega) (by omega)
  · simp only [R112_0, F112_0, h0, hn, decide_true, Bool.and_self, cond_true]
    rw [wrap_in (a := i + 1) (by omega) (by omega)]
  · simp only [R112_0, F112_0, Int.lt_irrefl, decide_false, cond_false]
theorem P86 (xs : List AV) (h : xs.length ≤ 1048576) : q86 xs = true ∧ v86_0 xs = ((findF (fun i => !v42_0 (fI (xs.getD i.toNat .undef) 0) (-999) 999) xs.length 0).isNone && decide (xs.length ≤ 64)) := by
  unfold q86 v86_0
  rw [run86 xs h]
  cases findF (fun i => !v42_0 (fI (xs.getD i.toNat .undef) 0) (-999) 999) xs.length 0 with
  | none => refine ⟨rfl, ?_⟩; simp only [ro, sumE, Option.isNone_none, Bool.true_and]; congr 1; simp only [eq_iff_iff]; omega
  | some j => exact ⟨rfl, rfl⟩
theorem P91 (xs : List AV) (lo hi : Int) (h : xs.length ≤ 1048576) : q91 xs lo hi = true ∧ v91_0 xs lo hi = (findF (fun i => !v42_0 (fI (xs.getD i.toNat .undef) 0) lo hi) xs.length 0).isNone := by
  unfold q91 v91_0 v104_0 q104 q112 v112_0
  rw [run112 xs _ _ h]
  have e : (fun i : Int => v105_0 (fI (xs.getD i.toNat .undef) 0) (AV.int .i64 lo) (AV.int .i64 hi)) = fun i => !v42_0 (fI (xs.getD i.toNat .undef) 0) lo hi := by
    funext i
    unfold v105_0
    rw [v42, show fI (AV.int .i64 lo) 0 = lo from rfl, show fI (AV.int .i64 hi) 0 = hi from rfl]
    generalize fI (xs.getD i.toNat .undef) 0 = z
    by_cases h1 : z < lo <;> by_cases h2 : z > hi <;> simp [h1, h2] <;> omega
  rw [e]
  cases hf : findF (fun i => !v42_0 (fI (xs.getD i.toNat .undef) 0) lo hi) xs.length 0 with
  | none => exact ⟨rfl, rfl⟩
  | some j =>
    have := (findF_some _ _ hf).1
    refine ⟨rfl, ?_⟩
    simp [ro, sumE]
    omega
theorem P90 (xs : List AV) (h : xs.length ≤ 1048576) : q90 xs = true ∧ v90_0 xs = v86_0 xs := by
  rw [(P86 xs h).2]
  unfold q90 v90_0
  rw [(P91 xs _ _ h).1, (P91 xs _ _ h).2]
  have e64 : decide ((xs.length : Int) ≤ 64) = decide (xs.length ≤ 64) := by congr 1; simp only [eq_iff_iff]; omega
  rw [e64]
  cases decide (xs.length ≤ 64) <;> simp

end Go.Proofs.YtiokajbmckcklaaDoor
