/- helpers -/
import Derived.Test.YtdhhceamknidmaaSJ2
import Derived.Test.YtdhhceamknidmaaVEz
namespace Go.Proofs.Ytdhhceamknidmaa
open Go Go.Proofs.VE
set_option linter.unusedVariables false
set_option linter.unusedSimpArgs false
theorem P79 {a0 : List AV} {a1 : Int} (h : a0.length ≤ 9223372036854775807) (h0 : 0 ≤ a1) (h1 : a1 ≤ 1048576) : v79_0 a0 a1 = if a1 < a0.length then -1 else a1 - a0.length := by
  unfold v79_0
  rw [wrap_in (a := a1 - a0.length) (by omega) (by omega)]
  by_cases hl : a1 < a0.length
  · have e : decide (a1 - (a0.length : Int) < 0) = true := decide_eq_true (by omega)
    rw [e, if_pos hl]
    rfl
  · have e : decide (a1 - (a0.length : Int) < 0) = false := decide_eq_false (by omega)
    rw [e, if_neg hl]
    rfl
theorem P88 {a0 : List AV} {a1 : Int} (h : a0.length ≤ 9223372036854775807) (h0 : 0 ≤ a1) (h1 : a1 ≤ 1048576) : v88_0 a0 a1 = if a1 < a0.length then -1 else a1 - a0.length := by
  unfold v88_0
  rw [wrap_in (a := a1 - a0.length) (by omega) (by omega)]
  by_cases hl : a1 < a0.length
  · have e : decide (a1 - (a0.length : Int) < 0) = true := decide_eq_true (by omega)
    rw [e, if_pos hl]
    rfl
  · have e : decide (a1 - (a0.length : Int) < 0) = false := decide_eq_false (by omega)
    rw [e, if_neg hl]
    rfl
theorem P36 {a0_0 a0_1 a0_2 : List AV} {a1 : Int} (ha0_0 : a0_0.length ≤ 9223372036854775807) (ha0_1 : a0_1.length ≤ 9223372036854775807) (ha0_2 : a0_2.length ≤ 9223372036854775807) (h0 : 0 ≤ a1) (h1 : a1 ≤ 1048576) : v36_0 a0_0 a0_1 a0_2 a1 = if a1 < (a0_0.length : Int) + (a0_1.length : Int) + (a0_2.length : Int) then -1 else a1 - ((a0_0.length : Int) + (a0_1.length : Int) + (a0_2.length : Int)) := by
  unfold v36_0
  rw [P79 ha0_0 (by omega) (by omega)]
  by_cases c0 : a1 < (a0_0.length : Int)
  · rw [if_pos c0, if_pos (by omega)]; rfl
  · rw [if_neg c0, decide_eq_false (by omega : ¬ a1 - (a0_0.length : Int) < 0), cond_false]
    rw [P79 ha0_1 (by omega) (by omega)]
    by_cases c1 : a1 - (a0_0.length : Int) < (a0_1.length : Int)
    · rw [if_pos c1, if_pos (by omega)]; rfl
    · rw [if_neg c1, decide_eq_false (by omega : ¬ a1 - (a0_0.length : Int) - (a0_1.length : Int) < 0), cond_false]
      rw [P88 ha0_2 (by omega) (by omega)]
      by_cases c2 : a1 - (a0_0.length : Int) - (a0_1.length : Int) < (a0_2.length : Int)
      · rw [if_pos c2, if_pos (by omega)]; rfl
      · rw [if_neg c2, decide_eq_false (by omega : ¬ a1 - (a0_0.length : Int) - (a0_1.length : Int) - (a0_2.length : Int) < 0), cond_false, if_neg (by omega)]
        omega
def cp27 (x : AV) : AV := (AV.agg [AV.int .i64 (fI x 0)])
theorem P27 (xs : List AV) (h : xs.length ≤ 1048576) : q27 xs = true ∧ v27_0 xs = xs.map cp27 := by
  have hr : runW (R27_0 xs) (((xs.length : Int) - 0).toNat + 1) (0, List.replicate (Int.toNat (xs.length : Int)) (AV.int .i64 0)) = some (xs.map cp27) := by
    refine runW_copy (c := cp27) xs (fun i ys h0 hn hl => ?_) (fun ys => ?_)
    · simp only [R27_0, F27_0]
      have hl' : i < ys.length := by omega
      simp only [h0, hn, hl', decide_true, Bool.and_self, cond_true]
      rw [wrap_in (a := i + 1) (by omega) (by omega)]
      rfl
    · simp only [R27_0, F27_0, Int.lt_irrefl, decide_false, cond_false]
  unfold q27 v27_0
  rw [hr]
  refine ⟨?_, rfl⟩
  simp only [ro, Bool.and_true, Bool.and_eq_true, decide_eq_true_eq]
  omega
def cp89 (x : AV) : AV := (AV.agg [AV.int .i64 (v121_0 (fI x 0) (fI x 1)), AV.int .i64 (v121_1 (fI x 0) (fI x 1))])
theorem P89 (xs : List AV) (h : xs.length ≤ 1048576) : q89 xs = true ∧ v89_0 xs = xs.map cp89 := by
  have hr : runW (R89_0 xs) (((xs.length : Int) - 0).toNat + 1) (0, List.replicate (Int.toNat (xs.length : Int)) (AV.agg [AV.int .i64 0, AV.int .i64 0])) = some (xs.map cp89) := by
    refine runW_copy (c := cp89) xs (fun i ys h0 hn hl => ?_) (fun ys => ?_)
    · simp only [R89_0, F89_0]
      have hl' : i < ys.length := by omega
      simp only [h0, hn, hl', decide_true, Bool.and_self, cond_true]
      rw [wrap_in (a := i + 1) (by omega) (by omega)]
      rfl
    · simp only [R89_0, F89_0, Int.lt_irrefl, decide_false, cond_false]
  unfold q89 v89_0
  rw [hr]
  refine ⟨?_, rfl⟩
  simp only [ro, Bool.and_true, Bool.and_eq_true, decide_eq_true_eq]
  omega
theorem P30 (xs ys : List AV) (h : xs.length ≤ 1048576) : q30 xs ys = true ∧ v30_0 xs ys = eqL ee1 xs ys := by
  have hr : (xs.length : Int) = ys.length → runW (R30_0 xs ys) (((xs.length : Int) - 0).toNat + 1) 0 = some (ro (findF (fun i => !ee1 (xs.getD i.toNat .undef) (ys.getD i.toNat .undef)) xs.length 0) (.inl ()) fun _ => .inr ()) := fun hl => by
    refine runW_find (fun i => i) xs.length _ _ _ (fun i h0 hn => ?_) ?_ xs.length _ 0 (Int.le_refl 0) (by omega) (by omega)
    · have hn' : i < ys.length := by omega
      simp only [R30_0, F30_0, h0, hn, hn', decide_true, Bool.and_self, cond_true]
      rw [wrap_in (a := i + 1) (by omega) (by omega)]
      generalize xs.getD i.toNat .undef = x
      generalize ys.getD i.toNat .undef = y
      congr 1
      all_goals first | rfl | (simp only [ee1]; done) | (simp only [ee1]; cases decide (fI x 0 = fI y 0) <;> rfl)
    · simp only [R30_0, F30_0, Int.lt_irrefl, decide_false, cond_false]
  unfold q30 v30_0 eqL
  by_cases hl : (xs.length : Int) = ys.length
  · rw [decide_eq_true hl, hr hl]
    cases findF (fun i => !ee1 (xs.getD i.toNat .undef) (ys.getD i.toNat .undef)) xs.length 0 <;> exact ⟨rfl, rfl⟩
  · rw [decide_eq_false hl]
    exact ⟨rfl, rfl⟩
theorem P90 (xs ys : List AV) (h : xs.length ≤ 1048576) : q90 xs ys = true ∧ v90_0 xs ys = eqL ee2 xs ys := by
  have hr : (xs.length : Int) = ys.length → runW (R90_0 xs ys) (((xs.length : Int) - 0).toNat + 1) 0 = some (ro (findF (fun i => !ee2 (xs.getD i.toNat .undef) (ys.getD i.toNat .undef)) xs.length 0) (.inl ()) fun _ => .inr ()) := fun hl => by
    refine runW_find (fun i => i) xs.length _ _ _ (fun i h0 hn => ?_) ?_ xs.length _ 0 (Int.le_refl 0) (by omega) (by omega)
    · have hn' : i < ys.length := by omega
      simp only [R90_0, F90_0, h0, hn, hn', decide_true, Bool.and_self, cond_true]
      rw [wrap_in (a := i + 1) (by omega) (by omega)]
      generalize xs.getD i.toNat .undef = x
      generalize ys.getD i.toNat .undef = y
      congr 1
      all_goals first | rfl | (simp only [ee2, v122_0]; done) | (simp only [ee2, v122_0]; cases decide (fI x 0 = fI y 0) <;> cases decide (fI x 1 = fI y 1) <;> rfl)
    · simp only [R90_0, F90_0, Int.lt_irrefl, decide_false, cond_false]
  unfold q90 v90_0 eqL
  by_cases hl : (xs.length : Int) = ys.length
  · rw [decide_eq_true hl, hr hl]
    cases findF (fun i => !ee2 (xs.getD i.toNat .undef) (ys.getD i.toNat .undef)) xs.length 0 <;> exact ⟨rfl, rfl⟩
  · rw [decide_eq_false hl]
    exact ⟨rfl, rfl⟩
def mk32 (t : Int) : AV := AV.agg [AV.int .i64 (t)]
theorem P32 (xs : List AV) (k : Int) (h : xs.length ≤ 1048576) (hk : 0 ≤ k) (hk' : k ≤ 1099511627776) : ∃ ys, q32 k xs = true ∧ v32_0 k xs = k + 1 * xs.length ∧ v32_1 k xs = ys ∧ ys.length = xs.length ∧ ∀ i : Nat, i < xs.length → ys.getD i .undef = mk32 (k + 1 * i) := by
  have step : ∀ (t i : Int) (ys : List AV), 0 ≤ i → i < xs.length → ys.length = xs.length → 0 ≤ t → t + 1 ≤ 4398046511104 → R32_0 (t, i, ys) = .next (t + 1, i + 1, ys.set i.toNat (mk32 t)) := fun t i ys h0 hn hl ht hM => by
    have hl' : i < ys.length := by omega
    have hlN : i.toNat < ys.length := by omega
    simp only [R32_0, F32_0, List.length_set, h0, hl', decide_true, Bool.and_self, cond_true, List.set_set]
    have gs : ∀ v : AV, (ys.set i.toNat v).getD i.toNat AV.undef = v := fun v => getD_set hlN
    try simp only [gs]
    rw [wrap_in (a := t + 1) (by omega) (by omega)]
    rw [wrap_in (a := i + 1) (by omega) (by omega)]
    simp [mk32, fI, AV.cells, Int.add_assoc]
  obtain ⟨ys, e1, e2, e3⟩ := runW_mark (f := R32_0) 1 mk32 xs k 4398046511104 (by omega) hk (by omega) step (fun t ys hl => by simp only [R32_0, F32_0, hl, Int.lt_irrefl, decide_false, cond_false])
  refine ⟨ys, ?_, ?_, ?_, e2, e3⟩
  · unfold q32; rw [e1]; rfl
  · unfold v32_0; rw [e1]; rfl
  · unfold v32_1; rw [e1]; rfl
def mk94 (t : Int) : AV := AV.agg [AV.int .i64 (t), AV.int .i64 (t + 1)]
theorem P94 (xs : List AV) (k : Int) (h : xs.length ≤ 1048576) (hk : 0 ≤ k) (hk' : k ≤ 1099511627776) : ∃ ys, q94 k xs = true ∧ v94_0 k xs = k + 2 * xs.length ∧ v94_1 k xs = ys ∧ ys.length = xs.length ∧ ∀ i : Nat, i < xs.length → ys.getD i .undef = mk94 (k + 2 * i) := by
  have step : ∀ (t i : Int) (ys : List AV), 0 ≤ i → i < xs.length → ys.length = xs.length → 0 ≤ t → t + 2 ≤ 4398046511104 → R94_0 (t, i, ys) = .next (t + 2, i + 1, ys.set i.toNat (mk94 t)) := fun t i ys h0 hn hl ht hM => by
    have hl' : i < ys.length := by omega
    have hlN : i.toNat < ys.length := by omega
    simp only [R94_0, F94_0, List.length_set, h0, hl', decide_true, Bool.and_self, cond_true, List.set_set]
    have gs : ∀ v : AV, (ys.set i.toNat v).getD i.toNat AV.undef = v := fun v => getD_set hlN
    try simp only [gs]
    rw [wrap_in (a := t + 1) (by omega) (by omega)]
    rw [wrap_in (a := t + 1 + 1) (by omega) (by omega)]
    rw [wrap_in (a := i + 1) (by omega) (by omega)]
    simp [mk94, fI, AV.cells, Int.add_assoc]
  obtain ⟨ys, e1, e2, e3⟩ := runW_mark (f := R94_0) 2 mk94 xs k 4398046511104 (by omega) hk (by omega) step (fun t ys hl => by simp only [R94_0, F94_0, hl, Int.lt_irrefl, decide_false, cond_false])
  refine ⟨ys, ?_, ?_, ?_, e2, e3⟩
  · unfold q94; rw [e1]; rfl
  · unfold v94_0; rw [e1]; rfl
  · unfold v94_1; rw [e1]; rfl
theorem P44 (ys : List AV) (k : Int) (h : ys.length ≤ 1048576) (hk : 0 ≤ k) (hk' : k ≤ 1099511627776) (hy : ∀ i : Nat, i < ys.length → ys.getD i .undef = mk32 (k + 1 * i)) : q44 ys k = true ∧ v44_0 ys k = k + 1 * ys.length := by
  have hr := runW_held (f := R44_0 ys) 1 ys.length k 4398046511104 (by omega) hk (by omega) (fun i h0 hn ht hM => by
    have e := hy i.toNat (by omega)
    rw [show ((i.toNat : Nat) : Int) = i by omega] at e
    simp only [R44_0, F44_0, h0, hn, decide_true, Bool.and_self, cond_true]
    rw [e]
    generalize k + 1 * i = t at *
    rw [wrap_in (a := t + 1) (by omega) (by omega)]
    rw [wrap_in (a := i + 1) (by omega) (by omega)]
    simp [mk32, fI, AV.cells, Int.add_assoc]) (fun t => by simp only [R44_0, F44_0, Int.lt_irrefl, decide_false, cond_false])
  unfold q44 v44_0
  rw [hr]
  exact ⟨rfl, rfl⟩
theorem v67 (a b c : Int) : v67_0 a b c = (decide (b ≤ a) && decide (a ≤ c)) := by
  unfold v67_0; cases h : decide (a ≥ b) <;> simp_all
theorem run81 (xs : List AV) (h : xs.length ≤ 1048576) : runW (R81_0 xs) (((xs.length : Int) - 0).toNat + 1) 0 = some (ro (findF (fun i => !v67_0 (fI (xs.getD i.toNat .undef) 0) (-999) 999) xs.length 0) (.inl ()) fun _ => .inr ()) := by
  refine runW_find (fun i => i) xs.length _ _ _ (fun i h0 hn => ?_) ?_ xs.length _ 0 (Int.le_refl 0) (by omega) (by omega)
  · simp only [R81_0, F81_0, h0, hn, decide_true, Bool.and_self, cond_true]
    rw [wrap_in (a := i + 1) (by omega) (by omega)]
  · simp only [R81_0, F81_0, Int.lt_irrefl, decide_false, cond_false]
theorem run154 (xs : List AV) (lo hi : AV) (h : xs.length ≤ 1048576) : runW (R154_0 xs lo hi xs.length) (((xs.length : Int) - 0).toNat + 1) 0 = some (ro (findF (fun i => v142_0 (fI (xs.getD i.toNat .undef) 0) lo hi) xs.length 0) (.inl ()) fun i => .inr i) := by
  refine runW_find (fun i => i) xs.length _ _ _ (fun i h0 hn => ?_) ?_ xs.length _ 0 (Int.le_refl 0) (by omega) (by omega)
  · simp only [R154_0, F154_0, h0, hn, decide_true, Bool.and_self, cond_true]
    rw [wrap_in (a := i + 1) (by omega) (by omega)]
  · simp only [R154_0, F154_0, Int.lt_irrefl, decide_false, cond_false]
theorem P81 (xs : List AV) (h : xs.length ≤ 1048576) : q81 xs = true ∧ v81_0 xs = ((findF (fun i => !v67_0 (fI (xs.getD i.toNat .undef) 0) (-999) 999) xs.length 0).isNone && decide (xs.length ≤ 64)) := by
  unfold q81 v81_0
  rw [run81 xs h]
  cases findF (fun i => !v67_0 (fI (xs.getD i.toNat .undef) 0) (-999) 999) xs.length 0 with
  | none => refine ⟨rfl, ?_⟩; simp only [ro, sumE, Option.isNone_none, Bool.true_and]; congr 1; simp only [eq_iff_iff]; omega
  | some j => exact ⟨rfl, rfl⟩
theorem P112 (xs : List AV) (lo hi : Int) (h : xs.length ≤ 1048576) : q112 xs lo hi = true ∧ v112_0 xs lo hi = (findF (fun i => !v67_0 (fI (xs.getD i.toNat .undef) 0) lo hi) xs.length 0).isNone := by
  unfold q112 v112_0 v141_0 q141 q154 v154_0
  rw [run154 xs _ _ h]
  have e : (fun i : Int => v142_0 (fI (xs.getD i.toNat .undef) 0) (AV.int .i64 lo) (AV.int .i64 hi)) = fun i => !v67_0 (fI (xs.getD i.toNat .undef) 0) lo hi := by
    funext i
    unfold v142_0
    rw [v67, show fI (AV.int .i64 lo) 0 = lo from rfl, show fI (AV.int .i64 hi) 0 = hi from rfl]
    generalize fI (xs.getD i.toNat .undef) 0 = z
    by_cases h1 : z < lo <;> by_cases h2 : z > hi <;> simp [h1, h2] <;> omega
  rw [e]
  cases hf : findF (fun i => !v67_0 (fI (xs.getD i.toNat .undef) 0) lo hi) xs.length 0 with
  | none => exact ⟨rfl, rfl⟩
  | some j =>
    have := (findF_some _ _ hf).1
    refine ⟨rfl, ?_⟩
    simp [ro, sumE]
    omega
theorem P84 (xs : List AV) (h : xs.length ≤ 1048576) : q84 xs = true ∧ v84_0 xs = v81_0 xs := by
  rw [(P81 xs h).2]
  unfold q84 v84_0
  rw [(P112 xs _ _ h).1, (P112 xs _ _ h).2]
  have e64 : decide ((xs.length : Int) ≤ 64) = decide (xs.length ≤ 64) := by congr 1; simp only [eq_iff_iff]; omega
  rw [e64]
  cases decide (xs.length ≤ 64) <;> simp

end Go.Proofs.Ytdhhceamknidmaa
