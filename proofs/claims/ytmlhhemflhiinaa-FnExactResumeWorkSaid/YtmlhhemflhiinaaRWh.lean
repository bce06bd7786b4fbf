/- helpers -/
import Derived.Test.YtmlhhemflhiinaaRW5
import Derived.Test.YtmlhhemflhiinaaVEz
namespace Go.Proofs.Ytmlhhemflhiinaa
open Go Go.Proofs.VE
set_option linter.unusedVariables false
set_option linter.unusedSimpArgs false
theorem P4 {a0 : List AV} {a1 : Int} (h : a0.length ≤ 9223372036854775807) (h0 : 0 ≤ a1) (h1 : a1 ≤ 1048576) : v4_0 a0 a1 = if a1 < a0.length then -1 else a1 - a0.length := by
  unfold v4_0
  rw [wrap_in (a := a1 - a0.length) (by omega) (by omega)]
  by_cases hl : a1 < a0.length
  · have e : decide (a1 - (a0.length : Int) < 0) = true := decide_eq_true (by omega)
    rw [e, if_pos hl]
    rfl
  · have e : decide (a1 - (a0.length : Int) < 0) = false := decide_eq_false (by omega)
    rw [e, if_neg hl]
    rfl
def cp6 (x : AV) : AV := (AV.agg [AV.int .i64 (fI x 0)])
theorem P6 (xs : List AV) (h : xs.length ≤ 1048576) : q6 xs = true ∧ v6_0 xs = xs.map cp6 := by
  have hr : runW (R6_0 xs) (((xs.length : Int) - 0).toNat + 1) (0, List.replicate (Int.toNat (xs.length : Int)) (AV.int .i64 0)) = some (xs.map cp6) := by
    refine runW_copy (c := cp6) xs (fun i ys h0 hn hl => ?_) (fun ys => ?_)
    · simp only [R6_0, F6_0]
      have hl' : i < ys.length := by omega
      simp only [h0, hn, hl', decide_true, Bool.and_self, cond_true]
      rw [wrap_in (a := i + 1) (by omega) (by omega)]
      rfl
    · simp only [R6_0, F6_0, Int.lt_irrefl, decide_false, cond_false]
  unfold q6 v6_0
  rw [hr]
  refine ⟨?_, rfl⟩
  simp only [ro, Bool.and_true, Bool.and_eq_true, decide_eq_true_eq]
  omega
def cp7 (x : AV) : AV := (AV.agg [AV.int .i64 (v19_0 (fI x 0) (fI x 1) (fI x 2) (fI x 3)), AV.int .i64 (v19_1 (fI x 0) (fI x 1) (fI x 2) (fI x 3)), AV.int .i64 (v19_2 (fI x 0) (fI x 1) (fI x 2) (fI x 3)), AV.int .i64 (v19_3 (fI x 0) (fI x 1) (fI x 2) (fI x 3))])
theorem P7 (xs : List AV) (h : xs.length ≤ 1048576) : q7 xs = true ∧ v7_0 xs = xs.map cp7 := by
  have hr : runW (R7_0 xs) (((xs.length : Int) - 0).toNat + 1) (0, List.replicate (Int.toNat (xs.length : Int)) (AV.agg [AV.int .i64 0, AV.int .i64 0, AV.int .i64 0, AV.int .i64 0])) = some (xs.map cp7) := by
    refine runW_copy (c := cp7) xs (fun i ys h0 hn hl => ?_) (fun ys => ?_)
    · simp only [R7_0, F7_0]
      have hl' : i < ys.length := by omega
      simp only [h0, hn, hl', decide_true, Bool.and_self, cond_true]
      rw [wrap_in (a := i + 1) (by omega) (by omega)]
      rfl
    · simp only [R7_0, F7_0, Int.lt_irrefl, decide_false, cond_false]
  unfold q7 v7_0
  rw [hr]
  refine ⟨?_, rfl⟩
  simp only [ro, Bool.and_true, Bool.and_eq_true, decide_eq_true_eq]
  omega
theorem P10 (xs ys : List AV) (h : xs.length ≤ 1048576) : q10 xs ys = true ∧ v10_0 xs ys = eqL ee1 xs ys := by
  have hr : (xs.length : Int) = ys.length → runW (R10_0 xs ys) (((xs.length : Int) - 0).toNat + 1) 0 = some (ro (findF (fun i => !ee1 (xs.getD i.toNat .undef) (ys.getD i.toNat .undef)) xs.length 0) (.inl ()) fun _ => .inr ()) := fun hl => by
    refine runW_find (fun i => i) xs.length _ _ _ (fun i h0 hn => ?_) ?_ xs.length _ 0 (Int.le_refl 0) (by omega) (by omega)
    · have hn' : i < ys.length := by omega
      simp only [R10_0, F10_0, h0, hn, hn', decide_true, Bool.and_self, cond_true]
      rw [wrap_in (a := i + 1) (by omega) (by omega)]
      generalize xs.getD i.toNat .undef = x
      generalize ys.getD i.toNat .undef = y
      congr 1
      all_goals first | rfl | (simp only [ee1]; done) | (simp only [ee1]; cases decide (fI x 0 = fI y 0) <;> rfl)
    · simp only [R10_0, F10_0, Int.lt_irrefl, decide_false, cond_false]
  unfold q10 v10_0 eqL
  by_cases hl : (xs.length : Int) = ys.length
  · rw [decide_eq_true hl, hr hl]
    cases findF (fun i => !ee1 (xs.getD i.toNat .undef) (ys.getD i.toNat .undef)) xs.length 0 <;> exact ⟨rfl, rfl⟩
  · rw [decide_eq_false hl]
    exact ⟨rfl, rfl⟩
theorem P23 (xs ys : List AV) (h : xs.length ≤ 1048576) : q23 xs ys = true ∧ v23_0 xs ys = eqL ee2 xs ys := by
  have hr : (xs.length : Int) = ys.length → runW (R23_0 xs ys) (((xs.length : Int) - 0).toNat + 1) 0 = some (ro (findF (fun i => !ee2 (xs.getD i.toNat .undef) (ys.getD i.toNat .undef)) xs.length 0) (.inl ()) fun _ => .inr ()) := fun hl => by
    refine runW_find (fun i => i) xs.length _ _ _ (fun i h0 hn => ?_) ?_ xs.length _ 0 (Int.le_refl 0) (by omega) (by omega)
    · have hn' : i < ys.length := by omega
      simp only [R23_0, F23_0, h0, hn, hn', decide_true, Bool.and_self, cond_true]
      rw [wrap_in (a := i + 1) (by omega) (by omega)]
      generalize xs.getD i.toNat .undef = x
      generalize ys.getD i.toNat .undef = y
      congr 1
      all_goals first | rfl | (simp only [ee2, v45_0]; done) | (simp only [ee2, v45_0]; cases decide (fI x 0 = fI y 0) <;> cases decide (fI x 1 = fI y 1) <;> rfl)
    · simp only [R23_0, F23_0, Int.lt_irrefl, decide_false, cond_false]
  unfold q23 v23_0 eqL
  by_cases hl : (xs.length : Int) = ys.length
  · rw [decide_eq_true hl, hr hl]
    cases findF (fun i => !ee2 (xs.getD i.toNat .undef) (ys.getD i.toNat .undef)) xs.length 0 <;> exact ⟨rfl, rfl⟩
  · rw [decide_eq_false hl]
    exact ⟨rfl, rfl⟩
theorem P11 (xs ys : List AV) (h : xs.length ≤ 1048576) : q11 xs ys = true ∧ v11_0 xs ys = eqL ee4 xs ys := by
  have hr : (xs.length : Int) = ys.length → runW (R11_0 xs ys) (((xs.length : Int) - 0).toNat + 1) 0 = some (ro (findF (fun i => !ee4 (xs.getD i.toNat .undef) (ys.getD i.toNat .undef)) xs.length 0) (.inl ()) fun _ => .inr ()) := fun hl => by
    refine runW_find (fun i => i) xs.length _ _ _ (fun i h0 hn => ?_) ?_ xs.length _ 0 (Int.le_refl 0) (by omega) (by omega)
    · have hn' : i < ys.length := by omega
      simp only [R11_0, F11_0, h0, hn, hn', decide_true, Bool.and_self, cond_true]
      rw [wrap_in (a := i + 1) (by omega) (by omega)]
      generalize xs.getD i.toNat .undef = x
      generalize ys.getD i.toNat .undef = y
      congr 1
      all_goals first | rfl | (simp only [ee4, v24_0]; done) | (simp only [ee4, v24_0]; cases decide (fI x 0 = fI y 0) <;> cases decide (fI x 1 = fI y 1) <;> cases decide (fI x 2 = fI y 2) <;> cases decide (fI x 3 = fI y 3) <;> rfl)
    · simp only [R11_0, F11_0, Int.lt_irrefl, decide_false, cond_false]
  unfold q11 v11_0 eqL
  by_cases hl : (xs.length : Int) = ys.length
  · rw [decide_eq_true hl, hr hl]
    cases findF (fun i => !ee4 (xs.getD i.toNat .undef) (ys.getD i.toNat .undef)) xs.length 0 <;> exact ⟨rfl, rfl⟩
  · rw [decide_eq_false hl]
    exact ⟨rfl, rfl⟩
def mk12 (t : Int) : AV := AV.agg [AV.int .i64 (t)]
theorem P12 (xs : List AV) (k : Int) (h : xs.length ≤ 1048576) (hk : 0 ≤ k) (hk' : k ≤ 1099511627776) : ∃ ys, q12 k xs = true ∧ v12_0 k xs = k + 1 * xs.length ∧ v12_1 k xs = ys ∧ ys.length = xs.length ∧ ∀ i : Nat, i < xs.length → ys.getD i .undef = mk12 (k + 1 * i) := by
  have step : ∀ (t i : Int) (ys : List AV), 0 ≤ i → i < xs.length → ys.length = xs.length → 0 ≤ t → t + 1 ≤ 4398046511104 → R12_0 (t, i, ys) = .next (t + 1, i + 1, ys.set i.toNat (mk12 t)) := fun t i ys h0 hn hl ht hM => by
    have hl' : i < ys.length := by omega
    have hlN : i.toNat < ys.length := by omega
    simp only [R12_0, F12_0, List.length_set, h0, hl', decide_true, Bool.and_self, cond_true, List.set_set]
    have gs : ∀ v : AV, (ys.set i.toNat v).getD i.toNat AV.undef = v := fun v => getD_set hlN
    try simp only [gs]
    rw [wrap_in (a := t + 1) (by omega) (by omega)]
    rw [wrap_in (a := i + 1) (by omega) (by omega)]
    simp [mk12, fI, AV.cells, Int.add_assoc]
  obtain ⟨ys, e1, e2, e3⟩ := runW_mark (f := R12_0) 1 mk12 xs k 4398046511104 (by omega) hk (by omega) step (fun t ys hl => by simp only [R12_0, F12_0, hl, Int.lt_irrefl, decide_false, cond_false])
  refine ⟨ys, ?_, ?_, ?_, e2, e3⟩
  · unfold q12; rw [e1]; rfl
  · unfold v12_0; rw [e1]; rfl
  · unfold v12_1; rw [e1]; rfl
def mk25 (t : Int) : AV := AV.agg [AV.int .i64 (t), AV.int .i64 (t + 1)]
theorem P25 (xs : List AV) (k : Int) (h : xs.length ≤ 1048576) (hk : 0 ≤ k) (hk' : k ≤ 1099511627776) : ∃ ys, q25 k xs = true ∧ v25_0 k xs = k + 2 * xs.length ∧ v25_1 k xs = ys ∧ ys.length = xs.length ∧ ∀ i : Nat, i < xs.length → ys.getD i .undef = mk25 (k + 2 * i) := by
  have step : ∀ (t i : Int) (ys : List AV), 0 ≤ i → i < xs.length → ys.length = xs.length → 0 ≤ t → t + 2 ≤ 4398046511104 → R25_0 (t, i, ys) = .next (t + 2, i + 1, ys.set i.toNat (mk25 t)) := fun t i ys h0 hn hl ht hM => by
    have hl' : i < ys.length := by omega
    have hlN : i.toNat < ys.length := by omega
    simp only [R25_0, F25_0, List.length_set, h0, hl', decide_true, Bool.and_self, cond_true, List.set_set]
    have gs : ∀ v : AV, (ys.set i.toNat v).getD i.toNat AV.undef = v := fun v => getD_set hlN
    try simp only [gs]
    rw [wrap_in (a := t + 1) (by omega) (by omega)]
    rw [wrap_in (a := t + 1 + 1) (by omega) (by omega)]
    rw [wrap_in (a := i + 1) (by omega) (by omega)]
    simp [mk25, fI, AV.cells, Int.add_assoc]
  obtain ⟨ys, e1, e2, e3⟩ := runW_mark (f := R25_0) 2 mk25 xs k 4398046511104 (by omega) hk (by omega) step (fun t ys hl => by simp only [R25_0, F25_0, hl, Int.lt_irrefl, decide_false, cond_false])
  refine ⟨ys, ?_, ?_, ?_, e2, e3⟩
  · unfold q25; rw [e1]; rfl
  · unfold v25_0; rw [e1]; rfl
  · unfold v25_1; rw [e1]; rfl
def mk13 (t : Int) : AV := AV.agg [AV.int .i64 (t), AV.int .i64 (t + 1), AV.int .i64 (t + 1 + 1), AV.int .i64 (t + 1 + 1 + 1)]
theorem P13 (xs : List AV) (k : Int) (h : xs.length ≤ 1048576) (hk : 0 ≤ k) (hk' : k ≤ 1099511627776) : ∃ ys, q13 k xs = true ∧ v13_0 k xs = k + 4 * xs.length ∧ v13_1 k xs = ys ∧ ys.length = xs.length ∧ ∀ i : Nat, i < xs.length → ys.getD i .undef = mk13 (k + 4 * i) := by
  have step : ∀ (t i : Int) (ys : List AV), 0 ≤ i → i < xs.length → ys.length = xs.length → 0 ≤ t → t + 4 ≤ 4398046511104 → R13_0 (t, i, ys) = .next (t + 4, i + 1, ys.set i.toNat (mk13 t)) := fun t i ys h0 hn hl ht hM => by
    have hl' : i < ys.length := by omega
    have hlN : i.toNat < ys.length := by omega
    simp only [R13_0, F13_0, List.length_set, h0, hl', decide_true, Bool.and_self, cond_true, List.set_set]
    have gs : ∀ v : AV, (ys.set i.toNat v).getD i.toNat AV.undef = v := fun v => getD_set hlN
    try simp only [gs]
    rw [wrap_in (a := t + 1) (by omega) (by omega)]
    rw [wrap_in (a := t + 1 + 1) (by omega) (by omega)]
    rw [wrap_in (a := t + 1 + 1 + 1) (by omega) (by omega)]
    rw [wrap_in (a := t + 1 + 1 + 1 + 1) (by omega) (by omega)]
    rw [wrap_in (a := i + 1) (by omega) (by omega)]
    simp [mk13, fI, AV.cells, Int.add_assoc]
  obtain ⟨ys, e1, e2, e3⟩ := runW_mark (f := R13_0) 4 mk13 xs k 4398046511104 (by omega) hk (by omega) step (fun t ys hl => by simp only [R13_0, F13_0, hl, Int.lt_irrefl, decide_false, cond_false])
  refine ⟨ys, ?_, ?_, ?_, e2, e3⟩
  · unfold q13; rw [e1]; rfl
  · unfold v13_0; rw [e1]; rfl
  · unfold v13_1; rw [e1]; rfl
theorem P26 (ys : List AV) (k : Int) (h : ys.length ≤ 1048576) (hk : 0 ≤ k) (hk' : k ≤ 1099511627776) (hy : ∀ i : Nat, i < ys.length → ys.getD i .undef = mk12 (k + 1 * i)) : q26 ys k = true ∧ v26_0 ys k = k + 1 * ys.length := by
  have hr := runW_held (f := R26_0 ys) 1 ys.length k 4398046511104 (by omega) hk (by omega) (fun i h0 hn ht hM => by
    have e := hy i.toNat (by omega)
    rw [show ((i.toNat : Nat) : Int) = i by omega] at e
    simp only [R26_0, F26_0, h0, hn, decide_true, Bool.and_self, cond_true]
    rw [e]
    generalize k + 1 * i = t at *
    rw [wrap_in (a := t + 1) (by omega) (by omega)]
    rw [wrap_in (a := i + 1) (by omega) (by omega)]
    simp [mk12, fI, AV.cells, Int.add_assoc]) (fun t => by simp only [R26_0, F26_0, Int.lt_irrefl, decide_false, cond_false])
  unfold q26 v26_0
  rw [hr]
  exact ⟨rfl, rfl⟩
theorem P27 (ys : List AV) (k : Int) (h : ys.length ≤ 1048576) (hk : 0 ≤ k) (hk' : k ≤ 1099511627776) (hy : ∀ i : Nat, i < ys.length → ys.getD i .undef = mk25 (k + 2 * i)) : q27 ys k = true ∧ v27_0 ys k = k + 2 * ys.length := by
  have hr := runW_held (f := R27_0 ys) 2 ys.length k 4398046511104 (by omega) hk (by omega) (fun i h0 hn ht hM => by
    have e := hy i.toNat (by omega)
    rw [show ((i.toNat : Nat) : Int) = i by omega] at e
    simp only [R27_0, F27_0, h0, hn, decide_true, Bool.and_self, cond_true]
    rw [e]
    generalize k + 2 * i = t at *
    rw [wrap_in (a := t + 1) (by omega) (by omega)]
    rw [wrap_in (a := t + 1 + 1) (by omega) (by omega)]
    rw [wrap_in (a := i + 1) (by omega) (by omega)]
    simp [mk25, fI, AV.cells, Int.add_assoc]) (fun t => by simp only [R27_0, F27_0, Int.lt_irrefl, decide_false, cond_false])
  unfold q27 v27_0
  rw [hr]
  exact ⟨rfl, rfl⟩
theorem v28 (a b c : Int) : v28_0 a b c = (decide (b ≤ a) && decide (a ≤ c)) := by
  unfold v28_0; cases h : decide (a ≥ b) <;> simp_all
theorem run47 (xs : List AV) (h : xs.length ≤ 1048576) : runW (R47_0 xs) (((xs.length : Int) - 0).toNat + 1) 0 = some (ro (findF (fun i => !v28_0 (fI (xs.getD i.toNat .undef) 0) (-999) 999) xs.length 0) (.inl ()) fun _ => .inr ()) := by
  refine runW_find (fun i => i) xs.length _ _ _ (fun i h0 hn => ?_) ?_ xs.length _ 0 (Int.le_refl 0) (by omega) (by omega)
  · simp only [R47_0, F47_0, h0, hn, decide_true, Bool.and_self, cond_true]
    rw [wrap_in (a := i + 1) (by omega) (by omega)]
  · simp only [R47_0, F47_0, Int.lt_irrefl, decide_false, cond_false]
theorem run70 (xs : List AV) (lo hi : AV) (h : xs.length ≤ 1048576) : runW (R70_0 xs lo hi xs.length) (((xs.length : Int) - 0).toNat + 1) 0 = some (ro (findF (fun i => v58_0 (fI (xs.getD i.toNat .undef) 0) lo hi) xs.length 0) (.inl ()) fun i => .inr i) := by
  refine runW_find (fun i => i) xs.length _ _ _ (fun i h0 hn => ?_) ?_ xs.length _ 0 (Int.le_refl 0) (by omega) (by omega)
  · simp only [R70_0, F70_0, h0, hn, decide_true, Bool.and_self, cond_true]
    rw [wrap_in (a := i + 1) (by omega) (by omega)]
  · simp only [R70_0, F70_0, Int.lt_irrefl, decide_false, cond_false]
theorem P47 (xs : List AV) (h : xs.length ≤ 1048576) : q47 xs = true ∧ v47_0 xs = ((findF (fun i => !v28_0 (fI (xs.getD i.toNat .undef) 0) (-999) 999) xs.length 0).isNone && decide (xs.length ≤ 64)) := by
  unfold q47 v47_0
  rw [run47 xs h]
  cases findF (fun i => !v28_0 (fI (xs.getD i.toNat .undef) 0) (-999) 999) xs.length 0 with
  | none => refine ⟨rfl, ?_⟩; simp only [ro, sumE, Option.isNone_none, Bool.true_and]; congr 1; simp only [eq_iff_iff]; omega
  | some j => exact ⟨rfl, rfl⟩
theorem P38 (xs : List AV) (lo hi : Int) (h : xs.length ≤ 1048576) : q38 xs lo hi = true ∧ v38_0 xs lo hi = (findF (fun i => !v28_0 (fI (xs.getD i.toNat .undef) 0) lo hi) xs.length 0).isNone := by
  unfold q38 v38_0 v57_0 q57 q70 v70_0
  rw [run70 xs _ _ h]
  have e : (fun i : Int => v58_0 (fI (xs.getD i.toNat .undef) 0) (AV.int .i64 lo) (AV.int .i64 hi)) = fun i => !v28_0 (fI (xs.getD i.toNat .undef) 0) lo hi := by
    funext i
    unfold v58_0
    rw [v28, show fI (AV.int .i64 lo) 0 = lo from rfl, show fI (AV.int .i64 hi) 0 = hi from rfl]
    generalize fI (xs.getD i.toNat .undef) 0 = z
    by_cases h1 : z < lo <;> by_cases h2 : z > hi <;> simp [h1, h2] <;> omega
  rw [e]
  cases hf : findF (fun i => !v28_0 (fI (xs.getD i.toNat .undef) 0) lo hi) xs.length 0 with
  | none => exact ⟨rfl, rfl⟩
  | some j =>
    have := (findF_some _ _ hf).1
    refine ⟨rfl, ?_⟩
    simp [ro, sumE]
    omega
theorem P53 (xs : List AV) (h : xs.length ≤ 1048576) : q53 xs = true ∧ v53_0 xs = v47_0 xs := by
  rw [(P47 xs h).2]
  unfold q53 v53_0
  rw [(P38 xs _ _ h).1, (P38 xs _ _ h).2]
  have e64 : decide ((xs.length : Int) ≤ 64) = decide (xs.length ≤ 64) := by congr 1; simp only [eq_iff_iff]; omega
  rw [e64]
  cases decide (xs.length ≤ 64) <;> simp

end Go.Proofs.Ytmlhhemflhiinaa
