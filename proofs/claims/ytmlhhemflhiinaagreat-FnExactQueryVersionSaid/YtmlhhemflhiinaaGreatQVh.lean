/- helpers -/
import Derived.Test.YtmlhhemflhiinaaGreatQV4
import Derived.Test.YtmlhhemflhiinaaGreatVEz
namespace Go.Proofs.YtmlhhemflhiinaaGreat
open Go Go.Proofs.VE
set_option linter.unusedVariables false
set_option linter.unusedSimpArgs false
theorem P30 {a0 : List AV} {a1 : Int} (h : a0.length ≤ 9223372036854775807) (h0 : 0 ≤ a1) (h1 : a1 ≤ 1048576) : v30_0 a0 a1 = if a1 < a0.length then -1 else a1 - a0.length := by
  unfold v30_0
  rw [wrap_in (a := a1 - a0.length) (by omega) (by omega)]
  by_cases hl : a1 < a0.length
  · have e : decide (a1 - (a0.length : Int) < 0) = true := decide_eq_true (by omega)
    rw [e, if_pos hl]
    rfl
  · have e : decide (a1 - (a0.length : Int) < 0) = false := decide_eq_false (by omega)
    rw [e, if_neg hl]
    rfl
theorem P62 {a0 : List AV} {a1 : Int} (h : a0.length ≤ 9223372036854775807) (h0 : 0 ≤ a1) (h1 : a1 ≤ 1048576) : v62_0 a0 a1 = if a1 < a0.length then -1 else a1 - a0.length := by
  unfold v62_0
  rw [wrap_in (a := a1 - a0.length) (by omega) (by omega)]
  by_cases hl : a1 < a0.length
  · have e : decide (a1 - (a0.length : Int) < 0) = true := decide_eq_true (by omega)
    rw [e, if_pos hl]
    rfl
  · have e : decide (a1 - (a0.length : Int) < 0) = false := decide_eq_false (by omega)
    rw [e, if_neg hl]
    rfl
theorem P63 {a0 : List AV} {a1 : Int} (h : a0.length ≤ 9223372036854775807) (h0 : 0 ≤ a1) (h1 : a1 ≤ 1048576) : v63_0 a0 a1 = if a1 < a0.length then -1 else a1 - a0.length := by
  unfold v63_0
  rw [wrap_in (a := a1 - a0.length) (by omega) (by omega)]
  by_cases hl : a1 < a0.length
  · have e : decide (a1 - (a0.length : Int) < 0) = true := decide_eq_true (by omega)
    rw [e, if_pos hl]
    rfl
  · have e : decide (a1 - (a0.length : Int) < 0) = false := decide_eq_false (by omega)
    rw [e, if_neg hl]
    rfl
theorem P31 {a0_0 a0_1 a0_2 : List AV} {a1 : Int} (ha0_0 : a0_0.length ≤ 9223372036854775807) (ha0_1 : a0_1.length ≤ 9223372036854775807) (ha0_2 : a0_2.length ≤ 9223372036854775807) (h0 : 0 ≤ a1) (h1 : a1 ≤ 1048576) : v31_0 a0_0 a0_1 a0_2 a1 = if a1 < (a0_0.length : Int) + (a0_1.length : Int) + (a0_2.length : Int) then -1 else a1 - ((a0_0.length : Int) + (a0_1.length : Int) + (a0_2.length : Int)) := by
  unfold v31_0
  rw [P62 ha0_0 (by omega) (by omega)]
  by_cases c0 : a1 < (a0_0.length : Int)
  · rw [if_pos c0, if_pos (by omega)]; rfl
  · rw [if_neg c0, decide_eq_false (by omega : ¬ a1 - (a0_0.length : Int) < 0), cond_false]
    rw [P62 ha0_1 (by omega) (by omega)]
    by_cases c1 : a1 - (a0_0.length : Int) < (a0_1.length : Int)
    · rw [if_pos c1, if_pos (by omega)]; rfl
    · rw [if_neg c1, decide_eq_false (by omega : ¬ a1 - (a0_0.length : Int) - (a0_1.length : Int) < 0), cond_false]
      rw [P63 ha0_2 (by omega) (by omega)]
      by_cases c2 : a1 - (a0_0.length : Int) - (a0_1.length : Int) < (a0_2.length : Int)
      · rw [if_pos c2, if_pos (by omega)]; rfl
      · rw [if_neg c2, decide_eq_false (by omega : ¬ a1 - (a0_0.length : Int) - (a0_1.length : Int) - (a0_2.length : Int) < 0), cond_false, if_neg (by omega)]
        omega
theorem P12 {a0_0 a0_2 a0_3 a0_4 : List AV} {a0_1 a1 : Int} (ha0_0 : a0_0.length ≤ 9223372036854775807) (ha0_2 : a0_2.length ≤ 9223372036854775807) (ha0_3 : a0_3.length ≤ 9223372036854775807) (ha0_4 : a0_4.length ≤ 9223372036854775807) (h0 : 0 ≤ a1) (h1 : a1 ≤ 1048576) : v12_0 a0_0 a0_1 a0_2 a0_3 a0_4 a1 = if a1 < (a0_0.length : Int) + ((a0_2.length : Int) + (a0_3.length : Int) + (a0_4.length : Int)) then -1 else a1 - ((a0_0.length : Int) + ((a0_2.length : Int) + (a0_3.length : Int) + (a0_4.length : Int))) := by
  unfold v12_0
  rw [P30 ha0_0 (by omega) (by omega)]
  by_cases c0 : a1 < (a0_0.length : Int)
  · rw [if_pos c0, if_pos (by omega)]; rfl
  · rw [if_neg c0, decide_eq_false (by omega : ¬ a1 - (a0_0.length : Int) < 0), cond_false]
    rw [P31 ha0_2 ha0_3 ha0_4 (by omega) (by omega)]
    by_cases c1 : a1 - (a0_0.length : Int) < ((a0_2.length : Int) + (a0_3.length : Int) + (a0_4.length : Int))
    · rw [if_pos c1, if_pos (by omega)]; rfl
    · rw [if_neg c1, decide_eq_false (by omega : ¬ a1 - (a0_0.length : Int) - (((a0_2.length : Int) + (a0_3.length : Int) + (a0_4.length : Int))) < 0), cond_false, if_neg (by omega)]
      omega
def cp7 (x : AV) : AV := (AV.agg [AV.int .i64 (fI x 0)])
theorem P7 (xs : List AV) (h : xs.length ≤ 1048576) : q7 xs = true ∧ v7_0 xs = xs.map cp7 := by
  have hr : runW (R7_0 xs) (((xs.length : Int) - 0).toNat + 1) (0, List.replicate (Int.toNat (xs.length : Int)) (AV.int .i64 0)) = some (xs.map cp7) := by
    refine runW_copy (c := cp7) xs (fun i ys h0 hn hl => ?_) (fun ys => ?_)
    · simp only [R7_0, F7_0]
      have hl' : i < ys.length := by omega
      simp only [h0, hn, hl', decide_true, Bool.and_self, cond_true]
      rw [wrap_in (a := i + 1) (by omega) (by omega)]
      rfl
    · simp only [R7_0, F7_0, Int.lt_irrefl, decide_false, cond_false]
  unfold q7 v7_0
  rw [hr]
  refine ⟨?_, rfl⟩
  simp only [ro, Bool.and_true, Bool.and_eq_true, decide_eq_true_eq]
  omega
def cp38 (x : AV) : AV := (AV.agg [AV.int .i64 (v69_0 (fI x 0) (fI x 1) (fI x 2) (fI x 3)), AV.int .i64 (v69_1 (fI x 0) (fI x 1) (fI x 2) (fI x 3)), AV.int .i64 (v69_2 (fI x 0) (fI x 1) (fI x 2) (fI x 3)), AV.int .i64 (v69_3 (fI x 0) (fI x 1) (fI x 2) (fI x 3))])
theorem P38 (xs : List AV) (h : xs.length ≤ 1048576) : q38 xs = true ∧ v38_0 xs = xs.map cp38 := by
  have hr : runW (R38_0 xs) (((xs.length : Int) - 0).toNat + 1) (0, List.replicate (Int.toNat (xs.length : Int)) (AV.agg [AV.int .i64 0, AV.int .i64 0, AV.int .i64 0, AV.int .i64 0])) = some (xs.map cp38) := by
    refine runW_copy (c := cp38) xs (fun i ys h0 hn hl => ?_) (fun ys => ?_)
    · simp only [R38_0, F38_0]
      have hl' : i < ys.length := by omega
      simp only [h0, hn, hl', decide_true, Bool.and_self, cond_true]
      rw [wrap_in (a := i + 1) (by omega) (by omega)]
      rfl
    · simp only [R38_0, F38_0, Int.lt_irrefl, decide_false, cond_false]
  unfold q38 v38_0
  rw [hr]
  refine ⟨?_, rfl⟩
  simp only [ro, Bool.and_true, Bool.and_eq_true, decide_eq_true_eq]
  omega
def cp70 (x : AV) : AV := (AV.agg [AV.int .i64 (v93_0 (fI x 0) (fI x 1)), AV.int .i64 (v93_1 (fI x 0) (fI x 1))])
theorem P70 (xs : List AV) (h : xs.length ≤ 1048576) : q70 xs = true ∧ v70_0 xs = xs.map cp70 := by
  have hr : runW (R70_0 xs) (((xs.length : Int) - 0).toNat + 1) (0, List.replicate (Int.toNat (xs.length : Int)) (AV.agg [AV.int .i64 0, AV.int .i64 0])) = some (xs.map cp70) := by
    refine runW_copy (c := cp70) xs (fun i ys h0 hn hl => ?_) (fun ys => ?_)
    · simp only [R70_0, F70_0]
      have hl' : i < ys.length := by omega
      simp only [h0, hn, hl', decide_true, Bool.and_self, cond_true]
      rw [wrap_in (a := i + 1) (by omega) (by omega)]
      rfl
    · simp only [R70_0, F70_0, Int.lt_irrefl, decide_false, cond_false]
  unfold q70 v70_0
  rw [hr]
  refine ⟨?_, rfl⟩
  simp only [ro, Bool.and_true, Bool.and_eq_true, decide_eq_true_eq]
  omega
theorem P10 (xs ys : List AV) (h : xs.length ≤ 1048576) : q10 xs ys = true ∧ v10_0 xs ys = eqL ee1 xs ys := by
  have hr : (xs.length : Int) = ys.length → runW (R10_0 xs ys) (((xs.length : Int) - 0).toNat + 1) 0 = some (ro (findF (fun i => !ee1 (xs.getD i.toNat .undef) (ys.getD i.toNat .undef)) xs.length 0) (.inl ()) fun _ => .inr ()) := fun hl => by
    refine runW_find (fun i => i) xs.length _ _ _ (fun i h0 hn => ?_) ?_ xs.length _ 0 (Int.le_refl 0) (by omega) (by omega)
    · have hn' : i < ys.length := by omega
      simp only [R10_0, F10_0, h0, hn, hn', decide_true, Bool.and_self, cond_true]
      rw [wrap_in (a := i + 1) (by omega) (by omega)]
      generalize xs.getD i.toNat .undef = x
      generalize ys.getD i.toNat .undef = y
      congr 1
      all_goals first | rfl | (simp only [ee1]; done) | (simp only [ee1]; cases decide (fI x 0 = fI y 0) <;> rfl)
    · simp only [R10_0, F10_0, Int.lt_irrefl, decide_false, cond_false]
  unfold q10 v10_0 eqL
  by_cases hl : (xs.length : Int) = ys.length
  · rw [decide_eq_true hl, hr hl]
    cases findF (fun i => !ee1 (xs.getD i.toNat .undef) (ys.getD i.toNat .undef)) xs.length 0 <;> exact ⟨rfl, rfl⟩
  · rw [decide_eq_false hl]
    exact ⟨rfl, rfl⟩
theorem P46 (xs ys : List AV) (h : xs.length ≤ 1048576) : q46 xs ys = true ∧ v46_0 xs ys = eqL ee4 xs ys := by
  have hr : (xs.length : Int) = ys.length → runW (R46_0 xs ys) (((xs.length : Int) - 0).toNat + 1) 0 = some (ro (findF (fun i => !ee4 (xs.getD i.toNat .undef) (ys.getD i.toNat .undef)) xs.length 0) (.inl ()) fun _ => .inr ()) := fun hl => by
    refine runW_find (fun i => i) xs.length _ _ _ (fun i h0 hn => ?_) ?_ xs.length _ 0 (Int.le_refl 0) (by omega) (by omega)
    · have hn' : i < ys.length := by omega
      simp only [R46_0, F46_0, h0, hn, hn', decide_true, Bool.and_self, cond_true]
      rw [wrap_in (a := i + 1) (by omega) (by omega)]
      generalize xs.getD i.toNat .undef = x
      generalize ys.getD i.toNat .undef = y
      congr 1
      all_goals first | rfl | (simp only [ee4, v78_0]; done) | (simp only [ee4, v78_0]; cases decide (fI x 0 = fI y 0) <;> cases decide (fI x 1 = fI y 1) <;> cases decide (fI x 2 = fI y 2) <;> cases decide (fI x 3 = fI y 3) <;> rfl)
    · simp only [R46_0, F46_0, Int.lt_irrefl, decide_false, cond_false]
  unfold q46 v46_0 eqL
  by_cases hl : (xs.length : Int) = ys.length
  · rw [decide_eq_true hl, hr hl]
    cases findF (fun i => !ee4 (xs.getD i.toNat .undef) (ys.getD i.toNat .undef)) xs.length 0 <;> exact ⟨rfl, rfl⟩
  · rw [decide_eq_false hl]
    exact ⟨rfl, rfl⟩
theorem P79 (xs ys : List AV) (h : xs.length ≤ 1048576) : q79 xs ys = true ∧ v79_0 xs ys = eqL ee2 xs ys := by
  have hr : (xs.length : Int) = ys.length → runW (R79_0 xs ys) (((xs.length : Int) - 0).toNat + 1) 0 = some (ro (findF (fun i => !ee2 (xs.getD i.toNat .undef) (ys.getD i.toNat .undef)) xs.length 0) (.inl ()) fun _ => .inr ()) := fun hl => by
    refine runW_find (fun i => i) xs.length _ _ _ (fun i h0 hn => ?_) ?_ xs.length _ 0 (Int.le_refl 0) (by omega) (by omega)
    · have hn' : i < ys.length := by omega
      simp only [R79_0, F79_0, h0, hn, hn', decide_true, Bool.and_self, cond_true]
      rw [wrap_in (a := i + 1) (by omega) (by omega)]
      generalize xs.getD i.toNat .undef = x
      generalize ys.getD i.toNat .undef = y
      congr 1
      all_goals first | rfl | (simp only [ee2, v100_0]; done) | (simp only [ee2, v100_0]; cases decide (fI x 0 = fI y 0) <;> cases decide (fI x 1 = fI y 1) <;> rfl)
    · simp only [R79_0, F79_0, Int.lt_irrefl, decide_false, cond_false]
  unfold q79 v79_0 eqL
  by_cases hl : (xs.length : Int) = ys.length
  · rw [decide_eq_true hl, hr hl]
    cases findF (fun i => !ee2 (xs.getD i.toNat .undef) (ys.getD i.toNat .undef)) xs.length 0 <;> exact ⟨rfl, rfl⟩
  · rw [decide_eq_false hl]
    exact ⟨rfl, rfl⟩
def mk19 (t : Int) : AV := AV.agg [AV.int .i64 (t)]
theorem P19 (xs : List AV) (k : Int) (h : xs.length ≤ 1048576) (hk : 0 ≤ k) (hk' : k ≤ 1099511627776) : ∃ ys, q19 k xs = true ∧ v19_0 k xs = k + 1 * xs.length ∧ v19_1 k xs = ys ∧ ys.length = xs.length ∧ ∀ i : Nat, i < xs.length → ys.getD i .undef = mk19 (k + 1 * i) := by
  have step : ∀ (t i : Int) (ys : List AV), 0 ≤ i → i < xs.length → ys.length = xs.length → 0 ≤ t → t + 1 ≤ 4398046511104 → R19_0 (t, i, ys) = .next (t + 1, i + 1, ys.set i.toNat (mk19 t)) := fun t i ys h0 hn hl ht hM => by
    have hl' : i < ys.length := by omega
    have hlN : i.toNat < ys.length := by omega
    simp only [R19_0, F19_0, List.length_set, h0, hl', decide_true, Bool.and_self, cond_true, List.set_set]
    have gs : ∀ v : AV, (ys.set i.toNat v).getD i.toNat AV.undef = v := fun v => getD_set hlN
    try simp only [gs]
    rw [wrap_in (a := t + 1) (by omega) (by omega)]
    rw [wrap_in (a := i + 1) (by omega) (by omega)]
    simp [mk19, fI, AV.cells, Int.add_assoc]
  obtain ⟨ys, e1, e2, e3⟩ := runW_mark (f := R19_0) 1 mk19 xs k 4398046511104 (by omega) hk (by omega) step (fun t ys hl => by simp only [R19_0, F19_0, hl, Int.lt_irrefl, decide_false, cond_false])
  refine ⟨ys, ?_, ?_, ?_, e2, e3⟩
  · unfold q19; rw [e1]; rfl
  · unfold v19_0; rw [e1]; rfl
  · unfold v19_1; rw [e1]; rfl
def mk48 (t : Int) : AV := AV.agg [AV.int .i64 (t), AV.int .i64 (t + 1), AV.int .i64 (t + 1 + 1), AV.int .i64 (t + 1 + 1 + 1)]
theorem P48 (xs : List AV) (k : Int) (h : xs.length ≤ 1048576) (hk : 0 ≤ k) (hk' : k ≤ 1099511627776) : ∃ ys, q48 k xs = true ∧ v48_0 k xs = k + 4 * xs.length ∧ v48_1 k xs = ys ∧ ys.length = xs.length ∧ ∀ i : Nat, i < xs.length → ys.getD i .undef = mk48 (k + 4 * i) := by
  have step : ∀ (t i : Int) (ys : List AV), 0 ≤ i → i < xs.length → ys.length = xs.length → 0 ≤ t → t + 4 ≤ 4398046511104 → R48_0 (t, i, ys) = .next (t + 4, i + 1, ys.set i.toNat (mk48 t)) := fun t i ys h0 hn hl ht hM => by
    have hl' : i < ys.length := by omega
    have hlN : i.toNat < ys.length := by omega
    simp only [R48_0, F48_0, List.length_set, h0, hl', decide_true, Bool.and_self, cond_true, List.set_set]
    have gs : ∀ v : AV, (ys.set i.toNat v).getD i.toNat AV.undef = v := fun v => getD_set hlN
    try simp only [gs]
    rw [wrap_in (a := t + 1) (by omega) (by omega)]
    rw [wrap_in (a := t + 1 + 1) (by omega) (by omega)]
    rw [wrap_in (a := t + 1 + 1 + 1) (by omega) (by omega)]
    rw [wrap_in (a := t + 1 + 1 + 1 + 1) (by omega) (by omega)]
    rw [wrap_in (a := i + 1) (by omega) (by omega)]
    simp [mk48, fI, AV.cells, Int.add_assoc]
  obtain ⟨ys, e1, e2, e3⟩ := runW_mark (f := R48_0) 4 mk48 xs k 4398046511104 (by omega) hk (by omega) step (fun t ys hl => by simp only [R48_0, F48_0, hl, Int.lt_irrefl, decide_false, cond_false])
  refine ⟨ys, ?_, ?_, ?_, e2, e3⟩
  · unfold q48; rw [e1]; rfl
  · unfold v48_0; rw [e1]; rfl
  · unfold v48_1; rw [e1]; rfl
def mk80 (t : Int) : AV := AV.agg [AV.int .i64 (t), AV.int .i64 (t + 1)]
theorem P80 (xs : List AV) (k : Int) (h : xs.length ≤ 1048576) (hk : 0 ≤ k) (hk' : k ≤ 1099511627776) : ∃ ys, q80 k xs = true ∧ v80_0 k xs = k + 2 * xs.length ∧ v80_1 k xs = ys ∧ ys.length = xs.length ∧ ∀ i : Nat, i < xs.length → ys.getD i .undef = mk80 (k + 2 * i) := by
  have step : ∀ (t i : Int) (ys : List AV), 0 ≤ i → i < xs.length → ys.length = xs.length → 0 ≤ t → t + 2 ≤ 4398046511104 → R80_0 (t, i, ys) = .next (t + 2, i + 1, ys.set i.toNat (mk80 t)) := fun t i ys h0 hn hl ht hM => by
    have hl' : i < ys.length := by omega
    have hlN : i.toNat < ys.length := by omega
    simp only [R80_0, F80_0, List.length_set, h0, hl', decide_true, Bool.and_self, cond_true, List.set_set]
    have gs : ∀ v : AV, (ys.set i.toNat v).getD i.toNat AV.undef = v := fun v => getD_set hlN
    try simp only [gs]
    rw [wrap_in (a := t + 1) (by omega) (by omega)]
    rw [wrap_in (a := t + 1 + 1) (by omega) (by omega)]
    rw [wrap_in (a := i + 1) (by omega) (by omega)]
    simp [mk80, fI, AV.cells, Int.add_assoc]
  obtain ⟨ys, e1, e2, e3⟩ := runW_mark (f := R80_0) 2 mk80 xs k 4398046511104 (by omega) hk (by omega) step (fun t ys hl => by simp only [R80_0, F80_0, hl, Int.lt_irrefl, decide_false, cond_false])
  refine ⟨ys, ?_, ?_, ?_, e2, e3⟩
  · unfold q80; rw [e1]; rfl
  · unfold v80_0; rw [e1]; rfl
  · unfold v80_1; rw [e1]; rfl
theorem P21 (ys : List AV) (k : Int) (h : ys.length ≤ 1048576) (hk : 0 ≤ k) (hk' : k ≤ 1099511627776) (hy : ∀ i : Nat, i < ys.length → ys.getD i .undef = mk19 (k + 1 * i)) : q21 ys k = true ∧ v21_0 ys k = k + 1 * ys.length := by
  have hr := runW_held (f := R21_0 ys) 1 ys.length k 4398046511104 (by omega) hk (by omega) (fun i h0 hn ht hM => by
    have e := hy i.toNat (by omega)
    rw [show ((i.toNat : Nat) : Int) = i by omega] at e
    simp only [R21_0, F21_0, h0, hn, decide_true, Bool.and_self, cond_true]
    rw [e]
    generalize k + 1 * i = t at *
    rw [wrap_in (a := t + 1) (by omega) (by omega)]
    rw [wrap_in (a := i + 1) (by omega) (by omega)]
    simp [mk19, fI, AV.cells, Int.add_assoc]) (fun t => by simp only [R21_0, F21_0, Int.lt_irrefl, decide_false, cond_false])
  unfold q21 v21_0
  rw [hr]
  exact ⟨rfl, rfl⟩
theorem P50 (ys : List AV) (k : Int) (h : ys.length ≤ 1048576) (hk : 0 ≤ k) (hk' : k ≤ 1099511627776) (hy : ∀ i : Nat, i < ys.length → ys.getD i .undef = mk48 (k + 4 * i)) : q50 ys k = true ∧ v50_0 ys k = k + 4 * ys.length := by
  have hr := runW_held (f := R50_0 ys) 4 ys.length k 4398046511104 (by omega) hk (by omega) (fun i h0 hn ht hM => by
    have e := hy i.toNat (by omega)
    rw [show ((i.toNat : Nat) : Int) = i by omega] at e
    simp only [R50_0, F50_0, h0, hn, decide_true, Bool.and_self, cond_true]
    rw [e]
    generalize k + 4 * i = t at *
    rw [wrap_in (a := t + 1) (by omega) (by omega)]
    rw [wrap_in (a := t + 1 + 1) (by omega) (by omega)]
    rw [wrap_in (a := t + 1 + 1 + 1) (by omega) (by omega)]
    rw [wrap_in (a := t + 1 + 1 + 1 + 1) (by omega) (by omega)]
    rw [wrap_in (a := i + 1) (by omega) (by omega)]
    simp [mk48, fI, AV.cells, Int.add_assoc]) (fun t => by simp only [R50_0, F50_0, Int.lt_irrefl, decide_false, cond_false])
  unfold q50 v50_0
  rw [hr]
  exact ⟨rfl, rfl⟩
theorem P81 (ys : List AV) (k : Int) (h : ys.length ≤ 1048576) (hk : 0 ≤ k) (hk' : k ≤ 1099511627776) (hy : ∀ i : Nat, i < ys.length → ys.getD i .undef = mk80 (k + 2 * i)) : q81 ys k = true ∧ v81_0 ys k = k + 2 * ys.length := by
  have hr := runW_held (f := R81_0 ys) 2 ys.length k 4398046511104 (by omega) hk (by omega) (fun i h0 hn ht hM => by
    have e := hy i.toNat (by omega)
    rw [show ((i.toNat : Nat) : Int) = i by omega] at e
    simp only [R81_0, F81_0, h0, hn, decide_true, Bool.and_self, cond_true]
    rw [e]
    generalize k + 2 * i = t at *
    rw [wrap_in (a := t + 1) (by omega) (by omega)]
    rw [wrap_in (a := t + 1 + 1) (by omega) (by omega)]
    rw [wrap_in (a := i + 1) (by omega) (by omega)]
    simp [mk80, fI, AV.cells, Int.add_assoc]) (fun t => by simp only [R81_0, F81_0, Int.lt_irrefl, decide_false, cond_false])
  unfold q81 v81_0
  rw [hr]
  exact ⟨rfl, rfl⟩
theorem v23 (a b c : Int) : v23_0 a b c = (decide (b ≤ a) && decide (a ≤ c)) := by
  unfold v23_0; cases h : decide (a ≥ b) <;> simp_all
theorem run52 (xs : List AV) (h : xs.length ≤ 1048576) : runW (R52_0 xs) (((xs.length : Int) - 0).toNat + 1) 0 = some (ro (findF (fun i => !v23_0 (fI (xs.getD i.toNat .undef) 0) (-999) 999) xs.length 0) (.inl ()) fun _ => .inr ()) := by
  refine runW_find (fun i => i) xs.length _ _ _ (fun i h0 hn => ?_) ?_ xs.length _ 0 (Int.le_refl 0) (by omega) (by omega)
  · simp only [R52_0, F52_0, h0, hn, decide_true, Bool.and_self, cond_true]
    rw [wrap_in (a := i + 1) (by omega) (by omega)]
  · simp only [R52_0, F52_0, Int.lt_irrefl, decide_false, cond_false]
theorem run120 (xs : List AV) (lo hi : AV) (h : xs.length ≤ 1048576) : runW (R120_0 xs lo hi xs.length) (((xs.length : Int) - 0).toNat + 1) 0 = some (ro (findF (fun i => v104_0 (fI (xs.getD i.toNat .undef) 0) lo hi) xs.length 0) (.inl ()) fun i => .inr i) := by
  refine runW_find (fun i => i) xs.length _ _ _ (fun i h0 hn => ?_) ?_ xs.length _ 0 (Int.le_refl 0) (by omega) (by omega)
  · simp only [R120_0, F120_0, h0, hn, decide_true, Bool.and_self, cond_true]
    rw [wrap_in (a := i + 1) (by omega) (by omega)]
  · simp only [R120_0, F120_0, Int.lt_irrefl, decide_false, cond_false]
theorem P52 (xs : List AV) (h : xs.length ≤ 1048576) : q52 xs = true ∧ v52_0 xs = ((findF (fun i => !v23_0 (fI (xs.getD i.toNat .undef) 0) (-999) 999) xs.length 0).isNone && decide (xs.length ≤ 64)) := by
  unfold q52 v52_0
  rw [run52 xs h]
  cases findF (fun i => !v23_0 (fI (xs.getD i.toNat .undef) 0) (-999) 999) xs.length 0 with
  | none => refine ⟨rfl, ?_⟩; simp only [ro, sumE, Option.isNone_none, Bool.true_and]; congr 1; simp only [eq_iff_iff]; omega
  | some j => exact ⟨rfl, rfl⟩
theorem P84 (xs : List AV) (lo hi : Int) (h : xs.length ≤ 1048576) : q84 xs lo hi = true ∧ v84_0 xs lo hi = (findF (fun i => !v23_0 (fI (xs.getD i.toNat .undef) 0) lo hi) xs.length 0).isNone := by
  unfold q84 v84_0 v103_0 q103 q120 v120_0
  rw [run120 xs _ _ h]
  have e : (fun i : Int => v104_0 (fI (xs.getD i.toNat .undef) 0) (AV.int .i64 lo) (AV.int .i64 hi)) = fun i => !v23_0 (fI (xs.getD i.toNat .undef) 0) lo hi := by
    funext i
    unfold v104_0
    rw [v23, show fI (AV.int .i64 lo) 0 = lo from rfl, show fI (AV.int .i64 hi) 0 = hi from rfl]
    generalize fI (xs.getD i.toNat .undef) 0 = z
    by_cases h1 : z < lo <;> by_cases h2 : z > hi <;> simp [h1, h2] <;> omega
  rw [e]
  cases hf : findF (fun i => !v23_0 (fI (xs.getD i.toNat .undef) 0) lo hi) xs.length 0 with
  | none => exact ⟨rfl, rfl⟩
  | some j =>
    have := (findF_some _ _ hf).1
    refine ⟨rfl, ?_⟩
    simp [ro, sumE]
    omega
theorem P57 (xs : List AV) (h : xs.length ≤ 1048576) : q57 xs = true ∧ v57_0 xs = v52_0 xs := by
  rw [(P52 xs h).2]
  unfold q57 v57_0
  rw [(P84 xs _ _ h).1, (P84 xs _ _ h).2]
  have e64 : decide ((xs.length : Int) ≤ 64) = decide (xs.length ≤ 64) := by congr 1; simp only [eq_iff_iff]; omega
  rw [e64]
  cases decide (xs.length ≤ 64) <;> simp

end Go.Proofs.YtmlhhemflhiinaaGreat
