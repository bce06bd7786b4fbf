import Derived.Test.YtbomegcdjhljeaaG9
import Derived.Test.YtbomegcdjhljeaaVEz
namespace Go.Proofs.Ytbomegcdjhljeaa
open Go Go.Proofs.VE
set_option linter.unusedVariables false
set_option linter.unusedSimpArgs false
theorem P75 {a0 : List AV} {a1 : Int} (h : a0.length ≤ 9223372036854775807) (h0 : 0 ≤ a1) (h1 : a1 ≤ 1048576) : v75_0 a0 a1 = if a1 < a0.length then -1 else a1 - a0.length := by
  unfold v75_0
  rw [wrap_in (a := a1 - a0.length) (by omega) (by omega)]
  by_cases hl : a1 < a0.length
  · have e : decide (a1 - (a0.length : Int) < 0) = true := decide_eq_true (by omega)
    rw [e, if_pos hl]
    rfl
  · have e : decide (a1 - (a0.length : Int) < 0) = false := decide_eq_false (by omega)
    rw [e, if_neg hl]
    rfl
theorem P111 {a0 : List AV} {a1 : Int} (h : a0.length ≤ 9223372036854775807) (h0 : 0 ≤ a1) (h1 : a1 ≤ 1048576) : v111_0 a0 a1 = if a1 < a0.length then -1 else a1 - a0.length := by
  unfold v111_0
  rw [wrap_in (a := a1 - a0.length) (by omega) (by omega)]
  by_cases hl : a1 < a0.length
  · have e : decide (a1 - (a0.length : Int) < 0) = true := decide_eq_true (by omega)
    rw [e, if_pos hl]
    rfl
  · have e : decide (a1 - (a0.length : Int) < 0) = false := decide_eq_false (by omega)
    rw [e, if_neg hl]
    rfl
theorem P112 {a0 : List AV} {a1 : Int} (h : a0.length ≤ 9223372036854775807) (h0 : 0 ≤ a1) (h1 : a1 ≤ 1048576) : v112_0 a0 a1 = if a1 < a0.length then -1 else a1 - a0.length := by
  unfold v112_0
  rw [wrap_in (a := a1 - a0.length) (by omega) (by omega)]
  by_cases hl : a1 < a0.length
  · have e : decide (a1 - (a0.length : Int) < 0) = true := decide_eq_true (by omega)
    rw [e, if_pos hl]
    rfl
  · have e : decide (a1 - (a0.length : Int) < 0) = false := decide_eq_false (by omega)
    rw [e, if_neg hl]
    rfl
theorem P76 {a0_0 a0_1 a0_2 : List AV} {a1 : Int} (ha0_0 : a0_0.length ≤ 9223372036854775807) (ha0_1 : a0_1.length ≤ 9223372036854775807) (ha0_2 : a0_2.length ≤ 9223372036854775807) (h0 : 0 ≤ a1) (h1 : a1 ≤ 1048576) : v76_0 a0_0 a0_1 a0_2 a1 = if a1 < (a0_0.length : Int) + (a0_1.length : Int) + (a0_2.length : Int) then -1 else a1 - ((a0_0.length : Int) + (a0_1.length : Int) + (a0_2.length : Int)) := by
  unfold v76_0
  rw [P111 ha0_0 (by omega) (by omega)]
  by_cases c0 : a1 < (a0_0.length : Int)
  · rw [if_pos c0, if_pos (by omega)]; rfl
  · rw [if_neg c0, decide_eq_false (by omega : ¬ a1 - (a0_0.length : Int) < 0), cond_false]
    rw [P111 ha0_1 (by omega) (by omega)]
    by_cases c1 : a1 - (a0_0.length : Int) < (a0_1.length : Int)
    · rw [if_pos c1, if_pos (by omega)]; rfl
    · rw [if_neg c1, decide_eq_false (by omega : ¬ a1 - (a0_0.length : Int) - (a0_1.length : Int) < 0), cond_false]
      rw [P112 ha0_2 (by omega) (by omega)]
      by_cases c2 : a1 - (a0_0.length : Int) - (a0_1.length : Int) < (a0_2.length : Int)
      · rw [if_pos c2, if_pos (by omega)]; rfl
      · rw [if_neg c2, decide_eq_false (by omega : ¬ a1 - (a0_0.length : Int) - (a0_1.length : Int) - (a0_2.length : Int) < 0), cond_false, if_neg (by omega)]
        omega
theorem P38 {a0_0 a0_2 a0_3 a0_4 : List AV} {a0_1 a1 : Int} (ha0_0 : a0_0.length ≤ 9223372036854775807) (ha0_2 : a0_2.length ≤ 9223372036854775807) (ha0_3 : a0_3.length ≤ 9223372036854775807) (ha0_4 : a0_4.length ≤ 9223372036854775807) (h0 : 0 ≤ a1) (h1 : a1 ≤ 1048576) : v38_0 a0_0 a0_1 a0_2 a0_3 a0_4 a1 = if a1 < (a0_0.length : Int) + ((a0_2.length : Int) + (a0_3.length : Int) + (a0_4.length : Int)) then -1 else a1 - ((a0_0.length : Int) + ((a0_2.length : Int) + (a0_3.length : Int) + (a0_4.length : Int))) := by
  unfold v38_0
  rw [P75 ha0_0 (by omega) (by omega)]
  by_cases c0 : a1 < (a0_0.length : Int)
  · rw [if_pos c0, if_pos (by omega)]; rfl
  · rw [if_neg c0, decide_eq_false (by omega : ¬ a1 - (a0_0.length : Int) < 0), cond_false]
    rw [P76 ha0_2 ha0_3 ha0_4 (by omega) (by omega)]
    by_cases c1 : a1 - (a0_0.length : Int) < ((a0_2.length : Int) + (a0_3.length : Int) + (a0_4.length : Int))
    · rw [if_pos c1, if_pos (by omega)]; rfl
    · rw [if_neg c1, decide_eq_false (by omega : ¬ a1 - (a0_0.length : Int) - (((a0_2.length : Int) + (a0_3.length : Int) + (a0_4.length : Int))) < 0), cond_false, if_neg (by omega)]
      omega
def cp34 (x : AV) : AV := (AV.agg [AV.int .i64 (fI x 0)])
theorem P34 (xs : List AV) (h : xs.length ≤ 1048576) : q34 xs = true ∧ v34_0 xs = xs.map cp34 := by
  have hr : runW (R34_0 xs) (((xs.length : Int) - 0).toNat + 1) (0, List.replicate (Int.toNat (xs.length : Int)) (AV.int .i64 0)) = some (xs.map cp34) := by
    refine runW_copy (c := cp34) xs (fun i ys h0 hn hl => ?_) (fun ys => ?_)
    · simp only [R34_0, F34_0]
      have hl' : i < ys.length := by omega
      simp only [h0, hn, hl', decide_true, Bool.and_self, cond_true]
      rw [wrap_in (a := i + 1) (by omega) (by omega)]
      rfl
    · simp only [R34_0, F34_0, Int.lt_irrefl, decide_false, cond_false]
  unfold q34 v34_0
  rw [hr]
  refine ⟨?_, rfl⟩
  simp only [ro, Bool.and_true, Bool.and_eq_true, decide_eq_true_eq]
  omega
def cp77 (x : AV) : AV := (AV.agg [AV.int .i64 (v113_0 (fI x 0) (fI x 1) (fI x 2) (fI x 3)), AV.int .i64 (v113_1 (fI x 0) (fI x 1) (fI x 2) (fI x 3)), AV.int .i64 (v113_2 (fI x 0) (fI x 1) (fI x 2) (fI x 3)), AV.int .i64 (v113_3 (fI x 0) (fI x 1) (fI x 2) (fI x 3))])
theorem P77 (xs : List AV) (h : xs.length ≤ 1048576) : q77 xs = true ∧ v77_0 xs = xs.map cp77 := by
  have hr : runW (R77_0 xs) (((xs.length : Int) - 0).toNat + 1) (0, List.replicate (Int.toNat (xs.length : Int)) (AV.agg [AV.int .i64 0, AV.int .i64 0, AV.int .i64 0, AV.int .i64 0])) = some (xs.map cp77) := by
    refine runW_copy (c := cp77) xs (fun i ys h0 hn hl => ?_) (fun ys => ?_)
    · simp only [R77_0, F77_0]
      have hl' : i < ys.length := by omega
      simp only [h0, hn, hl', decide_true, Bool.and_self, cond_true]
      rw [wrap_in (a := i + 1) (by omega) (by omega)]
      rfl
    · simp only [R77_0, F77_0, Int.lt_irrefl, decide_false, cond_false]
  unfold q77 v77_0
  rw [hr]
  refine ⟨?_, rfl⟩
  simp only [ro, Bool.and_true, Bool.and_eq_true, decide_eq_true_eq]
  omega
def cp114 (x : AV) : AV := (AV.agg [AV.int .i64 (v146_0 (fI x 0) (fI x 1)), AV.int .i64 (v146_1 (fI x 0) (fI x 1))])
theorem P114 (xs : List AV) (h : xs.length ≤ 1048576) : q114 xs = true ∧ v114_0 xs = xs.map cp114 := by
  have hr : runW (R114_0 xs) (((xs.length : Int) - 0).toNat + 1) (0, List.replicate (Int.toNat (xs.length : Int)) (AV.agg [AV.int .i64 0, AV.int .i64 0])) = some (xs.map cp114) := by
    refine runW_copy (c := cp114) xs (fun i ys h0 hn hl => ?_) (fun ys => ?_)
    · simp only [R114_0, F114_0]
      have hl' : i < ys.length := by omega
      simp only [h0, hn, hl', decide_true, Bool.and_self, cond_true]
      rw [wrap_in (a := i + 1) (by omega) (by omega)]
      rfl
    · simp only [R114_0, F114_0, Int.lt_irrefl, decide_false, cond_false]
  unfold q114 v114_0
  rw [hr]
  refine ⟨?_, rfl⟩
  simp only [ro, Bool.and_true, Bool.and_eq_true, decide_eq_true_eq]
  omega
theorem P94 (xs ys : List AV) (h : xs.length ≤ 1048576) : q94 xs ys = true ∧ v94_0 xs ys = eqL e1 xs ys := by
  have hr : (xs.length : Int) = ys.length → runW (R94_0 xs ys) (((xs.length : Int) - 0).toNat + 1) 0 = some (ro (findF (fun i => !e1 (xs.getD i.toNat .undef) (ys.getD i.toNat .undef)) xs.length 0) (.inl ()) fun _ => .inr ()) := fun hl => by
    refine runW_find (fun i => i) xs.length _ _ _ (fun i h0 hn => ?_) ?_ xs.length _ 0 (Int.le_refl 0) (by omega) (by omega)
    · have hn' : i < ys.length := by omega
      simp only [R94_0, F94_0, h0, hn, hn', decide_true, Bool.and_self, cond_true]
      rw [wrap_in (a := i + 1) (by omega) (by omega)]
      generalize xs.getD i.toNat .undef = x
      generalize ys.getD i.toNat .undef = y
      congr 1
      all_goals first | rfl | (simp only [e1]; done) | (simp only [e1]; cases decide (fI x 0 = fI y 0) <;> rfl)
    · simp only [R94_0, F94_0, Int.lt_irrefl, decide_false, cond_false]
  unfold q94 v94_0 eqL
  by_cases hl : (xs.length : Int) = ys.length
  · rw [decide_eq_true hl, hr hl]
    cases findF (fun i => !e1 (xs.getD i.toNat .undef) (ys.getD i.toNat .undef)) xs.length 0 <;> exact ⟨rfl, rfl⟩
  · rw [decide_eq_false hl]
    exact ⟨rfl, rfl⟩
theorem P95 (xs ys : List AV) (h : xs.length ≤ 1048576) : q95 xs ys = true ∧ v95_0 xs ys = eqL e2 xs ys := by
  have hr : (xs.length : Int) = ys.length → runW (R95_0 xs ys) (((xs.length : Int) - 0).toNat + 1) 0 = some (ro (findF (fun i => !e2 (xs.getD i.toNat .undef) (ys.getD i.toNat .undef)) xs.length 0) (.inl ()) fun _ => .inr ()) := fun hl => by
    refine runW_find (fun i => i) xs.length _ _ _ (fun i h0 hn => ?_) ?_ xs.length _ 0 (Int.le_refl 0) (by omega) (by omega)
    · have hn' : i < ys.length := by omega
      simp only [R95_0, F95_0, h0, hn, hn', decide_true, Bool.and_self, cond_true]
      rw [wrap_in (a := i + 1) (by omega) (by omega)]
      generalize xs.getD i.toNat .undef = x
      generalize ys.getD i.toNat .undef = y
      congr 1
      all_goals first | rfl | (simp only [e2]; done) | (simp only [e2]; cases decide (fI x 0 = fI y 0) <;> cases decide (fI x 1 = fI y 1) <;> rfl)
    · simp only [R95_0, F95_0, Int.lt_irrefl, decide_false, cond_false]
  unfold q95 v95_0 eqL
  by_cases hl : (xs.length : Int) = ys.length
  · rw [decide_eq_true hl, hr hl]
    cases findF (fun i => !e2 (xs.getD i.toNat .undef) (ys.getD i.toNat .undef)) xs.length 0 <;> exact ⟨rfl, rfl⟩
  · rw [decide_eq_false hl]
    exact ⟨rfl, rfl⟩
theorem P79 (xs ys : List AV) (h : xs.length ≤ 1048576) : q79 xs ys = true ∧ v79_0 xs ys = eqL e4 xs ys := by
  have hr : (xs.length : Int) = ys.length → runW (R79_0 xs ys xs.length) (((xs.length : Int) - 0).toNat + 1) 0 = some (ro (findF (fun i => !e4 (xs.getD i.toNat .undef) (ys.getD i.toNat .undef)) xs.length 0) (.inl ()) fun _ => .inr ()) := fun hl => by
    refine runW_find (fun i => i) xs.length _ _ _ (fun i h0 hn => ?_) ?_ xs.length _ 0 (Int.le_refl 0) (by omega) (by omega)
    · have hn' : i < ys.length := by omega
      simp only [R79_0, F79_0, h0, hn, hn', decide_true, Bool.and_self, cond_true]
      rw [wrap_in (a := i + 1) (by omega) (by omega)]
      generalize xs.getD i.toNat .undef = x
      generalize ys.getD i.toNat .undef = y
      congr 1
      all_goals first | rfl | (simp only [e4]; done) | (simp only [e4]; cases decide (fI x 0 = fI y 0) <;> cases decide (fI x 1 = fI y 1) <;> cases decide (fI x 2 = fI y 2) <;> cases decide (fI x 3 = fI y 3) <;> rfl)
    · simp only [R79_0, F79_0, Int.lt_irrefl, decide_false, cond_false]
  unfold q79 v79_0 eqL
  by_cases hl : (xs.length : Int) = ys.length
  · rw [decide_eq_true hl, hr hl]
    cases findF (fun i => !e4 (xs.getD i.toNat .undef) (ys.getD i.toNat .undef)) xs.length 0 <;> exact ⟨rfl, rfl⟩
  · rw [decide_eq_false hl]
    exact ⟨rfl, rfl⟩
theorem P105 (xs ys : List AV) (h : xs.length ≤ 1048576) : q105 xs ys = true ∧ v105_0 xs ys = eqL e1 xs ys := by
  have hr : (xs.length : Int) = ys.length → runW (R105_0 xs ys xs.length) (((xs.length : Int) - 0).toNat + 1) 0 = some (ro (findF (fun i => !e1 (xs.getD i.toNat .undef) (ys.getD i.toNat .undef)) xs.length 0) (.inl ()) fun _ => .inr ()) := fun hl => by
    refine runW_find (fun i => i) xs.length _ _ _ (fun i h0 hn => ?_) ?_ xs.length _ 0 (Int.le_refl 0) (by omega) (by omega)
    · have hn' : i < ys.length := by omega
      simp only [R105_0, F105_0, h0, hn, hn', decide_true, Bool.and_self, cond_true]
      rw [wrap_in (a := i + 1) (by omega) (by omega)]
      generalize xs.getD i.toNat .undef = x
      generalize ys.getD i.toNat .undef = y
      congr 1
      all_goals first | rfl | (simp only [e1]; done) | (simp only [e1]; cases decide (fI x 0 = fI y 0) <;> rfl)
    · simp only [R105_0, F105_0, Int.lt_irrefl, decide_false, cond_false]
  unfold q105 v105_0 eqL
  by_cases hl : (xs.length : Int) = ys.length
  · rw [decide_eq_true hl, hr hl]
    cases findF (fun i => !e1 (xs.getD i.toNat .undef) (ys.getD i.toNat .undef)) xs.length 0 <;> exact ⟨rfl, rfl⟩
  · rw [decide_eq_false hl]
    exact ⟨rfl, rfl⟩
theorem P115 (xs ys : List AV) (h : xs.length ≤ 1048576) : q115 xs ys = true ∧ v115_0 xs ys = eqL e2 xs ys := by
  have hr : (xs.length : Int) = ys.length → runW (R115_0 xs ys xs.length) (((xs.length : Int) - 0).toNat + 1) 0 = some (ro (findF (fun i => !e2 (xs.getD i.toNat .undef) (ys.getD i.toNat .undef)) xs.length 0) (.inl ()) fun _ => .inr ()) := fun hl => by
    refine runW_find (fun i => i) xs.length _ _ _ (fun i h0 hn => ?_) ?_ xs.length _ 0 (Int.le_refl 0) (by omega) (by omega)
    · have hn' : i < ys.length := by omega
      simp only [R115_0, F115_0, h0, hn, hn', decide_true, Bool.and_self, cond_true]
      rw [wrap_in (a := i + 1) (by omega) (by omega)]
      generalize xs.getD i.toNat .undef = x
      generalize ys.getD i.toNat .undef = y
      congr 1
      all_goals first | rfl | (simp only [e2]; done) | (simp only [e2]; cases decide (fI x 0 = fI y 0) <;> cases decide (fI x 1 = fI y 1) <;> rfl)
    · simp only [R115_0, F115_0, Int.lt_irrefl, decide_false, cond_false]
  unfold q115 v115_0 eqL
  by_cases hl : (xs.length : Int) = ys.length
  · rw [decide_eq_true hl, hr hl]
    cases findF (fun i => !e2 (xs.getD i.toNat .undef) (ys.getD i.toNat .undef)) xs.length 0 <;> exact ⟨rfl, rfl⟩
  · rw [decide_eq_false hl]
    exact ⟨rfl, rfl⟩
theorem P22 (xs ys : List AV) (h : xs.length ≤ 1048576) : q22 xs ys = true ∧ v22_0 xs ys = eqL e1 xs ys := by
  have hr : (xs.length : Int) = ys.length → runW (R22_0 xs ys) (((xs.length : Int) - 0).toNat + 1) 0 = some (ro (findF (fun i => !e1 (xs.getD i.toNat .undef) (ys.getD i.toNat .undef)) xs.length 0) (.inl ()) fun _ => .inr ()) := fun hl => by
    refine runW_find (fun i => i) xs.length _ _ _ (fun i h0 hn => ?_) ?_ xs.length _ 0 (Int.le_refl 0) (by omega) (by omega)
    · have hn' : i < ys.length := by omega
      simp only [R22_0, F22_0, h0, hn, hn', decide_true, Bool.and_self, cond_true]
      rw [wrap_in (a := i + 1) (by omega) (by omega)]
      generalize xs.getD i.toNat .undef = x
      generalize ys.getD i.toNat .undef = y
      congr 1
      all_goals first | rfl | (simp only [e1]; done) | (simp only [e1]; cases decide (fI x 0 = fI y 0) <;> rfl)
    · simp only [R22_0, F22_0, Int.lt_irrefl, decide_false, cond_false]
  unfold q22 v22_0 eqL
  by_cases hl : (xs.length : Int) = ys.length
  · rw [decide_eq_true hl, hr hl]
    cases findF (fun i => !e1 (xs.getD i.toNat .undef) (ys.getD i.toNat .undef)) xs.length 0 <;> exact ⟨rfl, rfl⟩
  · rw [decide_eq_false hl]
    exact ⟨rfl, rfl⟩
theorem P81 (xs ys : List AV) (h : xs.length ≤ 1048576) : q81 xs ys = true ∧ v81_0 xs ys = eqL e4 xs ys := by
  have hr : (xs.length : Int) = ys.length → runW (R81_0 xs ys) (((xs.length : Int) - 0).toNat + 1) 0 = some (ro (findF (fun i => !e4 (xs.getD i.toNat .undef) (ys.getD i.toNat .undef)) xs.length 0) (.inl ()) fun _ => .inr ()) := fun hl => by
    refine runW_find (fun i => i) xs.length _ _ _ (fun i h0 hn => ?_) ?_ xs.length _ 0 (Int.le_refl 0) (by omega) (by omega)
    · have hn' : i < ys.length := by omega
      simp only [R81_0, F81_0, h0, hn, hn', decide_true, Bool.and_self, cond_true]
      rw [wrap_in (a := i + 1) (by omega) (by omega)]
      generalize xs.getD i.toNat .undef = x
      generalize ys.getD i.toNat .undef = y
      congr 1
      all_goals first | rfl | (simp only [e4, v116_0]; done) | (simp only [e4, v116_0]; cases decide (fI x 0 = fI y 0) <;> cases decide (fI x 1 = fI y 1) <;> cases decide (fI x 2 = fI y 2) <;> cases decide (fI x 3 = fI y 3) <;> rfl)
    · simp only [R81_0, F81_0, Int.lt_irrefl, decide_false, cond_false]
  unfold q81 v81_0 eqL
  by_cases hl : (xs.length : Int) = ys.length
  · rw [decide_eq_true hl, hr hl]
    cases findF (fun i => !e4 (xs.getD i.toNat .undef) (ys.getD i.toNat .undef)) xs.length 0 <;> exact ⟨rfl, rfl⟩
  · rw [decide_eq_false hl]
    exact ⟨rfl, rfl⟩
theorem P117 (xs ys : List AV) (h : xs.length ≤ 1048576) : q117 xs ys = true ∧ v117_0 xs ys = eqL e2 xs ys := by
  have hr : (xs.length : Int) = ys.length → runW (R117_0 xs ys) (((xs.length : Int) - 0).toNat + 1) 0 = some (ro (findF (fun i => !e2 (xs.getD i.toNat .undef) (ys.getD i.toNat .undef)) xs.length 0) (.inl ()) fun _ => .inr ()) := fun hl => by
    refine runW_find (fun i => i) xs.length _ _ _ (fun i h0 hn => ?_) ?_ xs.length _ 0 (Int.le_refl 0) (by omega) (by omega)
    · have hn' : i < ys.length := by omega
      simp only [R117_0, F117_0, h0, hn, hn', decide_true, Bool.and_self, cond_true]
      rw [wrap_in (a := i + 1) (by omega) (by omega)]
      generalize xs.getD i.toNat .undef = x
      generalize ys.getD i.toNat .undef = y
      congr 1
      all_goals first | rfl | (simp only [e2, v147_0]; done) | (simp only [e2, v147_0]; cases decide (fI x 0 = fI y 0) <;> cases decide (fI x 1 = fI y 1) <;> rfl)
    · simp only [R117_0, F117_0, Int.lt_irrefl, decide_false, cond_false]
  unfold q117 v117_0 eqL
  by_cases hl : (xs.length : Int) = ys.length
  · rw [decide_eq_true hl, hr hl]
    cases findF (fun i => !e2 (xs.getD i.toNat .undef) (ys.getD i.toNat .undef)) xs.length 0 <;> exact ⟨rfl, rfl⟩
  · rw [decide_eq_false hl]
    exact ⟨rfl, rfl⟩
end Go.Proofs.Ytbomegcdjhljeaa
