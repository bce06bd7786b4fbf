import Derived.Test.YtbomegcdjhljeaaG11
import Derived.Test.YtbomegcdjhljeaaVEz
namespace Go.Proofs.Ytbomegcdjhljeaa
open Go Go.Proofs.VE
set_option linter.unusedVariables false
set_option linter.unusedSimpArgs false
def cp34 (x : AV) : AV := (AV.agg [AV.int .i64 (fI x 0)])
theorem P34 (xs : List AV) (h : xs.length ≤ 1048576) : q34 xs = true ∧ v34_0 xs = xs.map cp34 := by
  have hr : runW (R34_0 xs) (((xs.length : Int) - 0).toNat + 1) (0, List.replicate (Int.toNat (xs.length : Int)) (AV.int .i64 0)) = some (xs.map cp34) := by
    refine runW_copy (c := cp34) xs (fun i ys h0 hn hl => ?_) (fun ys => ?_)
    · simp only [R34_0, F34_0]
      have hl' : i < ys.length := by omega
      simp only [h0, hn, hl', decide_true, Bool.and_self, cond_true]
      rw [wrap_in (a := i + 1) (by omega) (by omega)]
      rfl
    · simp only [R34_0, F34_0, Int.lt_irrefl, decide_false, cond_false]
  unfold q34 v34_0
  rw [hr]
  refine ⟨?_, rfl⟩
  simp only [ro, Bool.and_true, Bool.and_eq_true, decide_eq_true_eq]
  omega
theorem P22 (xs ys : List AV) (h : xs.length ≤ 1048576) : q22 xs ys = true ∧ v22_0 xs ys = eqL e1 xs ys := by
  have hr : (xs.length : Int) = ys.length → runW (R22_0 xs ys) (((xs.length : Int) - 0).toNat + 1) 0 = some (ro (findF (fun i => !e1 (xs.getD i.toNat .undef) (ys.getD i.toNat .undef)) xs.length 0) (.inl ()) fun _ => .inr ()) := fun hl => by
    refine runW_find (fun i => i) xs.length _ _ _ (fun i h0 hn => ?_) ?_ xs.length _ 0 (Int.le_refl 0) (by omega) (by omega)
    · have hn' : i < ys.length := by omega
      simp only [R22_0, F22_0, h0, hn, hn', decide_true, Bool.and_self, cond_true]
      rw [wrap_in (a := i + 1) (by omega) (by omega)]
      generalize xs.getD i.toNat .undef = x
      generalize ys.getD i.toNat .undef = y
      congr 1
      all_goals first | rfl | (simp only [e1]; done) | (simp only [e1]; cases decide (fI x 0 = fI y 0) <;> rfl)
    · simp only [R22_0, F22_0, Int.lt_irrefl, decide_false, cond_false]
  unfold q22 v22_0 eqL
  by_cases hl : (xs.length : Int) = ys.length
  · rw [decide_eq_true hl, hr hl]
    cases findF (fun i => !e1 (xs.getD i.toNat .undef) (ys.getD i.toNat .undef)) xs.length 0 <;> exact ⟨rfl, rfl⟩
  · rw [decide_eq_false hl]
    exact ⟨rfl, rfl⟩
theorem P81 (xs ys : List AV) (h : xs.length ≤ 1048576) : q81 xs ys = true ∧ v81_0 xs ys = eqL e4 xs ys := by
  have hr : (xs.length : Int) = ys.length → runW (R81_0 xs ys) (((xs.length : Int) - 0).toNat + 1) 0 = some (ro (findF (fun i => !e4 (xs.getD i.toNat .undef) (ys.getD i.toNat .undef)) xs.length 0) (.inl ()) fun _ => .inr ()) := fun hl => by
    refine runW_find (fun i => i) xs.length _ _ _ (fun i h0 hn => ?_) ?_ xs.length _ 0 (Int.le_refl 0) (by omega) (by omega)
    · have hn' : i < ys.length := by omega
      simp only [R81_0, F81_0, h0, hn, hn', decide_true, Bool.and_self, cond_true]
      rw [wrap_in (a := i + 1) (by omega) (by omega)]
      generalize xs.getD i.toNat .undef = x
      generalize ys.getD i.toNat .undef = y
      congr 1
      all_goals first | rfl | (simp only [e4, v116_0]; done) | (simp only [e4, v116_0]; cases decide (fI x 0 = fI y 0) <;> cases decide (fI x 1 = fI y 1) <;> cases decide (fI x 2 = fI y 2) <;> cases decide (fI x 3 = fI y 3) <;> rfl)
    · simp only [R81_0, F81_0, Int.lt_irrefl, decide_false, cond_false]
  unfold q81 v81_0 eqL
  by_cases hl : (xs.length : Int) = ys.length
  · rw [decide_eq_true hl, hr hl]
    cases findF (fun i => !e4 (xs.getD i.toNat .undef) (ys.getD i.toNat .undef)) xs.length 0 <;> exact ⟨rfl, rfl⟩
  · rw [decide_eq_false hl]
    exact ⟨rfl, rfl⟩
theorem P117 (xs ys : List AV) (h : xs.length ≤ 1048576) : q117 xs ys = true ∧ v117_0 xs ys = eqL e2 xs ys := by
  have hr : (xs.length : Int) = ys.length → runW (R117_0 xs ys) (((xs.length : Int) - 0).toNat + 1) 0 = some (ro (findF (fun i => !e2 (xs.getD i.toNat .undef) (ys.getD i.toNat .undef)) xs.length 0) (.inl ()) fun _ => .inr ()) := fun hl => by
    refine runW_find (fun i => i) xs.length _ _ _ (fun i h0 hn => ?_) ?_ xs.length _ 0 (Int.le_refl 0) (by omega) (by omega)
    · have hn' : i < ys.length := by omega
      simp only [R117_0, F117_0, h0, hn, hn', decide_true, Bool.and_self, cond_true]
      rw [wrap_in (a := i + 1) (by omega) (by omega)]
      generalize xs.getD i.toNat .undef = x
      generalize ys.getD i.toNat .undef = y
      congr 1
      all_goals first | rfl | (simp only [e2, v147_0]; done) | (simp only [e2, v147_0]; cases decide (fI x 0 = fI y 0) <;> cases decide (fI x 1 = fI y 1) <;> rfl)
    · simp only [R117_0, F117_0, Int.lt_irrefl, decide_false, cond_false]
  unfold q117 v117_0 eqL
  by_cases hl : (xs.length : Int) = ys.length
  · rw [decide_eq_true hl, hr hl]
    cases findF (fun i => !e2 (xs.getD i.toNat .undef) (ys.getD i.toNat .undef)) xs.length 0 <;> exact ⟨rfl, rfl⟩
  · rw [decide_eq_false hl]
    exact ⟨rfl, rfl⟩
def mk25 (t : Int) : AV := AV.agg [AV.int .i64 (t)]
theorem P25 (xs : List AV) (k : Int) (h : xs.length ≤ 1048576) (hk : 0 ≤ k) (hk' : k ≤ 1099511627776) : ∃ ys, q25 k xs = true ∧ v25_0 k xs = k + 1 * xs.length ∧ v25_1 k xs = ys ∧ ys.length = xs.length ∧ ∀ i : Nat, i < xs.length → ys.getD i .undef = mk25 (k + 1 * i) := by
  have step : ∀ (t i : Int) (ys : List AV), 0 ≤ i → i < xs.length → ys.length = xs.length → 0 ≤ t → t + 1 ≤ 4398046511104 → R25_0 (t, i, ys) = .next (t + 1, i + 1, ys.set i.toNat (mk25 t)) := fun t i ys h0 hn hl ht hM => by
    have hl' : i < ys.length := by omega
    have hlN : i.toNat < ys.length := by omega
    simp only [R25_0, F25_0, List.length_set, h0, hl', decide_true, Bool.and_self, cond_true, List.set_set]
    have gs : ∀ v : AV, (ys.set i.toNat v).getD i.toNat AV.undef = v := fun v => getD_set hlN
    try simp only [gs]
    rw [wrap_in (a := t + 1) (by omega) (by omega)]
    rw [wrap_in (a := i + 1) (by omega) (by omega)]
    simp [mk25, fI, AV.cells, Int.add_assoc]
  obtain ⟨ys, e1, e2, e3⟩ := runW_mark (f := R25_0) 1 mk25 xs k 4398046511104 (by omega) hk (by omega) step (fun t ys hl => by simp only [R25_0, F25_0, hl, Int.lt_irrefl, decide_false, cond_false])
  refine ⟨ys, ?_, ?_, ?_, e2, e3⟩
  · unfold q25; rw [e1]; rfl
  · unfold v25_0; rw [e1]; rfl
  · unfold v25_1; rw [e1]; rfl
def mk97 (t : Int) : AV := AV.agg [AV.int .i64 (t), AV.int .i64 (t + 1), AV.int .i64 (t + 1 + 1), AV.int .i64 (t + 1 + 1 + 1)]
theorem P97 (xs : List AV) (k : Int) (h : xs.length ≤ 1048576) (hk : 0 ≤ k) (hk' : k ≤ 1099511627776) : ∃ ys, q97 k xs = true ∧ v97_0 k xs = k + 4 * xs.length ∧ v97_1 k xs = ys ∧ ys.length = xs.length ∧ ∀ i : Nat, i < xs.length → ys.getD i .undef = mk97 (k + 4 * i) := by
  have step : ∀ (t i : Int) (ys : List AV), 0 ≤ i → i < xs.length → ys.length = xs.length → 0 ≤ t → t + 4 ≤ 4398046511104 → R97_0 (t, i, ys) = .next (t + 4, i + 1, ys.set i.toNat (mk97 t)) := fun t i ys h0 hn hl ht hM => by
    have hl' : i < ys.length := by omega
    have hlN : i.toNat < ys.length := by omega
    simp only [R97_0, F97_0, List.length_set, h0, hl', decide_true, Bool.and_self, cond_true, List.set_set]
    have gs : ∀ v : AV, (ys.set i.toNat v).getD i.toNat AV.undef = v := fun v => getD_set hlN
    try simp only [gs]
    rw [wrap_in (a := t + 1) (by omega) (by omega)]
    rw [wrap_in (a := t + 1 + 1) (by omega) (by omega)]
    rw [wrap_in (a := t + 1 + 1 + 1) (by omega) (by omega)]
    rw [wrap_in (a := t + 1 + 1 + 1 + 1) (by omega) (by omega)]
    rw [wrap_in (a := i + 1) (by omega) (by omega)]
    simp [mk97, fI, AV.cells, Int.add_assoc]
  obtain ⟨ys, e1, e2, e3⟩ := runW_mark (f := R97_0) 4 mk97 xs k 4398046511104 (by omega) hk (by omega) step (fun t ys hl => by simp only [R97_0, F97_0, hl, Int.lt_irrefl, decide_false, cond_false])
  refine ⟨ys, ?_, ?_, ?_, e2, e3⟩
  · unfold q97; rw [e1]; rfl
  · unfold v97_0; rw [e1]; rfl
  · unfold v97_1; rw [e1]; rfl
def mk138 (t : Int) : AV := AV.agg [AV.int .i64 (t), AV.int .i64 (t + 1)]
theorem P138 (xs : List AV) (k : Int) (h : xs.length ≤ 1048576) (hk : 0 ≤ k) (hk' : k ≤ 1099511627776) : ∃ ys, q138 k xs = true ∧ v138_0 k xs = k + 2 * xs.length ∧ v138_1 k xs = ys ∧ ys.length = xs.length ∧ ∀ i : Nat, i < xs.length → ys.getD i .undef = mk138 (k + 2 * i) := by
  have step : ∀ (t i : Int) (ys : List AV), 0 ≤ i → i < xs.length → ys.length = xs.length → 0 ≤ t → t + 2 ≤ 4398046511104 → R138_0 (t, i, ys) = .next (t + 2, i + 1, ys.set i.toNat (mk138 t)) := fun t i ys h0 hn hl ht hM => by
    have hl' : i < ys.length := by omega
    have hlN : i.toNat < ys.length := by omega
    simp only [R138_0, F138_0, List.length_set, h0, hl', decide_true, Bool.and_self, cond_true, List.set_set]
    have gs : ∀ v : AV, (ys.set i.toNat v).getD i.toNat AV.undef = v := fun v => getD_set hlN
    try simp only [gs]
    rw [wrap_in (a := t + 1) (by omega) (by omega)]
    rw [wrap_in (a := t + 1 + 1) (by omega) (by omega)]
    rw [wrap_in (a := i + 1) (by omega) (by omega)]
    simp [mk138, fI, AV.cells, Int.add_assoc]
  obtain ⟨ys, e1, e2, e3⟩ := runW_mark (f := R138_0) 2 mk138 xs k 4398046511104 (by omega) hk (by omega) step (fun t ys hl => by simp only [R138_0, F138_0, hl, Int.lt_irrefl, decide_false, cond_false])
  refine ⟨ys, ?_, ?_, ?_, e2, e3⟩
  · unfold q138; rw [e1]; rfl
  · unfold v138_0; rw [e1]; rfl
  · unfold v138_1; rw [e1]; rfl
theorem P26 (ys : List AV) (k : Int) (h : ys.length ≤ 1048576) (hk : 0 ≤ k) (hk' : k ≤ 1099511627776) (hy : ∀ i : Nat, i < ys.length → ys.getD i .undef = mk25 (k + 1 * i)) : q26 ys k = true ∧ v26_0 ys k = k + 1 * ys.length := by
  have hr := runW_held (f := R26_0 ys) 1 ys.length k 4398046511104 (by omega) hk (by omega) (fun i h0 hn ht hM => by
    have e := hy i.toNat (by omega)
    rw [show ((i.toNat : Nat) : Int) = i by omega] at e
    simp only [R26_0, F26_0, h0, hn, decide_true, Bool.and_self, cond_true]
    rw [e]
    generalize k + 1 * i = t at *
    rw [wrap_in (a := t + 1) (by omega) (by omega)]
    rw [wrap_in (a := i + 1) (by omega) (by omega)]
    simp [mk25, fI, AV.cells, Int.add_assoc]) (fun t => by simp only [R26_0, F26_0, Int.lt_irrefl, decide_false, cond_false])
  unfold q26 v26_0
  rw [hr]
  exact ⟨rfl, rfl⟩
theorem P99 (ys : List AV) (k : Int) (h : ys.length ≤ 1048576) (hk : 0 ≤ k) (hk' : k ≤ 1099511627776) (hy : ∀ i : Nat, i < ys.length → ys.getD i .undef = mk97 (k + 4 * i)) : q99 ys k = true ∧ v99_0 ys k = k + 4 * ys.length := by
  have hr := runW_held (f := R99_0 ys) 4 ys.length k 4398046511104 (by omega) hk (by omega) (fun i h0 hn ht hM => by
    have e := hy i.toNat (by omega)
    rw [show ((i.toNat : Nat) : Int) = i by omega] at e
    simp only [R99_0, F99_0, h0, hn, decide_true, Bool.and_self, cond_true]
    rw [e]
    generalize k + 4 * i = t at *
    rw [wrap_in (a := t + 1) (by omega) (by omega)]
    rw [wrap_in (a := t + 1 + 1) (by omega) (by omega)]
    rw [wrap_in (a := t + 1 + 1 + 1) (by omega) (by omega)]
    rw [wrap_in (a := t + 1 + 1 + 1 + 1) (by omega) (by omega)]
    rw [wrap_in (a := i + 1) (by omega) (by omega)]
    simp [mk97, fI, AV.cells, Int.add_assoc]) (fun t => by simp only [R99_0, F99_0, Int.lt_irrefl, decide_false, cond_false])
  unfold q99 v99_0
  rw [hr]
  exact ⟨rfl, rfl⟩
theorem P139 (ys : List AV) (k : Int) (h : ys.length ≤ 1048576) (hk : 0 ≤ k) (hk' : k ≤ 1099511627776) (hy : ∀ i : Nat, i < ys.length → ys.getD i .undef = mk138 (k + 2 * i)) : q139 ys k = true ∧ v139_0 ys k = k + 2 * ys.length := by
  have hr := runW_held (f := R139_0 ys) 2 ys.length k 4398046511104 (by omega) hk (by omega) (fun i h0 hn ht hM => by
    have e := hy i.toNat (by omega)
    rw [show ((i.toNat : Nat) : Int) = i by omega] at e
    simp only [R139_0, F139_0, h0, hn, decide_true, Bool.and_self, cond_true]
    rw [e]
    generalize k + 2 * i = t at *
    rw [wrap_in (a := t + 1) (by omega) (by omega)]
    rw [wrap_in (a := t + 1 + 1) (by omega) (by omega)]
    rw [wrap_in (a := i + 1) (by omega) (by omega)]
    simp [mk138, fI, AV.cells, Int.add_assoc]) (fun t => by simp only [R139_0, F139_0, Int.lt_irrefl, decide_false, cond_false])
  unfold q139 v139_0
  rw [hr]
  exact ⟨rfl, rfl⟩
theorem v66 (a b c : Int) : v66_0 a b c = (decide (b ≤ a) && decide (a ≤ c)) := by
  unfold v66_0; cases h : decide (a ≥ b) <;> simp_all
theorem run90 (xs : List AV) (h : xs.length ≤ 1048576) : runW (R90_0 xs) (((xs.length : Int) - 0).toNat + 1) 0 = some (ro (findF (fun i => !v66_0 (fI (xs.getD i.toNat .undef) 0) (-999) 999) xs.length 0) (.inl ()) fun _ => .inr ()) := by
  refine runW_find (fun i => i) xs.length _ _ _ (fun i h0 hn => ?_) ?_ xs.length _ 0 (Int.le_refl 0) (by omega) (by omega)
  · simp only [R90_0, F90_0, h0, hn, decide_true, Bool.and_self, cond_true]
    rw [wrap_in (a := i + 1) (by omega) (by omega)]
  · simp only [R90_0, F90_0, Int.lt_irrefl, decide_false, cond_false]
theorem run164 (xs : List AV) (lo hi : AV) (h : xs.length ≤ 1048576) : runW (R164_0 xs lo hi xs.length) (((xs.length : Int) - 0).toNat + 1) 0 = some (ro (findF (fun i => v145_0 (fI (xs.getD i.toNat .undef) 0) lo hi) xs.length 0) (.inl ()) fun i => .inr i) := by
  refine runW_find (fun i => i) xs.length _ _ _ (fun i h0 hn => ?_) ?_ xs.length _ 0 (Int.le_refl 0) (by omega) (by omega)
  · simp only [R164_0, F164_0, h0, hn, decide_true, Bool.and_self, cond_true]
    rw [wrap_in (a := i + 1) (by omega) (by omega)]
  · simp only [R164_0, F164_0, Int.lt_irrefl, decide_false, cond_false]
theorem P90 (xs : List AV) (h : xs.length ≤ 1048576) : q90 xs = true ∧ v90_0 xs = ((findF (fun i => !v66_0 (fI (xs.getD i.toNat .undef) 0) (-999) 999) xs.length 0).isNone && decide (xs.length ≤ 64)) := by
  unfold q90 v90_0
  rw [run90 xs h]
  cases findF (fun i => !v66_0 (fI (xs.getD i.toNat .undef) 0) (-999) 999) xs.length 0 with
  | none => refine ⟨rfl, ?_⟩; simp only [ro, sumE, Option.isNone_none, Bool.true_and]; congr 1; simp only [eq_iff_iff]; omega
  | some j => exact ⟨rfl, rfl⟩
theorem P110 (xs : List AV) (lo hi : Int) (h : xs.length ≤ 1048576) : q110 xs lo hi = true ∧ v110_0 xs lo hi = (findF (fun i => !v66_0 (fI (xs.getD i.toNat .undef) 0) lo hi) xs.length 0).isNone := by
  unfold q110 v110_0 v144_0 q144 q164 v164_0
  rw [run164 xs _ _ h]
  have e : (fun i : Int => v145_0 (fI (xs.getD i.toNat .undef) 0) (AV.int .i64 lo) (AV.int .i64 hi)) = fun i => !v66_0 (fI (xs.getD i.toNat .undef) 0) lo hi := by
    funext i
    unfold v145_0
    rw [v66, show fI (AV.int .i64 lo) 0 = lo from rfl, show fI (AV.int .i64 hi) 0 = hi from rfl]
    generalize fI (xs.getD i.toNat .undef) 0 = z
    by_cases h1 : z < lo <;> by_cases h2 : z > hi <;> simp [h1, h2] <;> omega
  rw [e]
  cases hf : findF (fun i => !v66_0 (fI (xs.getD i.toNat .undef) 0) lo hi) xs.length 0 with
  | none => exact ⟨rfl, rfl⟩
  | some j =>
    have := (findF_some _ _ hf).1
    refine ⟨rfl, ?_⟩
    simp [ro, sumE]
    omega
theorem P74 (xs : List AV) (h : xs.length ≤ 1048576) : q74 xs = true ∧ v74_0 xs = v90_0 xs := by
  rw [(P90 xs h).2]
  unfold q74 v74_0
  rw [(P110 xs _ _ h).1, (P110 xs _ _ h).2]
  have e64 : decide ((xs.length : Int) ≤ 64) = decide (xs.length ≤ 64) := by congr 1; simp only [eq_iff_iff]; omega
  rw [e64]
  cases decide (xs.length ≤ 64) <;> simp

end Go.Proofs.Ytbomegcdjhljeaa
