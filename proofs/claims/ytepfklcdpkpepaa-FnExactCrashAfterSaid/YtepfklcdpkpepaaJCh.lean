/- helpers -/
import Derived.Test.YtepfklcdpkpepaaJC4
import Derived.Test.YtepfklcdpkpepaaVEz
namespace Go.Proofs.Ytepfklcdpkpepaa
open Go Go.Proofs.VE
set_option linter.unusedVariables false
set_option linter.unusedSimpArgs false
theorem P51 {a0 : List AV} {a1 : Int} (h : a0.length ≤ 9223372036854775807) (h0 : 0 ≤ a1) (h1 : a1 ≤ 1048576) : v51_0 a0 a1 = if a1 < a0.length then -1 else a1 - a0.length := by
  unfold v51_0
  rw [wrap_in (a := a1 - a0.length) (by omega) (by omega)]
  by_cases hl : a1 < a0.length
  · have e : decide (a1 - (a0.length : Int) < 0) = true := decide_eq_true (by omega)
    rw [e, if_pos hl]
    rfl
  · have e : decide (a1 - (a0.length : Int) < 0) = false := decide_eq_false (by omega)
    rw [e, if_neg hl]
    rfl
def cp30 (x : AV) : AV := (AV.agg [AV.int .i64 (fI x 0)])
theorem P30 (xs : List AV) (h : xs.length ≤ 1048576) : q30 xs = true ∧ v30_0 xs = xs.map cp30 := by
  have hr : runW (R30_0 xs) (((xs.length : Int) - 0).toNat + 1) (0, List.replicate (Int.toNat (xs.length : Int)) (AV.int .i64 0)) = some (xs.map cp30) := by
    refine runW_copy (c := cp30) xs (fun i ys h0 hn hl => ?_) (fun ys => ?_)
    · simp only [R30_0, F30_0]
      have hl' : i < ys.length := by omega
      simp only [h0, hn, hl', decide_true, Bool.and_self, cond_true]
      rw [wrap_in (a := i + 1) (by omega) (by omega)]
      rfl
    · simp only [R30_0, F30_0, Int.lt_irrefl, decide_false, cond_false]
  unfold q30 v30_0
  rw [hr]
  refine ⟨?_, rfl⟩
  simp only [ro, Bool.and_true, Bool.and_eq_true, decide_eq_true_eq]
  omega
def cp53 (x : AV) : AV := (AV.agg [AV.int .i64 (v113_0 (fI x 0) (fI x 1) (fI x 2) (fI x 3)), AV.int .i64 (v113_1 (fI x 0) (fI x 1) (fI x 2) (fI x 3)), AV.int .i64 (v113_2 (fI x 0) (fI x 1) (fI x 2) (fI x 3)), AV.int .i64 (v113_3 (fI x 0) (fI x 1) (fI x 2) (fI x 3))])
theorem P53 (xs : List AV) (h : xs.length ≤ 1048576) : q53 xs = true ∧ v53_0 xs = xs.map cp53 := by
  have hr : runW (R53_0 xs) (((xs.length : Int) - 0).toNat + 1) (0, List.replicate (Int.toNat (xs.length : Int)) (AV.agg [AV.int .i64 0, AV.int .i64 0, AV.int .i64 0, AV.int .i64 0])) = some (xs.map cp53) := by
    refine runW_copy (c := cp53) xs (fun i ys h0 hn hl => ?_) (fun ys => ?_)
    · simp only [R53_0, F53_0]
      have hl' : i < ys.length := by omega
      simp only [h0, hn, hl', decide_true, Bool.and_self, cond_true]
      rw [wrap_in (a := i + 1) (by omega) (by omega)]
      rfl
    · simp only [R53_0, F53_0, Int.lt_irrefl, decide_false, cond_false]
  unfold q53 v53_0
  rw [hr]
  refine ⟨?_, rfl⟩
  simp only [ro, Bool.and_true, Bool.and_eq_true, decide_eq_true_eq]
  omega
theorem P34 (xs ys : List AV) (h : xs.length ≤ 1048576) : q34 xs ys = true ∧ v34_0 xs ys = eqL ee1 xs ys := by
  have hr : (xs.length : Int) = ys.length → runW (R34_0 xs ys) (((xs.length : Int) - 0).toNat + 1) 0 = some (ro (findF (fun i => !ee1 (xs.getD i.toNat .undef) (ys.getD i.toNat .undef)) xs.length 0) (.inl ()) fun _ => .inr ()) := fun hl => by
    refine runW_find (fun i => i) xs.length _ _ _ (fun i h0 hn => ?_) ?_ xs.length _ 0 (Int.le_refl 0) (by omega) (by omega)
    · have hn' : i < ys.length := by omega
      simp only [R34_0, F34_0, h0, hn, hn', decide_true, Bool.and_self, cond_true]
      rw [wrap_in (a := i + 1) (by omega) (by omega)]
      generalize xs.getD i.toNat .undef = x
      generalize ys.getD i.toNat .undef = y
      congr 1
      all_goals first | rfl | (simp only [ee1]; done) | (simp only [ee1]; cases decide (fI x 0 = fI y 0) <;> rfl)
    · simp only [R34_0, F34_0, Int.lt_irrefl, decide_false, cond_false]
  unfold q34 v34_0 eqL
  by_cases hl : (xs.length : Int) = ys.length
  · rw [decide_eq_true hl, hr hl]
    cases findF (fun i => !ee1 (xs.getD i.toNat .undef) (ys.getD i.toNat .undef)) xs.length 0 <;> exact ⟨rfl, rfl⟩
  · rw [decide_eq_false hl]
    exact ⟨rfl, rfl⟩
theorem P94 (xs ys : List AV) (h : xs.length ≤ 1048576) : q94 xs ys = true ∧ v94_0 xs ys = eqL ee2 xs ys := by
  have hr : (xs.length : Int) = ys.length → runW (R94_0 xs ys) (((xs.length : Int) - 0).toNat + 1) 0 = some (ro (findF (fun i => !ee2 (xs.getD i.toNat .undef) (ys.getD i.toNat .undef)) xs.length 0) (.inl ()) fun _ => .inr ()) := fun hl => by
    refine runW_find (fun i => i) xs.length _ _ _ (fun i h0 hn => ?_) ?_ xs.length _ 0 (Int.le_refl 0) (by omega) (by omega)
    · have hn' : i < ys.length := by omega
      simp only [R94_0, F94_0, h0, hn, hn', decide_true, Bool.and_self, cond_true]
      rw [wrap_in (a := i + 1) (by omega) (by omega)]
      generalize xs.getD i.toNat .undef = x
      generalize ys.getD i.toNat .undef = y
      congr 1
      all_goals first | rfl | (simp only [ee2, v142_0]; done) | (simp only [ee2, v142_0]; cases decide (fI x 0 = fI y 0) <;> cases decide (fI x 1 = fI y 1) <;> rfl)
    · simp only [R94_0, F94_0, Int.lt_irrefl, decide_false, cond_false]
  unfold q94 v94_0 eqL
  by_cases hl : (xs.length : Int) = ys.length
  · rw [decide_eq_true hl, hr hl]
    cases findF (fun i => !ee2 (xs.getD i.toNat .undef) (ys.getD i.toNat .undef)) xs.length 0 <;> exact ⟨rfl, rfl⟩
  · rw [decide_eq_false hl]
    exact ⟨rfl, rfl⟩
theorem P43 (xs ys : List AV) (h : xs.length ≤ 1048576) : q43 xs ys = true ∧ v43_0 xs ys = eqL ee4 xs ys := by
  have hr : (xs.length : Int) = ys.length → runW (R43_0 xs ys) (((xs.length : Int) - 0).toNat + 1) 0 = some (ro (findF (fun i => !ee4 (xs.getD i.toNat .undef) (ys.getD i.toNat .undef)) xs.length 0) (.inl ()) fun _ => .inr ()) := fun hl => by
    refine runW_find (fun i => i) xs.length _ _ _ (fun i h0 hn => ?_) ?_ xs.length _ 0 (Int.le_refl 0) (by omega) (by omega)
    · have hn' : i < ys.length := by omega
      simp only [R43_0, F43_0, h0, hn, hn', decide_true, Bool.and_self, cond_true]
      rw [wrap_in (a := i + 1) (by omega) (by omega)]
      generalize xs.getD i.toNat .undef = x
      generalize ys.getD i.toNat .undef = y
      congr 1
      all_goals first | rfl | (simp only [ee4, v100_0]; done) | (simp only [ee4, v100_0]; cases decide (fI x 0 = fI y 0) <;> cases decide (fI x 1 = fI y 1) <;> cases decide (fI x 2 = fI y 2) <;> cases decide (fI x 3 = fI y 3) <;> rfl)
    · simp only [R43_0, F43_0, Int.lt_irrefl, decide_false, cond_false]
  unfold q43 v43_0 eqL
  by_cases hl : (xs.length : Int) = ys.length
  · rw [decide_eq_true hl, hr hl]
    cases findF (fun i => !ee4 (xs.getD i.toNat .undef) (ys.getD i.toNat .undef)) xs.length 0 <;> exact ⟨rfl, rfl⟩
  · rw [decide_eq_false hl]
    exact ⟨rfl, rfl⟩
def mk49 (t : Int) : AV := AV.agg [AV.int .i64 (t)]
theorem P49 (xs : List AV) (k : Int) (h : xs.length ≤ 1048576) (hk : 0 ≤ k) (hk' : k ≤ 1099511627776) : ∃ ys, q49 k xs = true ∧ v49_0 k xs = k + 1 * xs.length ∧ v49_1 k xs = ys ∧ ys.length = xs.length ∧ ∀ i : Nat, i < xs.length → ys.getD i .undef = mk49 (k + 1 * i) := by
  have step : ∀ (t i : Int) (ys : List AV), 0 ≤ i → i < xs.length → ys.length = xs.length → 0 ≤ t → t + 1 ≤ 4398046511104 → R49_0 (t, i, ys) = .next (t + 1, i + 1, ys.set i.toNat (mk49 t)) := fun t i ys h0 hn hl ht hM => by
    have hl' : i < ys.length := by omega
    have hlN : i.toNat < ys.length := by omega
    simp only [R49_0, F49_0, List.length_set, h0, hl', decide_true, Bool.and_self, cond_true, List.set_set]
    have gs : ∀ v : AV, (ys.set i.toNat v).getD i.toNat AV.undef = v := fun v => getD_set hlN
    try simp only [gs]
    rw [wrap_in (a := t + 1) (by omega) (by omega)]
    rw [wrap_in (a := i + 1) (by omega) (by omega)]
    simp [mk49, fI, AV.cells, Int.add_assoc]
  obtain ⟨ys, e1, e2, e3⟩ := runW_mark (f := R49_0) 1 mk49 xs k 4398046511104 (by omega) hk (by omega) step (fun t ys hl => by simp only [R49_0, F49_0, hl, Int.lt_irrefl, decide_false, cond_false])
  refine ⟨ys, ?_, ?_, ?_, e2, e3⟩
  · unfold q49; rw [e1]; rfl
  · unfold v49_0; rw [e1]; rfl
  · unfold v49_1; rw [e1]; rfl
def mk101 (t : Int) : AV := AV.agg [AV.int .i64 (t), AV.int .i64 (t + 1)]
theorem P101 (xs : List AV) (k : Int) (h : xs.length ≤ 1048576) (hk : 0 ≤ k) (hk' : k ≤ 1099511627776) : ∃ ys, q101 k xs = true ∧ v101_0 k xs = k + 2 * xs.length ∧ v101_1 k xs = ys ∧ ys.length = xs.length ∧ ∀ i : Nat, i < xs.length → ys.getD i .undef = mk101 (k + 2 * i) := by
  have step : ∀ (t i : Int) (ys : List AV), 0 ≤ i → i < xs.length → ys.length = xs.length → 0 ≤ t → t + 2 ≤ 4398046511104 → R101_0 (t, i, ys) = .next (t + 2, i + 1, ys.set i.toNat (mk101 t)) := fun t i ys h0 hn hl ht hM => by
    have hl' : i < ys.length := by omega
    have hlN : i.toNat < ys.length := by omega
    simp only [R101_0, F101_0, List.length_set, h0, hl', decide_true, Bool.and_self, cond_true, List.set_set]
    have gs : ∀ v : AV, (ys.set i.toNat v).getD i.toNat AV.undef = v := fun v => getD_set hlN
    try simp only [gs]
    rw [wrap_in (a := t + 1) (by omega) (by omega)]
    rw [wrap_in (a := t + 1 + 1) (by omega) (by omega)]
    rw [wrap_in (a := i + 1) (by omega) (by omega)]
    simp [mk101, fI, AV.cells, Int.add_assoc]
  obtain ⟨ys, e1, e2, e3⟩ := runW_mark (f := R101_0) 2 mk101 xs k 4398046511104 (by omega) hk (by omega) step (fun t ys hl => by simp only [R101_0, F101_0, hl, Int.lt_irrefl, decide_false, cond_false])
  refine ⟨ys, ?_, ?_, ?_, e2, e3⟩
  · unfold q101; rw [e1]; rfl
  · unfold v101_0; rw [e1]; rfl
  · unfold v101_1; rw [e1]; rfl
def mk45 (t : Int) : AV := AV.agg [AV.int .i64 (t), AV.int .i64 (t + 1), AV.int .i64 (t + 1 + 1), AV.int .i64 (t + 1 + 1 + 1)]
theorem P45 (xs : List AV) (k : Int) (h : xs.length ≤ 1048576) (hk : 0 ≤ k) (hk' : k ≤ 1099511627776) : ∃ ys, q45 k xs = true ∧ v45_0 k xs = k + 4 * xs.length ∧ v45_1 k xs = ys ∧ ys.length = xs.length ∧ ∀ i : Nat, i < xs.length → ys.getD i .undef = mk45 (k + 4 * i) := by
  have step : ∀ (t i : Int) (ys : List AV), 0 ≤ i → i < xs.length → ys.length = xs.length → 0 ≤ t → t + 4 ≤ 4398046511104 → R45_0 (t, i, ys) = .next (t + 4, i + 1, ys.set i.toNat (mk45 t)) := fun t i ys h0 hn hl ht hM => by
    have hl' : i < ys.length := by omega
    have hlN : i.toNat < ys.length := by omega
    simp only [R45_0, F45_0, List.length_set, h0, hl', decide_true, Bool.and_self, cond_true, List.set_set]
    have gs : ∀ v : AV, (ys.set i.toNat v).getD i.toNat AV.undef = v := fun v => getD_set hlN
    try simp only [gs]
    rw [wrap_in (a := t + 1) (by omega) (by omega)]
    rw [wrap_in (a := t + 1 + 1) (by omega) (by omega)]
    rw [wrap_in (a := t + 1 + 1 + 1) (by omega) (by omega)]
    rw [wrap_in (a := t + 1 + 1 + 1 + 1) (by omega) (by omega)]
    rw [wrap_in (a := i + 1) (by omega) (by omega)]
    simp [mk45, fI, AV.cells, Int.add_assoc]
  obtain ⟨ys, e1, e2, e3⟩ := runW_mark (f := R45_0) 4 mk45 xs k 4398046511104 (by omega) hk (by omega) step (fun t ys hl => by simp only [R45_0, F45_0, hl, Int.lt_irrefl, decide_false, cond_false])
  refine ⟨ys, ?_, ?_, ?_, e2, e3⟩
  · unfold q45; rw [e1]; rfl
  · unfold v45_0; rw [e1]; rfl
  · unfold v45_1; rw [e1]; rfl
theorem P59 (ys : List AV) (k : Int) (h : ys.length ≤ 1048576) (hk : 0 ≤ k) (hk' : k ≤ 1099511627776) (hy : ∀ i : Nat, i < ys.length → ys.getD i .undef = mk49 (k + 1 * i)) : q59 ys k = true ∧ v59_0 ys k = k + 1 * ys.length := by
  have hr := runW_held (f := R59_0 ys) 1 ys.length k 4398046511104 (by omega) hk (by omega) (fun i h0 hn ht hM => by
    have e := hy i.toNat (by omega)
    rw [show ((i.toNat : Nat) : Int) = i by omega] at e
    simp only [R59_0, F59_0, h0, hn, decide_true, Bool.and_self, cond_true]
    rw [e]
    generalize k + 1 * i = t at *
    rw [wrap_in (a := t + 1) (by omega) (by omega)]
    rw [wrap_in (a := i + 1) (by omega) (by omega)]
    simp [mk49, fI, AV.cells, Int.add_assoc]) (fun t => by simp only [R59_0, F59_0, Int.lt_irrefl, decide_false, cond_false])
  unfold q59 v59_0
  rw [hr]
  exact ⟨rfl, rfl⟩
theorem P109 (ys : List AV) (k : Int) (h : ys.length ≤ 1048576) (hk : 0 ≤ k) (hk' : k ≤ 1099511627776) (hy : ∀ i : Nat, i < ys.length → ys.getD i .undef = mk101 (k + 2 * i)) : q109 ys k = true ∧ v109_0 ys k = k + 2 * ys.length := by
  have hr := runW_held (f := R109_0 ys) 2 ys.length k 4398046511104 (by omega) hk (by omega) (fun i h0 hn ht hM => by
    have e := hy i.toNat (by omega)
    rw [show ((i.toNat : Nat) : Int) = i by omega] at e
    simp only [R109_0, F109_0, h0, hn, decide_true, Bool.and_self, cond_true]
    rw [e]
    generalize k + 2 * i = t at *
    rw [wrap_in (a := t + 1) (by omega) (by omega)]
    rw [wrap_in (a := t + 1 + 1) (by omega) (by omega)]
    rw [wrap_in (a := i + 1) (by omega) (by omega)]
    simp [mk101, fI, AV.cells, Int.add_assoc]) (fun t => by simp only [R109_0, F109_0, Int.lt_irrefl, decide_false, cond_false])
  unfold q109 v109_0
  rw [hr]
  exact ⟨rfl, rfl⟩
theorem v68 (a b c : Int) : v68_0 a b c = (decide (b ≤ a) && decide (a ≤ c)) := by
  unfold v68_0; cases h : decide (a ≥ b) <;> simp_all
theorem run103 (xs : List AV) (h : xs.length ≤ 1048576) : runW (R103_0 xs) (((xs.length : Int) - 0).toNat + 1) 0 = some (ro (findF (fun i => !v68_0 (fI (xs.getD i.toNat .undef) 0) (-999) 999) xs.length 0) (.inl ()) fun _ => .inr ()) := by
  refine runW_find (fun i => i) xs.length _ _ _ (fun i h0 hn => ?_) ?_ xs.length _ 0 (Int.le_refl 0) (by omega) (by omega)
  · simp only [R103_0, F103_0, h0, hn, decide_true, Bool.and_self, cond_true]
    rw [wrap_in (a := i + 1) (by omega) (by omega)]
  · simp only [R103_0, F103_0, Int.lt_irrefl, decide_false, cond_false]
theorem run178 (xs : List AV) (lo hi : AV) (h : xs.length ≤ 1048576) : runW (R178_0 xs lo hi xs.length) (((xs.length : Int) - 0).toNat + 1) 0 = some (ro (findF (fun i => v163_0 (fI (xs.getD i.toNat .undef) 0) lo hi) xs.length 0) (.inl ()) fun i => .inr i) := by
  refine runW_find (fun i => i) xs.length _ _ _ (fun i h0 hn => ?_) ?_ xs.length _ 0 (Int.le_refl 0) (by omega) (by omega)
  · simp only [R178_0, F178_0, h0, hn, decide_true, Bool.and_self, cond_true]
    rw [wrap_in (a := i + 1) (by omega) (by omega)]
  · simp only [R178_0, F178_0, Int.lt_irrefl, decide_false, cond_false]
theorem P103 (xs : List AV) (h : xs.length ≤ 1048576) : q103 xs = true ∧ v103_0 xs = ((findF (fun i => !v68_0 (fI (xs.getD i.toNat .undef) 0) (-999) 999) xs.length 0).isNone && decide (xs.length ≤ 64)) := by
  unfold q103 v103_0
  rw [run103 xs h]
  cases findF (fun i => !v68_0 (fI (xs.getD i.toNat .undef) 0) (-999) 999) xs.length 0 with
  | none => refine ⟨rfl, ?_⟩; simp only [ro, sumE, Option.isNone_none, Bool.true_and]; congr 1; simp only [eq_iff_iff]; omega
  | some j => exact ⟨rfl, rfl⟩
theorem P124 (xs : List AV) (lo hi : Int) (h : xs.length ≤ 1048576) : q124 xs lo hi = true ∧ v124_0 xs lo hi = (findF (fun i => !v68_0 (fI (xs.getD i.toNat .undef) 0) lo hi) xs.length 0).isNone := by
  unfold q124 v124_0 v162_0 q162 q178 v178_0
  rw [run178 xs _ _ h]
  have e : (fun i : Int => v163_0 (fI (xs.getD i.toNat .undef) 0) (AV.int .i64 lo) (AV.int .i64 hi)) = fun i => !v68_0 (fI (xs.getD i.toNat .undef) 0) lo hi := by
    funext i
    unfold v163_0
    rw [v68, show fI (AV.int .i64 lo) 0 = lo from rfl, show fI (AV.int .i64 hi) 0 = hi from rfl]
    generalize fI (xs.getD i.toNat .undef) 0 = z
    by_cases h1 : z < lo <;> by_cases h2 : z > hi <;> simp [h1, h2] <;> omega
  rw [e]
  cases hf : findF (fun i => !v68_0 (fI (xs.getD i.toNat .undef) 0) lo hi) xs.length 0 with
  | none => exact ⟨rfl, rfl⟩
  | some j =>
    have := (findF_some _ _ hf).1
    refine ⟨rfl, ?_⟩
    simp [ro, sumE]
    omega
theorem P105 (xs : List AV) (h : xs.length ≤ 1048576) : q105 xs = true ∧ v105_0 xs = v103_0 xs := by
  rw [(P103 xs h).2]
  unfold q105 v105_0
  rw [(P124 xs _ _ h).1, (P124 xs _ _ h).2]
  have e64 : decide ((xs.length : Int) ≤ 64) = decide (xs.length ≤ 64) := by congr 1; simp only [eq_iff_iff]; omega
  rw [e64]
  cases decide (xs.length ≤ 64) <;> simp

end Go.Proofs.Ytepfklcdpkpepaa
