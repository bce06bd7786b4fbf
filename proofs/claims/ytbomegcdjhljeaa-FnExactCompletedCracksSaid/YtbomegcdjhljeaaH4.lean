import Derived.Test.YtbomegcdjhljeaaG4
import Derived.Test.YtbomegcdjhljeaaVEz
namespace Go.Proofs.Ytbomegcdjhljeaa
open Go Go.Proofs.VE
theorem P18 {a0 : List AV} {a1 : Int} (h : a0.length ≤ 9223372036854775807) (h0 : 0 ≤ a1) (h1 : a1 ≤ 1048576) : v18_0 a0 a1 = if a1 < a0.length then -1 else a1 - a0.length := by
  unfold v18_0
  rw [wrap_in (a := a1 - a0.length) (by omega) (by omega)]
  by_cases hl : a1 < a0.length
  · have e : decide (a1 - (a0.length : Int) < 0) = true := decide_eq_true (by omega)
    rw [e, if_pos hl]
    rfl
  · have e : decide (a1 - (a0.length : Int) < 0) = false := decide_eq_false (by omega)
    rw [e, if_neg hl]
    rfl
def cp20 (x : AV) : AV := (AV.agg [AV.int .i64 (v64_0 (fI x 0) (fI x 1) (fI x 2) (fI x 3)), AV.int .i64 (v64_1 (fI x 0) (fI x 1) (fI x 2) (fI x 3)), AV.int .i64 (v64_2 (fI x 0) (fI x 1) (fI x 2) (fI x 3)), AV.int .i64 (v64_3 (fI x 0) (fI x 1) (fI x 2) (fI x 3))])
theorem P20 (xs : List AV) (h : xs.length ≤ 1048576) : q20 xs = true ∧ v20_0 xs = xs.map cp20 := by
  have hr : runW (R20_0 xs) (((xs.length : Int) - 0).toNat + 1) (0, List.replicate (Int.toNat (xs.length : Int)) (AV.agg [AV.int .i64 0, AV.int .i64 0, AV.int .i64 0, AV.int .i64 0])) = some (xs.map cp20) := by
    refine runW_copy (c := cp20) xs (fun i ys h0 hn hl => ?_) (fun ys => ?_)
    · simp only [R20_0, F20_0]
      have hl' : i < ys.length := by omega
      simp only [h0, hn, hl', decide_true, Bool.and_self, cond_true]
      rw [wrap_in (a := i + 1) (by omega) (by omega)]
      rfl
    · simp only [R20_0, F20_0, Int.lt_irrefl, decide_false, cond_false]
  unfold q20 v20_0
  rw [hr]
  refine ⟨?_, rfl⟩
  simp only [ro, Bool.and_true, Bool.and_eq_true, decide_eq_true_eq]
  omega
theorem P22 (xs : List AV) (h : xs.length ≤ 1048576) : q22 xs xs = true ∧ v22_0 xs xs = true := by
  have hr : runW (R22_0 xs xs) (((xs.length : Int) - 0).toNat + 1) 0 = some (ro (findF (fun _ => false) xs.length 0) (.inl ()) fun _ => .inr ()) := by
    refine runW_find (fun i => i) xs.length _ _ _ (fun i h0 hn => ?_) ?_ xs.length _ 0 (Int.le_refl 0) (by omega) (by omega)
    · simp only [R22_0, F22_0, h0, hn, decide_true, Bool.and_self, cond_true]
      rw [wrap_in (a := i + 1) (by omega) (by omega)]
      simp
    · simp only [R22_0, F22_0, Int.lt_irrefl, decide_false, cond_false]
  unfold q22 v22_0
  rw [hr, findF_none _ _ fun _ _ _ => rfl]
  simp [ro, sumE]
theorem P23 (xs : List AV) (h : xs.length ≤ 1048576) : q23 xs xs = true ∧ v23_0 xs xs = true := by
  have hr : runW (R23_0 xs xs) (((xs.length : Int) - 0).toNat + 1) 0 = some (ro (findF (fun _ => false) xs.length 0) (.inl ()) fun _ => .inr ()) := by
    refine runW_find (fun i => i) xs.length _ _ _ (fun i h0 hn => ?_) ?_ xs.length _ 0 (Int.le_refl 0) (by omega) (by omega)
    · simp only [R23_0, F23_0, h0, hn, decide_true, Bool.and_self, cond_true]
      rw [wrap_in (a := i + 1) (by omega) (by omega)]
      simp [v65_0]
    · simp only [R23_0, F23_0, Int.lt_irrefl, decide_false, cond_false]
  unfold q23 v23_0
  rw [hr, findF_none _ _ fun _ _ _ => rfl]
  simp [ro, sumE]
def mk24 (t : Int) : AV := AV.agg [AV.int .i64 (t), AV.int .i64 (t + 1), AV.int .i64 (t + 1 + 1), AV.int .i64 (t + 1 + 1 + 1)]
theorem P24 (xs : List AV) (k : Int) (h : xs.length ≤ 1048576) (hk : 0 ≤ k) (hk' : k ≤ 1099511627776) : ∃ ys, q24 k xs = true ∧ v24_0 k xs = k + 4 * xs.length ∧ v24_1 k xs = ys ∧ ys.length = xs.length ∧ ∀ i : Nat, i < xs.length → ys.getD i .undef = mk24 (k + 4 * i) := by
  have step : ∀ (t i : Int) (ys : List AV), 0 ≤ i → i < xs.length → ys.length = xs.length → 0 ≤ t → t + 4 ≤ 4398046511104 → R24_0 (t, i, ys) = .next (t + 4, i + 1, ys.set i.toNat (mk24 t)) := fun t i ys h0 hn hl ht hM => by
    have hl' : i < ys.length := by omega
    have hlN : i.toNat < ys.length := by omega
    simp only [R24_0, F24_0, List.length_set, h0, hl', decide_true, Bool.and_self, cond_true, List.set_set]
    have gs : ∀ v : AV, (ys.set i.toNat v).getD i.toNat AV.undef = v := fun v => getD_set hlN
    try simp only [gs]
    rw [wrap_in (a := t + 1) (by omega) (by omega)]
    rw [wrap_in (a := t + 1 + 1) (by omega) (by omega)]
    rw [wrap_in (a := t + 1 + 1 + 1) (by omega) (by omega)]
    rw [wrap_in (a := t + 1 + 1 + 1 + 1) (by omega) (by omega)]
    rw [wrap_in (a := i + 1) (by omega) (by omega)]
    simp [mk24, fI, AV.cells, Int.add_assoc]
  obtain ⟨ys, e1, e2, e3⟩ := runW_mark (f := R24_0) 4 mk24 xs k 4398046511104 (by omega) hk (by omega) step (fun t ys hl => by simp only [R24_0, F24_0, hl, Int.lt_irrefl, decide_false, cond_false])
  refine ⟨ys, ?_, ?_, ?_, e2, e3⟩
  · unfold q24; rw [e1]; rfl
  · unfold v24_0; rw [e1]; rfl
  · unfold v24_1; rw [e1]; rfl
def mk25 (t : Int) : AV := AV.agg [AV.int .i64 (t)]
theorem P25 (xs : List AV) (k : Int) (h : xs.length ≤ 1048576) (hk : 0 ≤ k) (hk' : k ≤ 1099511627776) : ∃ ys, q25 k xs = true ∧ v25_0 k xs = k + 1 * xs.length ∧ v25_1 k xs = ys ∧ ys.length = xs.length ∧ ∀ i : Nat, i < xs.length → ys.getD i .undef = mk25 (k + 1 * i) := by
  have step : ∀ (t i : Int) (ys : List AV), 0 ≤ i → i < xs.length → ys.length = xs.length → 0 ≤ t → t + 1 ≤ 4398046511104 → R25_0 (t, i, ys) = .next (t + 1, i + 1, ys.set i.toNat (mk25 t)) := fun t i ys h0 hn hl ht hM => by
    have hl' : i < ys.length := by omega
    have hlN : i.toNat < ys.length := by omega
    simp only [R25_0, F25_0, List.length_set, h0, hl', decide_true, Bool.and_self, cond_true, List.set_set]
    have gs : ∀ v : AV, (ys.set i.toNat v).getD i.toNat AV.undef = v := fun v => getD_set hlN
    try simp only [gs]
    rw [wrap_in (a := t + 1) (by omega) (by omega)]
    rw [wrap_in (a := i + 1) (by omega) (by omega)]
    simp [mk25, fI, AV.cells, Int.add_assoc]
  obtain ⟨ys, e1, e2, e3⟩ := runW_mark (f := R25_0) 1 mk25 xs k 4398046511104 (by omega) hk (by omega) step (fun t ys hl => by simp only [R25_0, F25_0, hl, Int.lt_irrefl, decide_false, cond_false])
  refine ⟨ys, ?_, ?_, ?_, e2, e3⟩
  · unfold q25; rw [e1]; rfl
  · unfold v25_0; rw [e1]; rfl
  · unfold v25_1; rw [e1]; rfl
theorem P26 (ys : List AV) (k : Int) (h : ys.length ≤ 1048576) (hk : 0 ≤ k) (hk' : k ≤ 1099511627776) (hy : ∀ i : Nat, i < ys.length → ys.getD i .undef = mk25 (k + 1 * i)) : q26 ys k = true ∧ v26_0 ys k = k + 1 * ys.length := by
  have hr := runW_held (f := R26_0 ys) 1 ys.length k 4398046511104 (by omega) hk (by omega) (fun i h0 hn ht hM => by
    have e := hy i.toNat (by omega)
    rw [show ((i.toNat : Nat) : Int) = i by omega] at e
    simp only [R26_0, F26_0, h0, hn, decide_true, Bool.and_self, cond_true]
    rw [e]
    generalize k + 1 * i = t at *
    rw [wrap_in (a := t + 1) (by omega) (by omega)]
    rw [wrap_in (a := i + 1) (by omega) (by omega)]
    simp [mk25, fI, AV.cells, Int.add_assoc]) (fun t => by simp only [R26_0, F26_0, Int.lt_irrefl, decide_false, cond_false])
  unfold q26 v26_0
  rw [hr]
  exact ⟨rfl, rfl⟩
end Go.Proofs.Ytbomegcdjhljeaa
