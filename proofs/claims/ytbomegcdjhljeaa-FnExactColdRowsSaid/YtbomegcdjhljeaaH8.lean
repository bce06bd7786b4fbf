import Derived.Test.YtbomegcdjhljeaaG8
import Derived.Test.YtbomegcdjhljeaaVEz
namespace Go.Proofs.Ytbomegcdjhljeaa
open Go Go.Proofs.VE
theorem P13 {a0 : List AV} {a1 : Int} (h : a0.length ≤ 9223372036854775807) (h0 : 0 ≤ a1) (h1 : a1 ≤ 1048576) : v13_0 a0 a1 = if a1 < a0.length then -1 else a1 - a0.length := by
  unfold v13_0
  rw [wrap_in (a := a1 - a0.length) (by omega) (by omega)]
  by_cases hl : a1 < a0.length
  · have e : decide (a1 - (a0.length : Int) < 0) = true := decide_eq_true (by omega)
    rw [e, if_pos hl]
    rfl
  · have e : decide (a1 - (a0.length : Int) < 0) = false := decide_eq_false (by omega)
    rw [e, if_neg hl]
    rfl
def cp15 (x : AV) : AV := (AV.agg [AV.int .i64 (v61_0 (fI x 0) (fI x 1)), AV.int .i64 (v61_1 (fI x 0) (fI x 1))])
theorem P15 (xs : List AV) (h : xs.length ≤ 1048576) : q15 xs = true ∧ v15_0 xs = xs.map cp15 := by
  have hr : runW (R15_0 xs) (((xs.length : Int) - 0).toNat + 1) (0, List.replicate (Int.toNat (xs.length : Int)) (AV.agg [AV.int .i64 0, AV.int .i64 0])) = some (xs.map cp15) := by
    refine runW_copy (c := cp15) xs (fun i ys h0 hn hl => ?_) (fun ys => ?_)
    · simp only [R15_0, F15_0]
      have hl' : i < ys.length := by omega
      simp only [h0, hn, hl', decide_true, Bool.and_self, cond_true]
      rw [wrap_in (a := i + 1) (by omega) (by omega)]
      rfl
    · simp only [R15_0, F15_0, Int.lt_irrefl, decide_false, cond_false]
  unfold q15 v15_0
  rw [hr]
  refine ⟨?_, rfl⟩
  simp only [ro, Bool.and_true, Bool.and_eq_true, decide_eq_true_eq]
  omega
def cp34 (x : AV) : AV := (AV.agg [AV.int .i64 (fI x 0)])
theorem P34 (xs : List AV) (h : xs.length ≤ 1048576) : q34 xs = true ∧ v34_0 xs = xs.map cp34 := by
  have hr : runW (R34_0 xs) (((xs.length : Int) - 0).toNat + 1) (0, List.replicate (Int.toNat (xs.length : Int)) (AV.int .i64 0)) = some (xs.map cp34) := by
    refine runW_copy (c := cp34) xs (fun i ys h0 hn hl => ?_) (fun ys => ?_)
    · simp only [R34_0, F34_0]
      have hl' : i < ys.length := by omega
      simp only [h0, hn, hl', decide_true, Bool.and_self, cond_true]
      rw [wrap_in (a := i + 1) (by omega) (by omega)]
      rfl
    · simp only [R34_0, F34_0, Int.lt_irrefl, decide_false, cond_false]
  unfold q34 v34_0
  rw [hr]
  refine ⟨?_, rfl⟩
  simp only [ro, Bool.and_true, Bool.and_eq_true, decide_eq_true_eq]
  omega
theorem P22 (xs : List AV) (h : xs.length ≤ 1048576) : q22 xs xs = true ∧ v22_0 xs xs = true := by
  have hr : runW (R22_0 xs xs) (((xs.length : Int) - 0).toNat + 1) 0 = some (ro (findF (fun _ => false) xs.length 0) (.inl ()) fun _ => .inr ()) := by
    refine runW_find (fun i => i) xs.length _ _ _ (fun i h0 hn => ?_) ?_ xs.length _ 0 (Int.le_refl 0) (by omega) (by omega)
    · simp only [R22_0, F22_0, h0, hn, decide_true, Bool.and_self, cond_true]
      rw [wrap_in (a := i + 1) (by omega) (by omega)]
      simp
    · simp only [R22_0, F22_0, Int.lt_irrefl, decide_false, cond_false]
  unfold q22 v22_0
  rw [hr, findF_none _ _ fun _ _ _ => rfl]
  simp [ro, sumE]
theorem P17 (xs : List AV) (h : xs.length ≤ 1048576) : q17 xs xs = true ∧ v17_0 xs xs = true := by
  have hr : runW (R17_0 xs xs) (((xs.length : Int) - 0).toNat + 1) 0 = some (ro (findF (fun _ => false) xs.length 0) (.inl ()) fun _ => .inr ()) := by
    refine runW_find (fun i => i) xs.length _ _ _ (fun i h0 hn => ?_) ?_ xs.length _ 0 (Int.le_refl 0) (by omega) (by omega)
    · simp only [R17_0, F17_0, h0, hn, decide_true, Bool.and_self, cond_true]
      rw [wrap_in (a := i + 1) (by omega) (by omega)]
      simp [v63_0]
    · simp only [R17_0, F17_0, Int.lt_irrefl, decide_false, cond_false]
  unfold q17 v17_0
  rw [hr, findF_none _ _ fun _ _ _ => rfl]
  simp [ro, sumE]
def mk29 (t : Int) : AV := AV.agg [AV.int .i64 (t), AV.int .i64 (t + 1)]
theorem P29 (xs : List AV) (k : Int) (h : xs.length ≤ 1048576) (hk : 0 ≤ k) (hk' : k ≤ 1099511627776) : ∃ ys, q29 k xs = true ∧ v29_0 k xs = k + 2 * xs.length ∧ v29_1 k xs = ys ∧ ys.length = xs.length ∧ ∀ i : Nat, i < xs.length → ys.getD i .undef = mk29 (k + 2 * i) := by
  have step : ∀ (t i : Int) (ys : List AV), 0 ≤ i → i < xs.length → ys.length = xs.length → 0 ≤ t → t + 2 ≤ 4398046511104 → R29_0 (t, i, ys) = .next (t + 2, i + 1, ys.set i.toNat (mk29 t)) := fun t i ys h0 hn hl ht hM => by
    have hl' : i < ys.length := by omega
    have hlN : i.toNat < ys.length := by omega
    simp only [R29_0, F29_0, List.length_set, h0, hl', decide_true, Bool.and_self, cond_true, List.set_set]
    have gs : ∀ v : AV, (ys.set i.toNat v).getD i.toNat AV.undef = v := fun v => getD_set hlN
    try simp only [gs]
    rw [wrap_in (a := t + 1) (by omega) (by omega)]
    rw [wrap_in (a := t + 1 + 1) (by omega) (by omega)]
    rw [wrap_in (a := i + 1) (by omega) (by omega)]
    simp [mk29, fI, AV.cells, Int.add_assoc]
  obtain ⟨ys, e1, e2, e3⟩ := runW_mark (f := R29_0) 2 mk29 xs k 4398046511104 (by omega) hk (by omega) step (fun t ys hl => by simp only [R29_0, F29_0, hl, Int.lt_irrefl, decide_false, cond_false])
  refine ⟨ys, ?_, ?_, ?_, e2, e3⟩
  · unfold q29; rw [e1]; rfl
  · unfold v29_0; rw [e1]; rfl
  · unfold v29_1; rw [e1]; rfl
def mk25 (t : Int) : AV := AV.agg [AV.int .i64 (t)]
theorem P25 (xs : List AV) (k : Int) (h : xs.length ≤ 1048576) (hk : 0 ≤ k) (hk' : k ≤ 1099511627776) : ∃ ys, q25 k xs = true ∧ v25_0 k xs = k + 1 * xs.length ∧ v25_1 k xs = ys ∧ ys.length = xs.length ∧ ∀ i : Nat, i < xs.length → ys.getD i .undef = mk25 (k + 1 * i) := by
  have step : ∀ (t i : Int) (ys : List AV), 0 ≤ i → i < xs.length → ys.length = xs.length → 0 ≤ t → t + 1 ≤ 4398046511104 → R25_0 (t, i, ys) = .next (t + 1, i + 1, ys.set i.toNat (mk25 t)) := fun t i ys h0 hn hl ht hM => by
    have hl' : i < ys.length := by omega
    have hlN : i.toNat < ys.length := by omega
    simp only [R25_0, F25_0, List.length_set, h0, hl', decide_true, Bool.and_self, cond_true, List.set_set]
    have gs : ∀ v : AV, (ys.set i.toNat v).getD i.toNat AV.undef = v := fun v => getD_set hlN
    try simp only [gs]
    rw [wrap_in (a := t + 1) (by omega) (by omega)]
    rw [wrap_in (a := i + 1) (by omega) (by omega)]
    simp [mk25, fI, AV.cells, Int.add_assoc]
  obtain ⟨ys, e1, e2, e3⟩ := runW_mark (f := R25_0) 1 mk25 xs k 4398046511104 (by omega) hk (by omega) step (fun t ys hl => by simp only [R25_0, F25_0, hl, Int.lt_irrefl, decide_false, cond_false])
  refine ⟨ys, ?_, ?_, ?_, e2, e3⟩
  · unfold q25; rw [e1]; rfl
  · unfold v25_0; rw [e1]; rfl
  · unfold v25_1; rw [e1]; rfl
theorem P26 (ys : List AV) (k : Int) (h : ys.length ≤ 1048576) (hk : 0 ≤ k) (hk' : k ≤ 1099511627776) (hy : ∀ i : Nat, i < ys.length → ys.getD i .undef = mk25 (k + 1 * i)) : q26 ys k = true ∧ v26_0 ys k = k + 1 * ys.length := by
  have hr := runW_held (f := R26_0 ys) 1 ys.length k 4398046511104 (by omega) hk (by omega) (fun i h0 hn ht hM => by
    have e := hy i.toNat (by omega)
    rw [show ((i.toNat : Nat) : Int) = i by omega] at e
    simp only [R26_0, F26_0, h0, hn, decide_true, Bool.and_self, cond_true]
    rw [e]
    generalize k + 1 * i = t at *
    rw [wrap_in (a := t + 1) (by omega) (by omega)]
    rw [wrap_in (a := i + 1) (by omega) (by omega)]
    simp [mk25, fI, AV.cells, Int.add_assoc]) (fun t => by simp only [R26_0, F26_0, Int.lt_irrefl, decide_false, cond_false])
  unfold q26 v26_0
  rw [hr]
  exact ⟨rfl, rfl⟩
theorem v66 (a b c : Int) : v66_0 a b c = (decide (b ≤ a) && decide (a ≤ c)) := by
  unfold v66_0; cases h : decide (a ≥ b) <;> simp_all
theorem isR_eq (a b : Int) : v68_0 a b = v107_0 a b := by
  unfold v68_0 v107_0
  rw [v66, v66]
  by_cases h1 : -1000 ≤ a <;> by_cases h2 : a ≤ b <;> by_cases h3 : b ≤ 1000 <;> simp [h1, h2, h3] <;> omega

theorem run60 (xs : List AV) (h : xs.length ≤ 1048576) : runW (R60_0 xs) (((xs.length : Int) - 0).toNat + 1) 0 = some (ro (findF (fun i => !v107_0 (fI (xs.getD i.toNat .undef) 0) (fI (xs.getD i.toNat .undef) 1)) xs.length 0) (.inl ()) fun _ => .inr ()) := by
  refine runW_find (fun i => i) xs.length _ _ _ (fun i h0 hn => ?_) ?_ xs.length _ 0 (Int.le_refl 0) (by omega) (by omega)
  · simp only [R60_0, F60_0, h0, hn, decide_true, Bool.and_self, cond_true]
    rw [wrap_in (a := i + 1) (by omega) (by omega)]
  · simp only [R60_0, F60_0, Int.lt_irrefl, decide_false, cond_false]
theorem run143 (xs : List AV) (h : xs.length ≤ 1048576) : runW (R143_0 xs xs.length) (((xs.length : Int) - 0).toNat + 1) 0 = some (ro (findF (fun i => v109_0 (fI (xs.getD i.toNat .undef) 0) (fI (xs.getD i.toNat .undef) 1)) xs.length 0) (.inl ()) fun i => .inr i) := by
  refine runW_find (fun i => i) xs.length _ _ _ (fun i h0 hn => ?_) ?_ xs.length _ 0 (Int.le_refl 0) (by omega) (by omega)
  · simp only [R143_0, F143_0, h0, hn, decide_true, Bool.and_self, cond_true]
    rw [wrap_in (a := i + 1) (by omega) (by omega)]
  · simp only [R143_0, F143_0, Int.lt_irrefl, decide_false, cond_false]
theorem P60 (xs : List AV) (h : xs.length ≤ 1048576) : q60 xs = true ∧ v60_0 xs = ((findF (fun i => !v107_0 (fI (xs.getD i.toNat .undef) 0) (fI (xs.getD i.toNat .undef) 1)) xs.length 0).isNone && decide (xs.length ≤ 30)) := by
  unfold q60 v60_0
  rw [run60 xs h]
  cases findF (fun i => !v107_0 (fI (xs.getD i.toNat .undef) 0) (fI (xs.getD i.toNat .undef) 1)) xs.length 0 with
  | none => refine ⟨rfl, ?_⟩; simp only [ro, sumE, Option.isNone_none, Bool.true_and]; congr 1; simp only [eq_iff_iff]; omega
  | some j => exact ⟨rfl, rfl⟩
theorem P62 (xs : List AV) (h : xs.length ≤ 1048576) : q62 xs = true ∧ v62_0 xs = v60_0 xs := by
  rw [(P60 xs h).2]
  unfold q62 v62_0 v108_0 q108 q143 v143_0
  rw [run143 xs h]
  have e : (fun i : Int => v109_0 (fI (xs.getD i.toNat .undef) 0) (fI (xs.getD i.toNat .undef) 1)) = fun i => !v107_0 (fI (xs.getD i.toNat .undef) 0) (fI (xs.getD i.toNat .undef) 1) := by
    funext i
    unfold v109_0
    rw [isR_eq]
  rw [e]
  have e30 : decide ((xs.length : Int) ≤ 30) = decide (xs.length ≤ 30) := by congr 1; simp only [eq_iff_iff]; omega
  rw [e30]
  cases hf : findF (fun i => !v107_0 (fI (xs.getD i.toNat .undef) 0) (fI (xs.getD i.toNat .undef) 1)) xs.length 0 with
  | none => cases decide (xs.length ≤ 30) <;> exact ⟨rfl, rfl⟩
  | some j =>
    have := (findF_some _ _ hf).1
    cases decide (xs.length ≤ 30)
    · exact ⟨rfl, rfl⟩
    · refine ⟨rfl, ?_⟩
      simp [ro, sumE]
      omega
theorem run90 (xs : List AV) (h : xs.length ≤ 1048576) : runW (R90_0 xs) (((xs.length : Int) - 0).toNat + 1) 0 = some (ro (findF (fun i => !v66_0 (fI (xs.getD i.toNat .undef) 0) (-999) 999) xs.length 0) (.inl ()) fun _ => .inr ()) := by
  refine runW_find (fun i => i) xs.length _ _ _ (fun i h0 hn => ?_) ?_ xs.length _ 0 (Int.le_refl 0) (by omega) (by omega)
  · simp only [R90_0, F90_0, h0, hn, decide_true, Bool.and_self, cond_true]
    rw [wrap_in (a := i + 1) (by omega) (by omega)]
  · simp only [R90_0, F90_0, Int.lt_irrefl, decide_false, cond_false]
theorem run164 (xs : List AV) (lo hi : AV) (h : xs.length ≤ 1048576) : runW (R164_0 xs lo hi xs.length) (((xs.length : Int) - 0).toNat + 1) 0 = some (ro (findF (fun i => v145_0 (fI (xs.getD i.toNat .undef) 0) lo hi) xs.length 0) (.inl ()) fun i => .inr i) := by
  refine runW_find (fun i => i) xs.length _ _ _ (fun i h0 hn => ?_) ?_ xs.length _ 0 (Int.le_refl 0) (by omega) (by omega)
  · simp only [R164_0, F164_0, h0, hn, decide_true, Bool.and_self, cond_true]
    rw [wrap_in (a := i + 1) (by omega) (by omega)]
  · simp only [R164_0, F164_0, Int.lt_irrefl, decide_false, cond_false]
theorem P90 (xs : List AV) (h : xs.length ≤ 1048576) : q90 xs = true ∧ v90_0 xs = ((findF (fun i => !v66_0 (fI (xs.getD i.toNat .undef) 0) (-999) 999) xs.length 0).isNone && decide (xs.length ≤ 64)) := by
  unfold q90 v90_0
  rw [run90 xs h]
  cases findF (fun i => !v66_0 (fI (xs.getD i.toNat .undef) 0) (-999) 999) xs.length 0 with
  | none => refine ⟨rfl, ?_⟩; simp only [ro, sumE, Option.isNone_none, Bool.true_and]; congr 1; simp only [eq_iff_iff]; omega
  | some j => exact ⟨rfl, rfl⟩
theorem P110 (xs : List AV) (lo hi : Int) (h : xs.length ≤ 1048576) : q110 xs lo hi = true ∧ v110_0 xs lo hi = (findF (fun i => !v66_0 (fI (xs.getD i.toNat .undef) 0) lo hi) xs.length 0).isNone := by
  unfold q110 v110_0 v144_0 q144 q164 v164_0
  rw [run164 xs _ _ h]
  have e : (fun i : Int => v145_0 (fI (xs.getD i.toNat .undef) 0) (AV.int .i64 lo) (AV.int .i64 hi)) = fun i => !v66_0 (fI (xs.getD i.toNat .undef) 0) lo hi := by
    funext i
    unfold v145_0
    rw [v66, show fI (AV.int .i64 lo) 0 = lo from rfl, show fI (AV.int .i64 hi) 0 = hi from rfl]
    generalize fI (xs.getD i.toNat .undef) 0 = z
    by_cases h1 : z < lo <;> by_cases h2 : z > hi <;> simp [h1, h2] <;> omega
  rw [e]
  cases hf : findF (fun i => !v66_0 (fI (xs.getD i.toNat .undef) 0) lo hi) xs.length 0 with
  | none => exact ⟨rfl, rfl⟩
  | some j =>
    have := (findF_some _ _ hf).1
    refine ⟨rfl, ?_⟩
    simp [ro, sumE]
    omega
theorem P74 (xs : List AV) (h : xs.length ≤ 1048576) : q74 xs = true ∧ v74_0 xs = v90_0 xs := by
  rw [(P90 xs h).2]
  unfold q74 v74_0
  rw [(P110 xs _ _ h).1, (P110 xs _ _ h).2]
  have e64 : decide ((xs.length : Int) ≤ 64) = decide (xs.length ≤ 64) := by congr 1; simp only [eq_iff_iff]; omega
  rw [e64]
  cases decide (xs.length ≤ 64) <;> simp

end Go.Proofs.Ytbomegcdjhljeaa
