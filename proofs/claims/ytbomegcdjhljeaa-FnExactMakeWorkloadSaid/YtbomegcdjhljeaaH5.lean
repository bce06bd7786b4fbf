import Derived.Test.YtbomegcdjhljeaaG5
import Derived.Test.YtbomegcdjhljeaaVEz
namespace Go.Proofs.Ytbomegcdjhljeaa
open Go Go.Proofs.VE
theorem P17 (xs : List AV) (h : xs.length ≤ 1048576) : q17 xs xs = true ∧ v17_0 xs xs = true := by
  have hr : runW (R17_0 xs xs) (((xs.length : Int) - 0).toNat + 1) 0 = some (ro (findF (fun _ => false) xs.length 0) (.inl ()) fun _ => .inr ()) := by
    refine runW_find (fun i => i) xs.length _ _ _ (fun i h0 hn => ?_) ?_ xs.length _ 0 (Int.le_refl 0) (by omega) (by omega)
    · simp only [R17_0, F17_0, h0, hn, decide_true, Bool.and_self, cond_true]
      rw [wrap_in (a := i + 1) (by omega) (by omega)]
      simp [v63_0]
    · simp only [R17_0, F17_0, Int.lt_irrefl, decide_false, cond_false]
  unfold q17 v17_0
  rw [hr, findF_none _ _ fun _ _ _ => rfl]
  simp [ro, sumE]
def mk29 (t : Int) : AV := AV.agg [AV.int .i64 (t), AV.int .i64 (t + 1)]
theorem P29 (xs : List AV) (k : Int) (h : xs.length ≤ 1048576) (hk : 0 ≤ k) (hk' : k ≤ 1099511627776) : ∃ ys, q29 k xs = true ∧ v29_0 k xs = k + 2 * xs.length ∧ v29_1 k xs = ys ∧ ys.length = xs.length ∧ ∀ i : Nat, i < xs.length → ys.getD i .undef = mk29 (k + 2 * i) := by
  have step : ∀ (t i : Int) (ys : List AV), 0 ≤ i → i < xs.length → ys.length = xs.length → 0 ≤ t → t + 2 ≤ 4398046511104 → R29_0 (t, i, ys) = .next (t + 2, i + 1, ys.set i.toNat (mk29 t)) := fun t i ys h0 hn hl ht hM => by
    have hl' : i < ys.length := by omega
    have hlN : i.toNat < ys.length := by omega
    simp only [R29_0, F29_0, List.length_set, h0, hl', decide_true, Bool.and_self, cond_true, List.set_set]
    have gs : ∀ v : AV, (ys.set i.toNat v).getD i.toNat AV.undef = v := fun v => getD_set hlN
    try simp only [gs]
    rw [wrap_in (a := t + 1) (by omega) (by omega)]
    rw [wrap_in (a := t + 1 + 1) (by omega) (by omega)]
    rw [wrap_in (a := i + 1) (by omega) (by omega)]
    simp [mk29, fI, AV.cells, Int.add_assoc]
  obtain ⟨ys, e1, e2, e3⟩ := runW_mark (f := R29_0) 2 mk29 xs k 4398046511104 (by omega) hk (by omega) step (fun t ys hl => by simp only [R29_0, F29_0, hl, Int.lt_irrefl, decide_false, cond_false])
  refine ⟨ys, ?_, ?_, ?_, e2, e3⟩
  · unfold q29; rw [e1]; rfl
  · unfold v29_0; rw [e1]; rfl
  · unfold v29_1; rw [e1]; rfl
theorem P30 (ys : List AV) (k : Int) (h : ys.length ≤ 1048576) (hk : 0 ≤ k) (hk' : k ≤ 1099511627776) (hy : ∀ i : Nat, i < ys.length → ys.getD i .undef = mk29 (k + 2 * i)) : q30 ys k = true ∧ v30_0 ys k = k + 2 * ys.length := by
  have hr := runW_held (f := R30_0 ys) 2 ys.length k 4398046511104 (by omega) hk (by omega) (fun i h0 hn ht hM => by
    have e := hy i.toNat (by omega)
    rw [show ((i.toNat : Nat) : Int) = i by omega] at e
    simp only [R30_0, F30_0, h0, hn, decide_true, Bool.and_self, cond_true]
    rw [e]
    generalize k + 2 * i = t at *
    rw [wrap_in (a := t + 1) (by omega) (by omega)]
    rw [wrap_in (a := t + 1 + 1) (by omega) (by omega)]
    rw [wrap_in (a := i + 1) (by omega) (by omega)]
    simp [mk29, fI, AV.cells, Int.add_assoc]) (fun t => by simp only [R30_0, F30_0, Int.lt_irrefl, decide_false, cond_false])
  unfold q30 v30_0
  rw [hr]
  exact ⟨rfl, rfl⟩

theorem v66 (a b c : Int) : v66_0 a b c = (decide (b ≤ a) && decide (a ≤ c)) := by
  unfold v66_0; cases h : decide (a ≥ b) <;> simp_all

end Go.Proofs.Ytbomegcdjhljeaa
