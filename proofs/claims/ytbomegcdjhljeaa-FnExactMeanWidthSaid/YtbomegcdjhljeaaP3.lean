import Derived.Test.YtbomegcdjhljeaaG3
import Derived.Test.YtbomegcdjhljeaaVEz
namespace Go.Proofs.Ytbomegcdjhljeaa
open Go Go.Proofs.VE

theorem v66 (a b c : Int) : v66_0 a b c = (decide (b ≤ a) && decide (a ≤ c)) := by
  unfold v66_0; cases h : decide (a ≥ b) <;> simp_all
theorem isR_eq (a b : Int) : v68_0 a b = v107_0 a b := by
  unfold v68_0 v107_0
  rw [v66, v66]
  by_cases h1 : -1000 ≤ a <;> by_cases h2 : a ≤ b <;> by_cases h3 : b ≤ 1000 <;> simp [h1, h2, h3] <;> omega

def cpR (x : AV) : AV := .agg [.int .i64 (fI x 0), .int .i64 (fI x 1)]
theorem run15 (xs : List AV) (h : xs.length ≤ 1048576) : runW (R15_0 xs) (((xs.length : Int) - 0).toNat + 1) (0, List.replicate (Int.toNat (xs.length : Int)) (AV.agg [AV.int .i64 0, AV.int .i64 0])) = some (xs.map cpR) := by
  refine run_copy (c := cpR) xs (fun i ys h0 hn hl => ?_) (fun ys => ?_)
  · simp only [R15_0, F15_0]
    have hl' : i < ys.length := by omega
    simp only [h0, hn, hl', decide_true, Bool.and_self, cond_true]
    rw [wrap_in (a := i + 1) (by omega) (by omega)]
    rfl
  · simp only [R15_0, F15_0, Int.lt_irrefl, decide_false, cond_false]
theorem v15 (xs : List AV) (h : xs.length ≤ 1048576) : q15 xs = true ∧ v15_0 xs = xs.map cpR := by
  unfold q15 v15_0
  rw [run15 xs h]
  refine ⟨?_, rfl⟩
  simp only [ro, Bool.and_true, Bool.and_eq_true, decide_eq_true_eq]
  omega

theorem run60 (xs : List AV) (h : xs.length ≤ 1048576) : runW (R60_0 xs) (((xs.length : Int) - 0).toNat + 1) 0 = some (ro (findF (fun i => !v107_0 (fI (xs.getD i.toNat .undef) 0) (fI (xs.getD i.toNat .undef) 1)) xs.length 0) (.inl ()) fun _ => .inr ()) := by
  refine runW_find (fun i => i) xs.length _ _ _ (fun i h0 hn => ?_) ?_ xs.length _ 0 (Int.le_refl 0) (by omega) (by omega)
  · simp only [R60_0, F60_0, h0, hn, decide_true, Bool.and_self, cond_true]
    rw [wrap_in (a := i + 1) (by omega) (by omega)]
  · simp only [R60_0, F60_0, Int.lt_irrefl, decide_false, cond_false]
theorem run143 (xs : List AV) (h : xs.length ≤ 1048576) : runW (R143_0 xs xs.length) (((xs.length : Int) - 0).toNat + 1) 0 = some (ro (findF (fun i => v109_0 (fI (xs.getD i.toNat .undef) 0) (fI (xs.getD i.toNat .undef) 1)) xs.length 0) (.inl ()) fun i => .inr i) := by
  refine runW_find (fun i => i) xs.length _ _ _ (fun i h0 hn => ?_) ?_ xs.length _ 0 (Int.le_refl 0) (by omega) (by omega)
  · simp only [R143_0, F143_0, h0, hn, decide_true, Bool.and_self, cond_true]
    rw [wrap_in (a := i + 1) (by omega) (by omega)]
  · simp only [R143_0, F143_0, Int.lt_irrefl, decide_false, cond_false]
theorem v60 (xs : List AV) (h : xs.length ≤ 1048576) : q60 xs = true ∧ v60_0 xs = ((findF (fun i => !v107_0 (fI (xs.getD i.toNat .undef) 0) (fI (xs.getD i.toNat .undef) 1)) xs.length 0).isNone && decide (xs.length ≤ 30)) := by
  unfold q60 v60_0
  rw [run60 xs h]
  cases findF (fun i => !v107_0 (fI (xs.getD i.toNat .undef) 0) (fI (xs.getD i.toNat .undef) 1)) xs.length 0 with
  | none => refine ⟨rfl, ?_⟩; simp only [ro, sumE, Option.isNone_none, Bool.true_and]; congr 1; simp only [eq_iff_iff]; omega
  | some j => exact ⟨rfl, rfl⟩
theorem v62 (xs : List AV) (h : xs.length ≤ 1048576) : q62 xs = true ∧ v62_0 xs = v60_0 xs := by
  rw [(v60 xs h).2]
  unfold q62 v62_0 v108_0 q108 q143 v143_0
  rw [run143 xs h]
  have e : (fun i : Int => v109_0 (fI (xs.getD i.toNat .undef) 0) (fI (xs.getD i.toNat .undef) 1)) = fun i => !v107_0 (fI (xs.getD i.toNat .undef) 0) (fI (xs.getD i.toNat .undef) 1) := by
    funext i
    unfold v109_0
    rw [isR_eq]
  rw [e]
  have e30 : decide ((xs.length : Int) ≤ 30) = decide (xs.length ≤ 30) := by congr 1; simp only [eq_iff_iff]; omega
  rw [e30]
  cases hf : findF (fun i => !v107_0 (fI (xs.getD i.toNat .undef) 0) (fI (xs.getD i.toNat .undef) 1)) xs.length 0 with
  | none => cases decide (xs.length ≤ 30) <;> exact ⟨rfl, rfl⟩
  | some j =>
    have := (findF_some _ _ hf).1
    cases decide (xs.length ≤ 30)
    · exact ⟨rfl, rfl⟩
    · refine ⟨rfl, ?_⟩
      simp [ro, sumE]
      omega
theorem wrap_sub (n a b : Int) : IntKind.i64.wrap (IntKind.i64.wrap (n + a) - b) = IntKind.i64.wrap (n + IntKind.i64.wrap (a - b)) := by
  simp only [IntKind.wrap_i64]
  omega
theorem run14 (xs : List AV) (h : xs.length ≤ 1048576) : runW (R14_0 xs) (((xs.length : Int) - 0).toNat + 1) (0, 0) = some (foldF (fun i t => IntKind.i64.wrap (IntKind.i64.wrap (t + fI (xs.getD i.toNat .undef) 1) - fI (xs.getD i.toNat .undef) 0)) xs.length 0 0) := by
  refine runW_fold (fun i t => (t, i)) xs.length _ id (fun _ _ => True) (fun i t h0 hn _ => ⟨?_, trivial⟩) (fun t _ => ?_) xs.length _ 0 0 (Int.le_refl 0) (by omega) (by omega) trivial
  · simp only [R14_0, F14_0, h0, hn, decide_true, Bool.and_self, cond_true]
    rw [wrap_in (a := i + 1) (by omega) (by omega)]
  · simp only [R14_0, F14_0, Int.lt_irrefl, decide_false, cond_false, id]
theorem run16 (xs : List AV) (h : xs.length ≤ 1048576) : runW (R16_0 xs xs xs.length) (((xs.length : Int) - 0).toNat + 1) (0, 0) = some (foldF (fun i t => IntKind.i64.wrap (t + IntKind.i64.wrap (fI (xs.getD i.toNat .undef) 1 - fI (xs.getD i.toNat .undef) 0))) xs.length 0 0) := by
  refine runW_fold (fun i t => (t, i)) xs.length _ id (fun _ _ => True) (fun i t h0 hn _ => ⟨?_, trivial⟩) (fun t _ => ?_) xs.length _ 0 0 (Int.le_refl 0) (by omega) (by omega) trivial
  · simp only [R16_0, F16_0, h0, hn, decide_true, Bool.and_self, cond_true]
    rw [wrap_in (a := i + 1) (by omega) (by omega)]
  · simp only [R16_0, F16_0, Int.lt_irrefl, decide_false, cond_false, id]
theorem same (xs : List AV) (h : xs.length ≤ 1048576) : q14 xs = true ∧ q16 xs = true ∧ v16_0 xs = v14_0 xs := by
  unfold q14 q16 v14_0 v16_0
  rw [run14 xs h, run16 xs h, (v62 xs h).2, (v62 xs h).1, (v60 xs h).1]
  simp only [wrap_sub, ro, Bool.true_and]
  by_cases h0 : (xs.length : Int) = 0
  · simp only [h0, decide_true, cond_true]
    cases v60_0 xs <;> simp
  · simp only [h0, decide_false, cond_false]
    cases v60_0 xs <;> simp
theorem self17 (xs : List AV) (h : xs.length ≤ 1048576) : q17 xs xs = true ∧ v17_0 xs xs = true := by
  have hr : runW (R17_0 xs xs) (((xs.length : Int) - 0).toNat + 1) 0 = some (ro (findF (fun _ => false) xs.length 0) (.inl ()) fun _ => .inr ()) := by
    refine runW_find (fun i => i) xs.length _ _ _ (fun i h0 hn => ?_) ?_ xs.length _ 0 (Int.le_refl 0) (by omega) (by omega)
    · simp only [R17_0, F17_0, h0, hn, decide_true, Bool.and_self, cond_true]
      rw [wrap_in (a := i + 1) (by omega) (by omega)]
      simp [v63_0]
    · simp only [R17_0, F17_0, Int.lt_irrefl, decide_false, cond_false]
  unfold q17 v17_0
  rw [hr, findF_none _ _ fun _ _ _ => rfl]
  simp [ro, sumE]
theorem law (xs : List AV) (hmax : xs.length ≤ 9223372036854775807) : q3 xs = true ∧ v3_0 xs = true := by
  unfold q3 v3_0 v13_0
  by_cases h : xs.length ≤ 1048576
  · have e : decide (IntKind.i64.wrap (1048576 - (xs.length : Int)) < 0) = false := by
      rw [wrap_in (a := 1048576 - (xs.length : Int)) (by omega) (by omega)]
      simp; omega
    have hl : (xs.map cpR).length ≤ 1048576 := by simpa using h
    obtain ⟨c1, c2⟩ := v15 xs h
    obtain ⟨s1, s2, s3⟩ := same _ hl
    obtain ⟨t1, t2⟩ := self17 _ hl
    rw [e, c1, c2, s1, s2, s3, t1, t2]
    rw [wrap_in (a := 1048576 - (xs.length : Int)) (by omega) (by omega)]
    have e' : decide (1048576 - (xs.length : Int) < 0) = false := by simp; omega
    simp [e']
  · have e : decide (IntKind.i64.wrap (1048576 - (xs.length : Int)) < 0) = true := by
      rw [wrap_in (a := 1048576 - (xs.length : Int)) (by omega) (by omega)]
      simp; omega
    rw [e]
    exact ⟨rfl, rfl⟩
theorem law3 {x0 : AV} (h : TA Try.prog 22 x0) : m3 [x0] = some (true, .bool true) := by
  obtain ⟨xs, rfl, hl, _⟩ := tw_sl (ta_one (ct := .sl [.int .i64, .int .i64]) h (by kernel_rfl) (by kernel_rfl))
  obtain ⟨h1, h2⟩ := law xs hl
  show (bif ctsEq [.int .i64, .int .i64] [.int .i64, .int .i64] then some (q3 xs, AV.bool (v3_0 xs)) else none) = _
  rw [h1, h2]
  rfl
end Go.Proofs.Ytbomegcdjhljeaa
