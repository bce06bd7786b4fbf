/- helpers -/
import Derived.Test.YtepfklcdpkpepaaHR1
import Derived.Test.YtepfklcdpkpepaaVEz
namespace Go.Proofs.Ytepfklcdpkpepaa
open Go Go.Proofs.VE
set_option linter.unusedVariables false
set_option linter.unusedSimpArgs false
theorem P28 {a0 : List AV} {a1 : Int} (h : a0.length ≤ 9223372036854775807) (h0 : 0 ≤ a1) (h1 : a1 ≤ 1048576) : v28_0 a0 a1 = if a1 < a0.length then -1 else a1 - a0.length := by
  unfold v28_0
  rw [wrap_in (a := a1 - a0.length) (by omega) (by omega)]
  by_cases hl : a1 < a0.length
  · have e : decide (a1 - (a0.length : Int) < 0) = true := decide_eq_true (by omega)
    rw [e, if_pos hl]
    rfl
  · have e : decide (a1 - (a0.length : Int) < 0) = false := decide_eq_false (by omega)
    rw [e, if_neg hl]
    rfl
def cp31 (x : AV) : AV := (AV.agg [AV.int .i64 (v61_0 (fI x 0) (fI x 1)), AV.int .i64 (v61_1 (fI x 0) (fI x 1))])
theorem P31 (xs : List AV) (h : xs.length ≤ 1048576) : q31 xs = true ∧ v31_0 xs = xs.map cp31 := by
  have hr : runW (R31_0 xs) (((xs.length : Int) - 0).toNat + 1) (0, List.replicate (Int.toNat (xs.length : Int)) (AV.agg [AV.int .i64 0, AV.int .i64 0])) = some (xs.map cp31) := by
    refine runW_copy (c := cp31) xs (fun i ys h0 hn hl => ?_) (fun ys => ?_)
    · simp only [R31_0, F31_0]
      have hl' : i < ys.length := by omega
      simp only [h0, hn, hl', decide_true, Bool.and_self, cond_true]
      rw [wrap_in (a := i + 1) (by omega) (by omega)]
      rfl
    · simp only [R31_0, F31_0, Int.lt_irrefl, decide_false, cond_false]
  unfold q31 v31_0
  rw [hr]
  refine ⟨?_, rfl⟩
  simp only [ro, Bool.and_true, Bool.and_eq_true, decide_eq_true_eq]
  omega
def cp30 (x : AV) : AV := (AV.agg [AV.int .i64 (fI x 0)])
theorem P30 (xs : List AV) (h : xs.length ≤ 1048576) : q30 xs = true ∧ v30_0 xs = xs.map cp30 := by
  have hr : runW (R30_0 xs) (((xs.length : Int) - 0).toNat + 1) (0, List.replicate (Int.toNat (xs.length : Int)) (AV.int .i64 0)) = some (xs.map cp30) := by
    refine runW_copy (c := cp30) xs (fun i ys h0 hn hl => ?_) (fun ys => ?_)
    · simp only [R30_0, F30_0]
      have hl' : i < ys.length := by omega
      simp only [h0, hn, hl', decide_true, Bool.and_self, cond_true]
      rw [wrap_in (a := i + 1) (by omega) (by omega)]
      rfl
    · simp only [R30_0, F30_0, Int.lt_irrefl, decide_false, cond_false]
  unfold q30 v30_0
  rw [hr]
  refine ⟨?_, rfl⟩
  simp only [ro, Bool.and_true, Bool.and_eq_true, decide_eq_true_eq]
  omega
theorem P34 (xs : List AV) (h : xs.length ≤ 1048576) : q34 xs xs = true ∧ v34_0 xs xs = true := by
  have hr : runW (R34_0 xs xs) (((xs.length : Int) - 0).toNat + 1) 0 = some (ro (findF (fun _ => false) xs.length 0) (.inl ()) fun _ => .inr ()) := by
    refine runW_find (fun i => i) xs.length _ _ _ (fun i h0 hn => ?_) ?_ xs.length _ 0 (Int.le_refl 0) (by omega) (by omega)
    · simp only [R34_0, F34_0, h0, hn, decide_true, Bool.and_self, cond_true]
      rw [wrap_in (a := i + 1) (by omega) (by omega)]
      simp
    · simp only [R34_0, F34_0, Int.lt_irrefl, decide_false, cond_false]
  unfold q34 v34_0
  rw [hr, findF_none _ _ fun _ _ _ => rfl]
  simp [ro, sumE]
theorem P35 (xs : List AV) (h : xs.length ≤ 1048576) : q35 xs xs = true ∧ v35_0 xs xs = true := by
  have hr : runW (R35_0 xs xs) (((xs.length : Int) - 0).toNat + 1) 0 = some (ro (findF (fun _ => false) xs.length 0) (.inl ()) fun _ => .inr ()) := by
    refine runW_find (fun i => i) xs.length _ _ _ (fun i h0 hn => ?_) ?_ xs.length _ 0 (Int.le_refl 0) (by omega) (by omega)
    · simp only [R35_0, F35_0, h0, hn, decide_true, Bool.and_self, cond_true]
      rw [wrap_in (a := i + 1) (by omega) (by omega)]
      simp [v33_0]
    · simp only [R35_0, F35_0, Int.lt_irrefl, decide_false, cond_false]
  unfold q35 v35_0
  rw [hr, findF_none _ _ fun _ _ _ => rfl]
  simp [ro, sumE]
theorem v68 (a b c : Int) : v68_0 a b c = (decide (b ≤ a) && decide (a ≤ c)) := by
  unfold v68_0; cases h : decide (a ≥ b) <;> simp_all
theorem isR_eq (a b : Int) : v168_0 a b = v165_0 a b := by
  unfold v168_0 v165_0
  rw [v68, v68]
  by_cases h1 : -1000 ≤ a <;> by_cases h2 : a ≤ b <;> by_cases h3 : b ≤ 1000 <;> simp [h1, h2, h3] <;> omega

theorem run135 (xs : List AV) (h : xs.length ≤ 1048576) : runW (R135_0 xs) (((xs.length : Int) - 0).toNat + 1) 0 = some (ro (findF (fun i => !v165_0 (fI (xs.getD i.toNat .undef) 0) (fI (xs.getD i.toNat .undef) 1)) xs.length 0) (.inl ()) fun _ => .inr ()) := by
  refine runW_find (fun i => i) xs.length _ _ _ (fun i h0 hn => ?_) ?_ xs.length _ 0 (Int.le_refl 0) (by omega) (by omega)
  · simp only [R135_0, F135_0, h0, hn, decide_true, Bool.and_self, cond_true]
    rw [wrap_in (a := i + 1) (by omega) (by omega)]
  · simp only [R135_0, F135_0, Int.lt_irrefl, decide_false, cond_false]
theorem run179 (xs : List AV) (h : xs.length ≤ 1048576) : runW (R179_0 xs xs.length) (((xs.length : Int) - 0).toNat + 1) 0 = some (ro (findF (fun i => v167_0 (fI (xs.getD i.toNat .undef) 0) (fI (xs.getD i.toNat .undef) 1)) xs.length 0) (.inl ()) fun i => .inr i) := by
  refine runW_find (fun i => i) xs.length _ _ _ (fun i h0 hn => ?_) ?_ xs.length _ 0 (Int.le_refl 0) (by omega) (by omega)
  · simp only [R179_0, F179_0, h0, hn, decide_true, Bool.and_self, cond_true]
    rw [wrap_in (a := i + 1) (by omega) (by omega)]
  · simp only [R179_0, F179_0, Int.lt_irrefl, decide_false, cond_false]
theorem P135 (xs : List AV) (h : xs.length ≤ 1048576) : q135 xs = true ∧ v135_0 xs = ((findF (fun i => !v165_0 (fI (xs.getD i.toNat .undef) 0) (fI (xs.getD i.toNat .undef) 1)) xs.length 0).isNone && decide (xs.length ≤ 30)) := by
  unfold q135 v135_0
  rw [run135 xs h]
  cases findF (fun i => !v165_0 (fI (xs.getD i.toNat .undef) 0) (fI (xs.getD i.toNat .undef) 1)) xs.length 0 with
  | none => refine ⟨rfl, ?_⟩; simp only [ro, sumE, Option.isNone_none, Bool.true_and]; congr 1; simp only [eq_iff_iff]; omega
  | some j => exact ⟨rfl, rfl⟩
theorem P137 (xs : List AV) (h : xs.length ≤ 1048576) : q137 xs = true ∧ v137_0 xs = v135_0 xs := by
  rw [(P135 xs h).2]
  unfold q137 v137_0 v166_0 q166 q179 v179_0
  rw [run179 xs h]
  have e : (fun i : Int => v167_0 (fI (xs.getD i.toNat .undef) 0) (fI (xs.getD i.toNat .undef) 1)) = fun i => !v165_0 (fI (xs.getD i.toNat .undef) 0) (fI (xs.getD i.toNat .undef) 1) := by
    funext i
    unfold v167_0
    rw [isR_eq]
  rw [e]
  have e30 : decide ((xs.length : Int) ≤ 30) = decide (xs.length ≤ 30) := by congr 1; simp only [eq_iff_iff]; omega
  rw [e30]
  cases hf : findF (fun i => !v165_0 (fI (xs.getD i.toNat .undef) 0) (fI (xs.getD i.toNat .undef) 1)) xs.length 0 with
  | none => cases decide (xs.length ≤ 30) <;> exact ⟨rfl, rfl⟩
  | some j =>
    have := (findF_some _ _ hf).1
    cases decide (xs.length ≤ 30)
    · exact ⟨rfl, rfl⟩
    · refine ⟨rfl, ?_⟩
      simp [ro, sumE]
      omega
theorem run103 (xs : List AV) (h : xs.length ≤ 1048576) : runW (R103_0 xs) (((xs.length : Int) - 0).toNat + 1) 0 = some (ro (findF (fun i => !v68_0 (fI (xs.getD i.toNat .undef) 0) (-999) 999) xs.length 0) (.inl ()) fun _ => .inr ()) := by
  refine runW_find (fun i => i) xs.length _ _ _ (fun i h0 hn => ?_) ?_ xs.length _ 0 (Int.le_refl 0) (by omega) (by omega)
  · simp only [R103_0, F103_0, h0, hn, decide_true, Bool.and_self, cond_true]
    rw [wrap_in (a := i + 1) (by omega) (by omega)]
  · simp only [R103_0, F103_0, Int.lt_irrefl, decide_false, cond_false]
theorem run178 (xs : List AV) (lo hi : AV) (h : xs.length ≤ 1048576) : runW (R178_0 xs lo hi xs.length) (((xs.length : Int) - 0).toNat + 1) 0 = some (ro (findF (fun i => v163_0 (fI (xs.getD i.toNat .undef) 0) lo hi) xs.length 0) (.inl ()) fun i => .inr i) := by
  refine runW_find (fun i => i) xs.length _ _ _ (fun i h0 hn => ?_) ?_ xs.length _ 0 (Int.le_refl 0) (by omega) (by omega)
  · simp only [R178_0, F178_0, h0, hn, decide_true, Bool.and_self, cond_true]
    rw [wrap_in (a := i + 1) (by omega) (by omega)]
  · simp only [R178_0, F178_0, Int.lt_irrefl, decide_false, cond_false]
theorem P103 (xs : List AV) (h : xs.length ≤ 1048576) : q103 xs = true ∧ v103_0 xs = ((findF (fun i => !v68_0 (fI (xs.getD i.toNat .undef) 0) (-999) 999) xs.length 0).isNone && decide (xs.length ≤ 64)) := by
  unfold q103 v103_0
  rw [run103 xs h]
  cases findF (fun i => !v68_0 (fI (xs.getD i.toNat .undef) 0) (-999) 999) xs.length 0 with
  | none => refine ⟨rfl, ?_⟩; simp only [ro, sumE, Option.isNone_none, Bool.true_and]; congr 1; simp only [eq_iff_iff]; omega
  | some j => exact ⟨rfl, rfl⟩
theorem P124 (xs : List AV) (lo hi : Int) (h : xs.length ≤ 1048576) : q124 xs lo hi = true ∧ v124_0 xs lo hi = (findF (fun i => !v68_0 (fI (xs.getD i.toNat .undef) 0) lo hi) xs.length 0).isNone := by
  unfold q124 v124_0 v162_0 q162 q178 v178_0
  rw [run178 xs _ _ h]
  have e : (fun i : Int => v163_0 (fI (xs.getD i.toNat .undef) 0) (AV.int .i64 lo) (AV.int .i64 hi)) = fun i => !v68_0 (fI (xs.getD i.toNat .undef) 0) lo hi := by
    funext i
    unfold v163_0
    rw [v68, show fI (AV.int .i64 lo) 0 = lo from rfl, show fI (AV.int .i64 hi) 0 = hi from rfl]
    generalize fI (xs.getD i.toNat .undef) 0 = z
    by_cases h1 : z < lo <;> by_cases h2 : z > hi <;> simp [h1, h2] <;> omega
  rw [e]
  cases hf : findF (fun i => !v68_0 (fI (xs.getD i.toNat .undef) 0) lo hi) xs.length 0 with
  | none => exact ⟨rfl, rfl⟩
  | some j =>
    have := (findF_some _ _ hf).1
    refine ⟨rfl, ?_⟩
    simp [ro, sumE]
    omega
theorem P105 (xs : List AV) (h : xs.length ≤ 1048576) : q105 xs = true ∧ v105_0 xs = v103_0 xs := by
  rw [(P103 xs h).2]
  unfold q105 v105_0
  rw [(P124 xs _ _ h).1, (P124 xs _ _ h).2]
  have e64 : decide ((xs.length : Int) ≤ 64) = decide (xs.length ≤ 64) := by congr 1; simp only [eq_iff_iff]; omega
  rw [e64]
  cases decide (xs.length ≤ 64) <;> simp

def pQ (xs : List AV) (v : Int) (i : Int) : Bool := v161_0 (fI (xs.getD i.toNat .undef) 0) (fI (xs.getD i.toNat .undef) 1) v
def dQ (i : Int) : AV := .int .i64 i
theorem inR (a b v : Int) : v136_0 a b v = v161_0 a b v := by
  unfold v136_0 v161_0
  rw [isR_eq]
  unfold v165_0
  rw [v68, v68, v68]
  by_cases h1 : -1000 ≤ a <;> by_cases h2 : a ≤ 1000 <;> by_cases h3 : a ≤ b <;> by_cases h4 : b ≤ 1000 <;> simp [h1, h2, h3, h4]
  rw [wrap_in (a := b - 1) (by omega) (by omega)]
  by_cases h5 : a ≤ v <;> simp [h5]
  omega
theorem run86 (xs : List AV) (v : Int) (h : xs.length ≤ 1048576) (hv : v135_0 xs = true) : runW (R86_0 xs v) (((xs.length : Nat) : Int) - 0).toNat.succ ((fun i ys => (i, ys)) 0 []) = some (appF (pQ xs v) (dQ) xs.length 0 []) :=
  runW_app (f := R86_0 xs v) (fun i ys => (i, ys)) xs.length (pQ xs v) (dQ) (fun i ys h0 hn hl => by
    have c1 : (ys.length + [(dQ) i].length) * 8 ≤ 140737488355328 := by simp only [List.length_singleton]; omega
    have c2 : ys.length + [(dQ) i].length ≤ 140737488355328 := by simp only [List.length_singleton]; omega
    simp only [dQ] at c1 c2
    simp only [R86_0, F86_0, h0, hn, decide_true, Bool.and_self, cond_true, c1, c2, (P135 xs h).1, hv, inR]
    rw [wrap_in (a := i + 1) (by omega) (by omega)]
    rfl) (fun ys => by simp only [R86_0, F86_0, Int.lt_irrefl, decide_false, cond_false, (P135 xs h).1, hv, inR])
theorem run138 (xs : List AV) (v : Int) (h : xs.length ≤ 1048576) : runW (R138_0 v xs xs.length) (((xs.length : Nat) : Int) - 0).toNat.succ ((fun i ys => (i, ys)) 0 []) = some (appF (pQ xs v) (dQ) xs.length 0 []) :=
  runW_app (f := R138_0 v xs xs.length) (fun i ys => (i, ys)) xs.length (pQ xs v) (dQ) (fun i ys h0 hn hl => by
    have c1 : (ys.length + [(dQ) i].length) * 8 ≤ 140737488355328 := by simp only [List.length_singleton]; omega
    have c2 : ys.length + [(dQ) i].length ≤ 140737488355328 := by simp only [List.length_singleton]; omega
    simp only [dQ] at c1 c2
    simp only [R138_0, F138_0, h0, hn, decide_true, Bool.and_self, cond_true, c1, c2]
    rw [wrap_in (a := i + 1) (by omega) (by omega)]
    rfl) (fun ys => by simp only [R138_0, F138_0, Int.lt_irrefl, decide_false, cond_false])
theorem P86 (xs : List AV) (v : Int) (h : xs.length ≤ 1048576) : q86 xs v = true ∧ v86_0 xs v = bif v135_0 xs then appF (pQ xs v) dQ xs.length 0 [] else [] := by
  unfold q86 v86_0
  cases hv : v135_0 xs with
  | true =>
    have hr := run86 xs v h hv
    rw [show ((xs.length : Int) - 0).toNat + 1 = ((xs.length : Int) - 0).toNat.succ from rfl, hr]
    exact ⟨rfl, rfl⟩
  | false =>
    have hn : 0 < xs.length := by
      cases xs with
      | nil => rw [(P135 [] h).2] at hv; simp [findF] at hv
      | cons x xs => simp
    have hr : ∀ m, runW (R86_0 xs v) (m + 1) (0, []) = some [] := fun m => by
      have c : decide ((0 : Int) < xs.length) = true := decide_eq_true (by omega)
      show (R86_0 xs v (0, [])).el none _ some = _
      simp only [R86_0, F86_0, c, (P135 xs h).1, hv, cond_true, cond_false]
      rfl
    rw [hr]
    exact ⟨rfl, rfl⟩
theorem P138 (xs : List AV) (v : Int) (h : xs.length ≤ 1048576) : q138 xs v = true ∧ v138_0 xs v = bif v135_0 xs then appF (pQ xs v) dQ xs.length 0 [] else [] := by
  unfold q138 v138_0
  have hr := run138 xs v h
  rw [(P137 xs h).1, (P137 xs h).2, show ((xs.length : Int) - 0).toNat + 1 = ((xs.length : Int) - 0).toNat.succ from rfl, hr]
  cases v135_0 xs <;> exact ⟨rfl, rfl⟩

end Go.Proofs.Ytepfklcdpkpepaa
