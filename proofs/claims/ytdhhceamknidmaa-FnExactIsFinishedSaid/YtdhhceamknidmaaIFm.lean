/- histories -/
import Derived.Test.YtdhhceamknidmaaIFg
namespace Go.Proofs.Ytdhhceamknidmaa
open Go Go.Proofs.VE
set_option linter.unusedVariables false
set_option linter.unusedSimpArgs false
/-! ### histories -/
theorem P111 (xs : List AV) (h : xs.length ≤ 1048576) : q111 xs = true ∧ v111_0 xs = (noneB (fun i => !v67_0 (fI (xs.getD i.toNat .undef) 0) (-1000) 1000) xs.length && decide (xs.length ≤ 60)) := by
  have hr : runW (R111_0 xs) (((xs.length : Int) - 0).toNat + 1) 0 = some (ro (findF (fun i => !v67_0 (fI (xs.getD i.toNat .undef) 0) (-1000) 1000) xs.length 0) (.inl ()) fun _ => .inr ()) := by
    refine runW_find (fun i => i) xs.length _ _ _ (fun i h0 hn => ?_) ?_ xs.length _ 0 (Int.le_refl 0) (by omega) (by omega)
    · simp only [R111_0, F111_0, h0, hn, decide_true, Bool.and_self, cond_true]
      rw [wrap_in (a := i + 1) (by omega) (by omega)]
    · simp only [R111_0, F111_0, Int.lt_irrefl, decide_false, cond_false]
  unfold q111 v111_0 noneB
  rw [hr]
  cases findF (fun i => !v67_0 (fI (xs.getD i.toNat .undef) 0) (-1000) 1000) xs.length 0 with
  | none => refine ⟨rfl, ?_⟩; simp only [ro, sumE, Option.isNone_none, Bool.true_and]; congr 1; simp only [eq_iff_iff]; omega
  | some j => exact ⟨rfl, rfl⟩
theorem P115 (xs : List AV) (h : xs.length ≤ 1048576) : q115 xs = true ∧ v115_0 xs = v111_0 xs := by
  rw [(P111 xs h).2]
  unfold q115 v115_0 noneB
  rw [(P112 xs _ _ h).1, (P112 xs _ _ h).2]
  have e60 : decide ((xs.length : Int) ≤ 60) = decide (xs.length ≤ 60) := by congr 1; simp only [eq_iff_iff]; omega
  rw [e60]
  cases decide (xs.length ≤ 60) <;> simp
theorem hist {xs : List AV} (hl : xs.length ≤ 1048576) (h : v111_0 xs = true) : xs.length ≤ 60 ∧ ∀ k : Int, 0 ≤ k → k < xs.length → -1000 ≤ fI (xs.getD k.toNat .undef) 0 ∧ fI (xs.getD k.toNat .undef) 0 ≤ 1000 := by
  rw [(P111 xs hl).2, Bool.and_eq_true, noneB_iff, decide_eq_true_eq] at h
  refine ⟨h.2, fun k k0 k1 => ?_⟩
  have := h.1 k k0 k1
  simp only [v67, Bool.not_eq_false', Bool.and_eq_true, decide_eq_true_eq] at this
  exact this

end Go.Proofs.Ytdhhceamknidmaa
