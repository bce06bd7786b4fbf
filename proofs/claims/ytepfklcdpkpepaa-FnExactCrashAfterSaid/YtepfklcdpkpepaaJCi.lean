/- new columns -/
import Derived.Test.YtepfklcdpkpepaaJCg
namespace Go.Proofs.Ytepfklcdpkpepaa
open Go Go.Proofs.VE
set_option linter.unusedVariables false
set_option linter.unusedSimpArgs false
def dI (i : Int) : AV := .int .i64 i

def E102 (xs vs : List AV) (i : Int) : List AV → Int ⊕ (Int × List AV)
  | [] => .inl i
  | y :: ys => .inr (i, y :: ys)
def K102 (xs vs : List AV) : List AV → Unit ⊕ List AV
  | [] => .inl ()
  | y :: ys => .inr (y :: ys)
theorem run102 (xs vs : List AV) (h : xs.length ≤ 1048576) : runW (R102_0 xs vs) (((xs.length : Int) - 0).toNat + 1) (E102 xs vs 0 []) = some (K102 xs vs (appF allT dI xs.length 0 [])) := by
  refine runW_appK (E102 xs vs) (K102 xs vs) xs.length allT dI (fun i ys h0 hn hl => ?_) (fun ys => ?_)
  · have d1 : decide (i < (xs.length : Int)) = true := decide_eq_true hn
    have d2 : decide (0 ≤ i) = true := decide_eq_true h0
    cases ys with
    | nil =>
      have c1 : decide ((([dI i] : List AV).length) * 8 ≤ 140737488355328) = true := by simp
      have c2 : decide ((([dI i] : List AV).length) ≤ 140737488355328) = true := by simp
      simp only [dI] at c1 c2
      simp only [E102, R102_0, sumE, F102_0_s0, d1, d2, c1, c2, Bool.and_self, cond_true, allT, List.nil_append]
      rw [wrap_in (a := i + 1) (by omega) (by omega)]
      try rfl
    | cons y ys =>
      have hl' : (y :: ys).length ≤ 1048576 := by omega
      have c1 : decide (((y :: ys).length + [dI i].length) * 8 ≤ 140737488355328) = true := decide_eq_true (by simp only [List.length_singleton]; omega)
      have c2 : decide ((y :: ys).length + [dI i].length ≤ 140737488355328) = true := decide_eq_true (by simp only [List.length_singleton]; omega)
      simp only [dI] at c1 c2
      simp only [E102, R102_0, sumE, F102_0_s1, d1, d2, c1, c2, Bool.and_self, cond_true, allT, List.cons_append]
      rw [wrap_in (a := i + 1) (by omega) (by omega)]
      try rfl
  · cases ys <;> simp only [E102, K102, R102_0, sumE, F102_0_s0, F102_0_s1, Int.lt_irrefl, decide_false, cond_false]

def E107 (xs vs : List AV) (i : Int) : List AV → Int ⊕ (Int × List AV)
  | [] => .inl i
  | y :: ys => .inr (i, y :: ys)
def K107 (xs vs : List AV) : List AV → Unit ⊕ List AV
  | [] => .inl ()
  | y :: ys => .inr (y :: ys)
theorem run107 (xs vs : List AV) (h : xs.length ≤ 1048576) : runW (R107_0 xs.length vs) (((xs.length : Int) - 0).toNat + 1) (E107 xs vs 0 []) = some (K107 xs vs (appF allT dI xs.length 0 [])) := by
  refine runW_appK (E107 xs vs) (K107 xs vs) xs.length allT dI (fun i ys h0 hn hl => ?_) (fun ys => ?_)
  · have d1 : decide (i < (xs.length : Int)) = true := decide_eq_true hn
    have d2 : decide (0 ≤ i) = true := decide_eq_true h0
    cases ys with
    | nil =>
      have c1 : decide ((([dI i] : List AV).length) * 8 ≤ 140737488355328) = true := by simp
      have c2 : decide ((([dI i] : List AV).length) ≤ 140737488355328) = true := by simp
      simp only [dI] at c1 c2
      simp only [E107, R107_0, sumE, F107_0_s0, d1, d2, c1, c2, Bool.and_self, cond_true, allT, List.nil_append]
      rw [wrap_in (a := i + 1) (by omega) (by omega)]
      try rfl
    | cons y ys =>
      have hl' : (y :: ys).length ≤ 1048576 := by omega
      have c1 : decide (((y :: ys).length + [dI i].length) * 8 ≤ 140737488355328) = true := decide_eq_true (by simp only [List.length_singleton]; omega)
      have c2 : decide ((y :: ys).length + [dI i].length ≤ 140737488355328) = true := decide_eq_true (by simp only [List.length_singleton]; omega)
      simp only [dI] at c1 c2
      simp only [E107, R107_0, sumE, F107_0_s1, d1, d2, c1, c2, Bool.and_self, cond_true, allT, List.cons_append]
      rw [wrap_in (a := i + 1) (by omega) (by omega)]
      try rfl
  · cases ys <;> simp only [E107, K107, R107_0, sumE, F107_0_s0, F107_0_s1, Int.lt_irrefl, decide_false, cond_false]

theorem appF_all (c : Int → AV) : ∀ (m : Nat) (i : Int) (ys : List AV), appF allT c m i ys = ys ++ (List.range m).map fun j : Nat => c (i + j)
  | 0, i, ys => by simp [appF, foldF]
  | m + 1, i, ys => by
    have e : appF allT c (m + 1) i ys = appF allT c m (i + 1) (ys ++ [c i]) := rfl
    rw [e, appF_all c m, List.range_succ_eq_map, List.map_cons, List.map_map, List.append_assoc]
    congr 1
    simp only [Int.natCast_zero, Int.add_zero, List.singleton_append, List.cons.injEq, true_and]
    refine List.map_congr_left fun j _ => ?_
    simp only [Function.comp]
    congr 1
    omega
def rows (xs : List AV) : List AV := appF allT dI xs.length 0 []
theorem rows_len (xs : List AV) : (rows xs).length = xs.length := by
  unfold rows
  rw [appF_all]
  simp
theorem rows_el (xs : List AV) (k : Int) (h0 : 0 ≤ k) (h1 : k < xs.length) : el (rows xs) k = k := by
  unfold el rows
  rw [appF_all, List.nil_append, List.getD_eq_getElem?_getD, List.getElem?_map, List.getElem?_range (by omega)]
  simp only [Option.map_some, Option.getD_some]
  show (0 : Int) + (k.toNat : Nat) = k
  omega
theorem P102 (xs : List AV) (h : xs.length ≤ 1048576) : q102 xs = true ∧ v102_0 xs = (bif v103_0 xs then xs else []) ∧ v102_1 xs = (bif v103_0 xs then rows xs else []) ∧ v102_2 xs = [] := by
  unfold q102 v102_0 v102_1 v102_2
  have hr := run102 xs ([] ++ xs) h
  have c1 : decide ((([] : List AV).length + xs.length) * 8 ≤ 140737488355328) = true := decide_eq_true (by simp; omega)
  have c2 : decide (([] : List AV).length + xs.length ≤ 140737488355328) = true := decide_eq_true (by simp; omega)
  rw [(P103 xs h).1, show (.inl 0 : Int ⊕ (Int × List AV)) = E102 xs ([] ++ xs) 0 [] from rfl, hr, c1, c2]
  change _ ∧ _ ∧ _ = (bif v103_0 xs then (appF allT dI xs.length 0 []) else []) ∧ _
  generalize appF allT dI xs.length 0 [] = ys
  cases v103_0 xs
  · exact ⟨rfl, rfl, rfl, rfl⟩
  · cases ys <;> exact ⟨rfl, rfl, rfl, rfl⟩
theorem P107 (xs : List AV) (h : xs.length ≤ 1048576) : q107 xs = true ∧ v107_0 xs = (bif v103_0 xs then xs else []) ∧ v107_1 xs = (bif v103_0 xs then rows xs else []) ∧ v107_2 xs = [] := by
  unfold q107 v107_0 v107_1 v107_2
  have hr := run107 xs xs h
  rw [(P105 xs h).1, (P105 xs h).2, (P139 xs h).1, (P139 xs h).2, show (.inl 0 : Int ⊕ (Int × List AV)) = E107 xs xs 0 [] from rfl, hr]
  change _ ∧ _ ∧ _ = (bif v103_0 xs then (appF allT dI xs.length 0 []) else []) ∧ _
  generalize appF allT dI xs.length 0 [] = ys
  cases v103_0 xs
  · exact ⟨rfl, rfl, rfl, rfl⟩
  · cases ys <;> exact ⟨rfl, rfl, rfl, rfl⟩
theorem Col_new (xs : List AV) (hl : xs.length ≤ 1048576) (h : v103_0 xs = true) : Col xs (rows xs) [] := by
  rw [(P103 xs hl).2, Bool.and_eq_true, findF_isNone, decide_eq_true_eq] at h
  obtain ⟨h1, h2⟩ := h
  have hr := rows_len xs
  refine ⟨h2, fun k k0 k1 => ?_, by omega, fun k k0 k1 => ?_, fun j k j0 jk k1 => ?_, fun i i0 i1 => ?_, fun i i0 i1 => ?_, fun i i0 i1 => ?_, fun i i0 i1 => ?_⟩
  · have := h1 k k0 (by omega)
    simp only [v68, Bool.not_eq_false', Bool.and_eq_true, decide_eq_true_eq] at this
    exact this
  · rw [rows_el xs k k0 (by omega)]
    omega
  · rw [rows_el xs k (by omega) (by omega), rows_el xs j j0 (by omega)]
    omega
  all_goals (exfalso; simp only [List.length_nil] at i1; omega)
theorem N2_nil : N2 [] := fun x hx => by simp at hx

end Go.Proofs.Ytepfklcdpkpepaa
