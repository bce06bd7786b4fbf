/- the law: FormatWorkload -/
import Derived.Test.YtiokajbmckcklaaDoorFWh
namespace Go.Proofs.YtiokajbmckcklaaDoor
open Go Go.Proofs.VE
set_option linter.unusedVariables false
set_option linter.unusedSimpArgs false
/-! Joined words: what a loop with a separator lays. -/
theorem beq_empty (t : ByteArray) (h : 1 ≤ t.size) : (t.toList == ByteArray.empty.toList) = false := by
  rw [Lib.toList_data, Lib.toList_data]
  cases h2 : t.data.toList with
  | nil =>
    have : t.size = t.data.toList.length := by rw [Array.length_toList]; rfl
    rw [h2, List.length_nil] at this
    omega
  | cons _ _ => rfl
theorem joinB_snoc (l : List AV) (w sep : ByteArray) : joinB (l ++ [AV.str w]) sep = bif decide (l.length = 0) then w else (joinB l sep ++ sep) ++ w := by
  apply ByteArray.ext
  apply Array.toList_inj.1
  cases l with
  | nil => simp [joinB, Lib.join_one, fS, AV.cells]
  | cons x r =>
    simp [joinB, Lib.join_cons, Lib.joinTail, fS, AV.cells, ByteArray.data_append]
/-- A separator ahead of each word but the first. -/
def gJ (w : Int → ByteArray) (i : Int) (t : ByteArray) : ByteArray := bif decide (i > 0) then (t ++ ByteArray.mk #[32]) ++ w i else t ++ w i
def gL (w : Int → ByteArray) (i : Int) (l : List AV) : List AV := l ++ [AV.str (w i)]
theorem gL_len (w : Int → ByteArray) : ∀ (m : Nat) (i : Int) (l : List AV), (foldF (gL w) m i l).length = l.length + m
  | 0, _, _ => rfl
  | m + 1, i, l => by
    show (foldF (gL w) m (i + 1) (l ++ [AV.str (w i)])).length = _
    rw [gL_len w m, List.length_append]
    simp only [List.length_cons, List.length_nil]
    omega
theorem gJ_join (w : Int → ByteArray) : ∀ (m : Nat) (i : Int) (t : ByteArray) (l : List AV), (l.length : Int) = i → t = joinB l (ByteArray.mk #[32]) → foldF (gJ w) m i t = joinB (foldF (gL w) m i l) (ByteArray.mk #[32])
  | 0, _, _, _, _, h => h
  | m + 1, i, t, l, hi, h => by
    refine gJ_join w m (i + 1) (gJ w i t) (gL w i l) (by unfold gL; rw [List.length_append]; simp only [List.length_cons, List.length_nil]; omega) ?_
    unfold gJ gL
    rw [joinB_snoc, h]
    by_cases h0 : i > 0
    · rw [decide_eq_true h0, decide_eq_false (by omega : ¬ l.length = 0)]
      rfl
    · have : l = [] := List.eq_nil_of_length_eq_zero (by omega)
      subst this
      rw [decide_eq_false h0]
      apply ByteArray.ext
      simp [joinB, Lib.join_nil, ByteArray.data_append]
theorem gJ_size (w : Int → ByteArray) (K : Nat) (hw : ∀ i, (w i).size ≤ K) (i : Int) (t : ByteArray) : (gJ w i t).size ≤ t.size + (K + 1) ∧ t.size ≤ (gJ w i t).size ∧ (w i).size ≤ (gJ w i t).size := by
  have := hw i
  unfold gJ
  have o1 : (ByteArray.mk #[32]).size = 1 := rfl
  cases decide (i > 0)
  · simp only [cond_false, ByteArray.size_append]; omega
  · simp only [cond_true, ByteArray.size_append]; omega
theorem gJ_fold (w : Int → ByteArray) (K : Nat) (hw : ∀ i, (w i).size ≤ K) : ∀ (m : Nat) (i : Int) (t : ByteArray), (foldF (gJ w) m i t).size ≤ t.size + (K + 1) * m ∧ t.size ≤ (foldF (gJ w) m i t).size
  | 0, _, _ => ⟨Nat.le_refl _, Nat.le_refl _⟩
  | m + 1, i, t => by
    have h1 := gJ_fold w K hw m (i + 1) (gJ w i t)
    have h2 := gJ_size w K hw i t
    show (foldF (gJ w) m (i + 1) (gJ w i t)).size ≤ _ ∧ _ ≤ (foldF (gJ w) m (i + 1) (gJ w i t)).size
    rw [Nat.mul_succ]
    omega
theorem gJ_pos (w : Int → ByteArray) (K : Nat) (hw : ∀ i, (w i).size ≤ K) (h0 : 1 ≤ (w 0).size) (m : Nat) (hm : 1 ≤ m) : 1 ≤ (foldF (gJ w) m 0 ByteArray.empty).size := by
  obtain ⟨k, rfl⟩ : ∃ k, m = k + 1 := ⟨m - 1, by omega⟩
  have h1 := gJ_fold w K hw k (0 + 1) (gJ w 0 ByteArray.empty)
  have h2 := gJ_size w K hw 0 ByteArray.empty
  show 1 ≤ (foldF (gJ w) k (0 + 1) (gJ w 0 ByteArray.empty)).size
  omega
theorem itoaB_pos (n : Int) : 1 ≤ (itoaB n).size := by
  have e : (itoaB n).size = (Lib.itoa n).length := by simp [itoaB, ByteArray.size]
  rw [e]
  unfold Lib.itoa
  split
  · simp
  · rw [Lib.decDigits_length]; exact Lib.nDigits_pos _
/-! The workload's line. -/
theorem range_eq (a b : Int) (ha : In64 a) (hb : In64 b) : q52 a b = true ∧ q55 a b = true ∧ v55_0 a b = v52_0 a b ∧ (v52_0 a b).size ≤ 42 ∧ (v82_0 a b = true → 1 ≤ (v52_0 a b).size) := by
  obtain ⟨a1, a2⟩ := fmtInt a ha.1 ha.2
  obtain ⟨b1, b2⟩ := fmtInt b hb.1 hb.2
  obtain ⟨A1, A2⟩ := fmtInt' a ha.1 ha.2
  obtain ⟨B1, B2⟩ := fmtInt' b hb.1 hb.2
  have la := itoaB_len a ha.1 ha.2
  have lb := itoaB_len b hb.1 hb.2
  have pa := itoaB_pos a
  have o2 : (ByteArray.mk #[46, 46]).size = 2 := rfl
  have e : v85_0 a b = v82_0 a b := isR_eq a b
  have d1 : decide ((itoaB a).size + (ByteArray.mk #[46, 46]).size ≤ 4611686018427387904) = true := decide_eq_true (by omega)
  have d2 : decide ((itoaB a ++ ByteArray.mk #[46, 46]).size + (itoaB b).size ≤ 4611686018427387904) = true := decide_eq_true (by rw [ByteArray.size_append]; omega)
  unfold q52 q55 v55_0 v52_0
  rw [e, a1, a2, b1, b2, A1, A2, B1, B2, d1, d2]
  cases v82_0 a b with
  | false => exact ⟨rfl, rfl, rfl, (by decide : ByteArray.empty.size ≤ 42), fun h => by cases h⟩
  | true =>
    simp only [Bool.not_true, cond_false, ByteArray.size_append]
    exact ⟨by first | trivial | rfl, by first | trivial | rfl, by first | trivial | rfl, by omega, fun _ => by omega⟩
def wR (xs : List AV) (i : Int) : ByteArray := v52_0 (fI (xs.getD i.toNat .undef) 0) (fI (xs.getD i.toNat .undef) 1)
theorem run21 (xs : List AV) (h : xs.length ≤ 1048576) (hv : ∀ i : Int, In64 (fI (xs.getD i.toNat .undef) 0) ∧ In64 (fI (xs.getD i.toNat .undef) 1)) :
    runW (R21_0 xs) (((xs.length : Int) - 0).toNat + 1) (ByteArray.empty, 0) = some (foldF (gJ (wR xs)) xs.length 0 ByteArray.empty) :=
  runW_fold (f := R21_0 xs) (fun i (t : ByteArray) => (t, i)) xs.length (gJ (wR xs)) (fun t => t) (fun i t => (t.size : Int) ≤ 43 * i) (fun i t h0 hn hI => by
    obtain ⟨r1, r2, r3, r4, _⟩ := range_eq _ _ (hv i).1 (hv i).2
    have o1 : (ByteArray.mk #[32]).size = 1 := rfl
    have hs : (gJ (wR xs) i t).size ≤ t.size + (42 + 1) := (gJ_size (wR xs) 42 (fun j => (range_eq _ _ (hv j).1 (hv j).2).2.2.2.1) i t).1
    refine ⟨?_, by omega⟩
    have d0 : decide (i < (xs.length : Int)) = true := decide_eq_true hn
    have d2 : decide (0 ≤ i) = true := decide_eq_true h0
    have d3 : decide (t.size + (v52_0 (fI (xs.getD i.toNat .undef) 0) (fI (xs.getD i.toNat .undef) 1)).size ≤ 4611686018427387904) = true := decide_eq_true (by omega)
    have d4 : decide ((t ++ ByteArray.mk #[32]).size + (v52_0 (fI (xs.getD i.toNat .undef) 0) (fI (xs.getD i.toNat .undef) 1)).size ≤ 4611686018427387904) = true := decide_eq_true (by rw [ByteArray.size_append]; omega)
    have d5 : decide (t.size + (ByteArray.mk #[32]).size ≤ 4611686018427387904) = true := decide_eq_true (by omega)
    unfold R21_0 F21_0 gJ wR
    rw [r1, d0, d2, d3, d4, d5, wrap_in (a := i + 1) (by omega) (by omega)]
    cases decide (i > 0) <;> rfl) (fun t _ => by
    unfold R21_0 F21_0
    rw [decide_eq_false (Int.lt_irrefl _)]
    rfl) xs.length _ 0 ByteArray.empty (Int.le_refl 0) (by omega) (by omega) (by decide)
theorem run23 (xs : List AV) (h : xs.length ≤ 1048576) (hv : ∀ i : Int, In64 (fI (xs.getD i.toNat .undef) 0) ∧ In64 (fI (xs.getD i.toNat .undef) 1)) :
    runW (R23_0 xs xs.length) (((xs.length : Int) - 0).toNat + 1) (0, ([] : List AV)) = some (foldF (gL (wR xs)) xs.length 0 []) :=
  runW_fold (f := R23_0 xs xs.length) (fun i (t : List AV) => (i, t)) xs.length (gL (wR xs)) (fun t => t) (fun i t => (t.length : Int) = i) (fun i t h0 hn hI => by
    obtain ⟨r1, r2, r3, r4, _⟩ := range_eq _ _ (hv i).1 (hv i).2
    refine ⟨?_, by unfold gL; rw [List.length_append]; simp only [List.length_cons, List.length_nil]; omega⟩
    have d0 : decide (i < (xs.length : Int)) = true := decide_eq_true hn
    have d2 : decide (0 ≤ i) = true := decide_eq_true h0
    unfold R23_0 F23_0 gL wR
    rw [r2, r3, d0, d2, wrap_in (a := i + 1) (by omega) (by omega)]
    have d3 : decide ((t.length + ([AV.str (v52_0 (fI (xs.getD i.toNat .undef) 0) (fI (xs.getD i.toNat .undef) 1))]).length) * 16 ≤ 140737488355328) = true := decide_eq_true (by simp only [List.length_cons, List.length_nil]; omega)
    have d4 : decide ((t.length + ([AV.str (v52_0 (fI (xs.getD i.toNat .undef) 0) (fI (xs.getD i.toNat .undef) 1))]).length) ≤ 140737488355328) = true := decide_eq_true (by simp only [List.length_cons, List.length_nil]; omega)
    rw [d3, d4]
    rfl) (fun t _ => by
    unfold R23_0 F23_0
    rw [decide_eq_false (Int.lt_irrefl _)]
    rfl) xs.length _ 0 [] (Int.le_refl 0) (by omega) (by omega) rfl
theorem isNone_at (p : Int → Bool) : ∀ (m : Nat) (i : Int), (findF p m i).isNone = true → 1 ≤ m → p i = false
  | m + 1, i, h, _ => by
    unfold findF at h
    cases hp : p i with
    | false => rfl
    | true => rw [hp] at h; cases h
theorem workl (xs : List AV) (h : xs.length ≤ 1048576) (hv : ∀ i : Int, In64 (fI (xs.getD i.toNat .undef) 0) ∧ In64 (fI (xs.getD i.toNat .undef) 1)) : q21 xs = true ∧ q23 xs = true ∧ v23_0 xs = v21_0 xs := by
  obtain ⟨s1, s2⟩ := P51 xs h
  obtain ⟨s3, s4⟩ := P54 xs h
  have hw : ∀ i, (wR xs i).size ≤ 42 := fun j => (range_eq _ _ (hv j).1 (hv j).2).2.2.2.1
  have hj : foldF (gJ (wR xs)) xs.length 0 ByteArray.empty = joinB (foldF (gL (wR xs)) xs.length 0 []) (ByteArray.mk #[32]) := gJ_join (wR xs) xs.length 0 ByteArray.empty [] rfl (by
    apply ByteArray.ext
    simp [joinB, Lib.join_nil])
  have hl : (foldF (gL (wR xs)) xs.length 0 []).length = xs.length := by rw [gL_len]; simp
  have hz := (gJ_fold (wR xs) 42 hw xs.length 0 ByteArray.empty).1
  have z0 : ByteArray.empty.size = 0 := rfl
  unfold q21 q23 v21_0 v23_0
  rw [s3, s4, s1, run21 xs h hv, run23 xs h hv]
  cases hc : v51_0 xs with
  | false => exact ⟨rfl, rfl, rfl⟩
  | true =>
    simp only [ro, Bool.not_true, cond_false, Bool.true_and]
    have k : q50 (foldF (gL (wR xs)) xs.length 0 []) (ByteArray.mk #[32]) = true := by
      unfold q50
      rw [hl, ← hj, decide_eq_true (by omega : xs.length ≤ 140737488355328), decide_eq_true (by omega)]
      rfl
    rw [k]
    refine ⟨by first | trivial | rfl, by cases decide (((foldF (gL (wR xs)) xs.length 0 []).length : Int) = 0) <;> rfl, ?_⟩
    by_cases hn : xs.length = 0
    · rw [decide_eq_true (by omega : ((foldF (gL (wR xs)) xs.length 0 []).length : Int) = 0), hn]
      show _ = (bif (ByteArray.empty.toList == ByteArray.empty.toList) then _ else _)
      rw [beq_self_eq_true]
      rfl
    · rw [decide_eq_false (by omega : ¬ ((foldF (gL (wR xs)) xs.length 0 []).length : Int) = 0)]
      rw [s2] at hc
      have h0 := isNone_at _ _ _ (Bool.and_eq_true_iff.1 hc).1 (by omega)
      have h1 : 1 ≤ (wR xs 0).size := (range_eq _ _ (hv 0).1 (hv 0).2).2.2.2.2 (by simpa using h0)
      rw [beq_empty _ (gJ_pos (wR xs) 42 hw h1 xs.length (by omega))]
      exact hj.symm
theorem getD_map (c : AV → AV) (xs : List AV) (i : Nat) (h : i < xs.length) : (xs.map c).getD i .undef = c (xs.getD i .undef) := by
  rw [List.getD_eq_getElem?_getD, List.getD_eq_getElem?_getD, List.getElem?_map, List.getElem?_eq_getElem h]
  rfl
theorem tw_in {x : AV} (h : TW (.int .i64) x) : ∃ n, x = .int .i64 n ∧ In64 n := by
  obtain ⟨n, rfl, hn⟩ := tw_int h
  exact ⟨n, rfl, of_decide_eq_true (Bool.and_eq_true_iff.1 hn).1, of_decide_eq_true (Bool.and_eq_true_iff.1 hn).2⟩
theorem raw6_true (xs : List AV) (a1 : xs.length ≤ 9223372036854775807) (hx : ∀ y ∈ xs, TWs [.int .i64, .int .i64] y.cells) : raw6 xs = some (.bool true) := by
  unfold raw6
  rw [P20 a1 (by omega) (by omega)]
  by_cases c2 : (1048576 : Int) < xs.length
  · rw [if_pos c2]
    rfl
  rw [if_neg c2, decide_eq_false (by omega : ¬ (1048576 : Int) - (xs.length : Int) < 0)]
  obtain ⟨t1, t2⟩ := P22 xs (by omega)
  have l1 : (xs.map cp22).length ≤ 1048576 := by rw [List.length_map]; omega
  have hv : ∀ i : Int, In64 (fI ((xs.map cp22).getD i.toNat .undef) 0) ∧ In64 (fI ((xs.map cp22).getD i.toNat .undef) 1) := fun i => by
    by_cases hi : i.toNat < xs.length
    · rw [getD_map cp22 xs _ hi]
      have hm : xs.getD i.toNat .undef ∈ xs := by
        rw [List.getD_eq_getElem?_getD, List.getElem?_eq_getElem hi]
        exact List.getElem_mem hi
      obtain ⟨y, ys, e1, e2, h2⟩ := tws_cons (hx _ hm)
      obtain ⟨z, zs, rfl, e3, _⟩ := tws_cons h2
      obtain ⟨n, rfl, hn⟩ := tw_in e2
      obtain ⟨k, rfl, hk⟩ := tw_in e3
      have f0 : fI (cp22 (xs.getD i.toNat .undef)) 0 = n := by
        show fI (xs.getD i.toNat .undef) 0 = n
        unfold fI
        rw [e1]
        rfl
      have f1 : fI (cp22 (xs.getD i.toNat .undef)) 1 = k := by
        show fI (xs.getD i.toNat .undef) 1 = k
        unfold fI
        rw [e1]
        rfl
      rw [f0, f1]
      exact ⟨hn, hk⟩
    · rw [List.getD_eq_getElem?_getD, List.getElem?_eq_none (by rw [List.length_map]; omega)]
      exact ⟨⟨by decide, by decide⟩, ⟨by decide, by decide⟩⟩
  generalize xs.map cp22 = xs' at *
  obtain ⟨x1, x2, x3⟩ := workl xs' l1 hv
  obtain ⟨i1, i2⟩ := P24 xs' l1
  simp only [t1, t2, x1, x2, x3, i1, i2, beq_self_eq_true, Bool.not_true, cond_false, cond_true]
theorem law6 {x0 : AV} (t0 : TA Tryd.prog 39 x0) : m6 [x0] = some (true, .bool true) := by
  obtain ⟨xs, rfl, a1, hx⟩ := tw_sl (ta_one (ct := .sl [.int .i64, .int .i64]) t0 (by kernel_rfl) (by kernel_rfl))
  show (raw6 xs).map (fun r => (true, r)) = _
  rw [raw6_true xs a1 hx]
  rfl

end Go.Proofs.YtiokajbmckcklaaDoor
