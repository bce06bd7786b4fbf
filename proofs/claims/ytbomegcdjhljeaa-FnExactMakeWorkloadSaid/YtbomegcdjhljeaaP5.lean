import Derived.Test.YtbomegcdjhljeaaH5
namespace Go.Proofs.Ytbomegcdjhljeaa
open Go Go.Proofs.VE

theorem tmod_lt (a : Int) : -10007 < Int.tmod a 10007 ∧ Int.tmod a 10007 < 10007 := by
  have h1 := Int.tmod_lt_of_pos a (show (0 : Int) < 10007 by omega)
  have h2 := Int.tmod_lt_of_pos (-a) (show (0 : Int) < 10007 by omega)
  rw [Int.neg_tmod] at h2
  omega
theorem seed (x : Int) : v67_0 x = v70_0 x := by
  unfold v67_0 v70_0
  obtain ⟨h1, h2⟩ := tmod_lt x
  generalize Int.tmod x 10007 = r at *
  rw [wrap_in (a := r + 10007) (by omega) (by omega)]
  by_cases h : r < 0
  · rw [decide_eq_true h, cond_true]
    rw [Int.tmod_eq_emod_of_nonneg (a := r + 10007) (by omega), Int.emod_eq_of_lt (by omega) (by omega)]
  · rw [decide_eq_false h, cond_false]
    rw [Int.tmod_eq_emod_of_nonneg (a := r + 10007) (by omega), show (r + 10007) % 10007 = r by omega]

theorem q67t (x : Int) : q67 x = true := by unfold q67; rfl
theorem q70t (x : Int) : q70 x = true := by unfold q70; cases decide (Int.tmod x 10007 < 0) <;> rfl
def gW (k lo hi c i : Int) (s : Int × Int × Int × List AV) : Int × Int × Int × List AV :=
  bif decide (k = 0) then (v70_0 (v70_0 s.1), s.2.1, s.2.2.1, s.2.2.2 ++ [AV.agg [AV.int .i64 (if v69_0 (v70_0 s.1) lo hi < v69_0 s.1 lo hi then v69_0 (v70_0 s.1) lo hi else v69_0 s.1 lo hi), AV.int .i64 (if v69_0 (v70_0 s.1) lo hi > v69_0 s.1 lo hi then v69_0 (v70_0 s.1) lo hi else v69_0 s.1 lo hi)]])
  else bif decide (k = 1) then (s.1, s.2.1, s.2.2.1, s.2.2.2 ++ [AV.agg [AV.int .i64 (IntKind.i64.wrap (lo + IntKind.i64.wrap (Int.tdiv (IntKind.i64.wrap (IntKind.i64.wrap (hi - lo) * i)) c))), AV.int .i64 (IntKind.i64.wrap (lo + IntKind.i64.wrap (Int.tdiv (IntKind.i64.wrap (IntKind.i64.wrap (hi - lo) * IntKind.i64.wrap (i + 1))) c)))]])
  else (s.1, IntKind.i64.wrap (s.2.1 + IntKind.i64.wrap (Int.tdiv (IntKind.i64.wrap (s.2.2.1 - s.2.1)) 4)), IntKind.i64.wrap (s.2.2.1 - IntKind.i64.wrap (Int.tdiv (IntKind.i64.wrap (s.2.2.1 - s.2.1)) 4)), s.2.2.2 ++ [AV.agg [AV.int .i64 s.2.1, AV.int .i64 s.2.2.1]])
theorem gW_len (k lo hi c i : Int) (s : Int × Int × Int × List AV) : (gW k lo hi c i s).2.2.2.length = s.2.2.2.length + 1 := by
  unfold gW
  cases decide (k = 0) <;> cases decide (k = 1) <;> simp
theorem stepS (k lo hi c i : Int) (s : Int × Int × Int × List AV) (hk : k = 0 ∨ k = 1 ∨ k = 2) (h1 : -1000 ≤ lo) (h2 : lo ≤ hi) (h3 : hi ≤ 1000) (hc : c ≤ 30) (h0 : 0 ≤ i) (hn : i < c) (hl : (s.2.2.2.length : Int) ≤ i) :
    R27_0 k lo hi c (s.1, s.2.1, s.2.2.1, i, s.2.2.2) = .next ((gW k lo hi c i s).1, (gW k lo hi c i s).2.1, (gW k lo hi c i s).2.2.1, i + 1, (gW k lo hi c i s).2.2.2) := by
  have e1 : (!decide (IntKind.i64.wrap (IntKind.i64.wrap (hi - lo) + 1) = 0)) = true := by
    rw [wrap_in (a := hi - lo) (by omega) (by omega), wrap_in (a := hi - lo + 1) (by omega) (by omega)]
    simp; omega
  have e2 : (!decide (c = 0)) = true := by simp; omega
  have c1 : ∀ y : AV, decide ((s.2.2.2.length + [y].length) * 16 ≤ 140737488355328) = true := fun y => by simp only [List.length_singleton]; exact decide_eq_true (by omega)
  have c2 : ∀ y : AV, decide (s.2.2.2.length + [y].length ≤ 140737488355328) = true := fun y => by simp only [List.length_singleton]; exact decide_eq_true (by omega)
  rcases hk with rfl | rfl | rfl
  · simp only [R27_0, F27_0, gW, hn, e1, q67t, c1, c2, seed, Bool.and_self, show decide ((0 : Int) = 0) = true from rfl, cond_true, decide_true]
    rw [wrap_in (a := i + 1) (by omega) (by omega)]
    try rfl
  · simp only [R27_0, F27_0, gW, hn, e2, c1, c2, Bool.and_self, show decide ((1 : Int) = 0) = false from rfl, show decide ((1 : Int) = 1) = true from rfl, cond_true, cond_false, decide_true]
    rw [wrap_in (a := i + 1) (by omega) (by omega)]
    try rfl
  · simp only [R27_0, F27_0, gW, hn, c1, c2, Bool.and_self, show decide ((2 : Int) = 0) = false from rfl, show decide ((2 : Int) = 1) = false from rfl, show decide ((4 : Int) = 0) = false from rfl, Bool.not_false, cond_true, cond_false, decide_true]
    rw [wrap_in (a := i + 1) (by omega) (by omega)]
    try rfl
theorem q69t (x lo hi : Int) (h1 : -1000 ≤ lo) (h2 : lo ≤ hi) (h3 : hi ≤ 1000) : q69 x lo hi = true := by
  unfold q69
  rw [q70t, wrap_in (a := hi - lo) (by omega) (by omega), wrap_in (a := hi - lo + 1) (by omega) (by omega)]
  simp; omega
theorem stepI (k lo hi c i : Int) (s : Int × Int × Int × List AV) (hk : k = 0 ∨ k = 1 ∨ k = 2) (h1 : -1000 ≤ lo) (h2 : lo ≤ hi) (h3 : hi ≤ 1000) (hc : c ≤ 30) (h0 : 0 ≤ i) (hn : i < c) (hl : (s.2.2.2.length : Int) ≤ i) :
    R28_0 k c c (i, s.1, lo, hi, s.2.2.2, s.2.1, s.2.2.1) = .next (i + 1, (gW k lo hi c i s).1, lo, hi, (gW k lo hi c i s).2.2.2, (gW k lo hi c i s).2.1, (gW k lo hi c i s).2.2.1) := by
  have e2 : (!decide (c = 0)) = true := by simp; omega
  have c1 : ∀ y : AV, decide ((s.2.2.2.length + [y].length) * 16 ≤ 140737488355328) = true := fun y => by simp only [List.length_singleton]; exact decide_eq_true (by omega)
  have c2 : ∀ y : AV, decide (s.2.2.2.length + [y].length ≤ 140737488355328) = true := fun y => by simp only [List.length_singleton]; exact decide_eq_true (by omega)
  rcases hk with rfl | rfl | rfl
  · simp only [R28_0, F28_0, gW, hn, c1, c2, v69_1, v69_2, v69_3, q69t _ lo hi h1 h2 h3, Bool.and_self, show decide ((0 : Int) = 0) = true from rfl, cond_true, decide_true]
    rw [wrap_in (a := i + 1) (by omega) (by omega)]
    try rfl
  · simp only [R28_0, F28_0, gW, hn, e2, c1, c2, Bool.and_self, show decide ((1 : Int) = 0) = false from rfl, show decide ((1 : Int) = 1) = true from rfl, cond_true, cond_false, decide_true]
    rw [wrap_in (a := i + 1) (by omega) (by omega)]
    try rfl
  · simp only [R28_0, F28_0, gW, hn, c1, c2, Bool.and_self, show decide ((2 : Int) = 0) = false from rfl, show decide ((2 : Int) = 1) = false from rfl, show decide ((2 : Int) = 2) = true from rfl, show decide ((4 : Int) = 0) = false from rfl, Bool.not_false, cond_true, cond_false, decide_true]
    rw [wrap_in (a := i + 1) (by omega) (by omega)]
    try rfl
theorem fold_len (k lo hi c : Int) : ∀ (m : Nat) (i : Int) (s : Int × Int × Int × List AV), (foldF (gW k lo hi c) m i s).2.2.2.length = s.2.2.2.length + m
  | 0, _, _ => rfl
  | m + 1, i, s => by
    show (foldF (gW k lo hi c) m (i + 1) (gW k lo hi c i s)).2.2.2.length = _
    rw [fold_len k lo hi c m, gW_len]; omega
def isW (k lo hi c : Int) : Bool := decide (0 ≤ k) && decide (k ≤ 2) && (decide (-1000 ≤ lo) && decide (lo ≤ 1000)) && (decide (lo ≤ hi) && decide (hi ≤ 1000)) && (decide (0 ≤ c) && decide (c ≤ 30))
def W (k lo hi c x : Int) : List AV := bif isW k lo hi c then (foldF (gW k lo hi c) c.toNat 0 (x, lo, hi, [])).2.2.2 else []
theorem W_len (k lo hi c x : Int) : (W k lo hi c x).length ≤ 1048576 := by
  unfold W isW
  by_cases h : c ≤ 30
  · cases (decide (0 ≤ k) && decide (k ≤ 2) && (decide (-1000 ≤ lo) && decide (lo ≤ 1000)) && (decide (lo ≤ hi) && decide (hi ≤ 1000)) && (decide (0 ≤ c) && decide (c ≤ 30)))
    · simp
    · rw [cond_true, fold_len]; simp; omega
  · simp [h]
theorem isW_spec {k lo hi c : Int} (h : isW k lo hi c = true) : (k = 0 ∨ k = 1 ∨ k = 2) ∧ -1000 ≤ lo ∧ lo ≤ hi ∧ hi ≤ 1000 ∧ 0 ≤ c ∧ c ≤ 30 := by
  simp only [isW, Bool.and_eq_true, decide_eq_true_eq] at h
  omega
theorem P27 (k lo hi c x : Int) : q27 k lo hi c x = true ∧ v27_0 k lo hi c x = W k lo hi c x := by
  cases h : isW k lo hi c with
  | true =>
    obtain ⟨hk, h1, h2, h3, h4, h5⟩ := isW_spec h
    have hr := runW_fold (f := R27_0 k lo hi c) (fun i (s : Int × Int × Int × List AV) => (s.1, s.2.1, s.2.2.1, i, s.2.2.2)) c (gW k lo hi c) (fun s => s.2.2.2) (fun i s => (s.2.2.2.length : Int) ≤ i)
      (fun i s h0 hn hl => ⟨stepS k lo hi c i s hk h1 h2 h3 h5 h0 hn hl, by rw [gW_len]; omega⟩) (fun s _ => by simp only [R27_0, F27_0, Int.lt_irrefl, decide_false, cond_false]) c.toNat ((c - 0).toNat + 1) 0 (x, lo, hi, []) (Int.le_refl 0) (by omega) (by omega) (by simp)
    have hw : W k lo hi c x = (foldF (gW k lo hi c) c.toNat 0 (x, lo, hi, [])).2.2.2 := by unfold W; rw [h]; rfl
    simp only [isW, Bool.and_eq_true] at h
    obtain ⟨⟨⟨⟨a1, a2⟩, a3, a4⟩, a5, a6⟩, a7, a8⟩ := h
    unfold q27 v27_0
    simp only [v66, a1, a2, a3, a4, a5, a6, a7, a8, Bool.and_self, Bool.not_true, cond_false]
    simp only at hr
    rw [hr, hw]
    exact ⟨rfl, rfl⟩
  | false =>
    have hw : W k lo hi c x = [] := by unfold W; rw [h]; rfl
    rw [hw]
    unfold q27 v27_0
    simp only [v66]
    unfold isW at h
    cases e1 : (decide (0 ≤ k) && decide (k ≤ 2)) with
    | false => exact ⟨rfl, rfl⟩
    | true =>
      cases e2 : (decide (-1000 ≤ lo) && decide (lo ≤ 1000)) with
      | false => exact ⟨rfl, rfl⟩
      | true =>
        cases e3 : (decide (lo ≤ hi) && decide (hi ≤ 1000)) with
        | false => exact ⟨rfl, rfl⟩
        | true =>
          rw [e1, e2, e3] at h
          simp only [Bool.true_and] at h
          rw [h]
          exact ⟨rfl, rfl⟩
theorem P28 (k lo hi c x : Int) : q28 k lo hi c x = true ∧ v28_0 k lo hi c x = W k lo hi c x := by
  cases h : isW k lo hi c with
  | true =>
    obtain ⟨hk, h1, h2, h3, h4, h5⟩ := isW_spec h
    have hr := runW_fold (f := R28_0 k c c) (fun i (s : Int × Int × Int × List AV) => (i, s.1, lo, hi, s.2.2.2, s.2.1, s.2.2.1)) c (gW k lo hi c) (fun s => (s.1, lo, hi, s.2.2.2, s.2.1, s.2.2.1)) (fun i s => (s.2.2.2.length : Int) ≤ i)
      (fun i s h0 hn hl => ⟨stepI k lo hi c i s hk h1 h2 h3 h5 h0 hn hl, by rw [gW_len]; omega⟩) (fun s _ => by simp only [R28_0, F28_0, Int.lt_irrefl, decide_false, cond_false]) c.toNat ((c - 0).toNat + 1) 0 (x, lo, hi, []) (Int.le_refl 0) (by omega) (by omega) (by simp)
    have hw : W k lo hi c x = (foldF (gW k lo hi c) c.toNat 0 (x, lo, hi, [])).2.2.2 := by unfold W; rw [h]; rfl
    have g1 : decide (k < 0) = false := decide_eq_false (by omega)
    have g2 : decide (k > 2) = false := decide_eq_false (by omega)
    have g3 : v68_0 lo hi = true := by unfold v68_0; simp [h1, h2, h3]
    have g4 : decide (c < 0) = false := decide_eq_false (by omega)
    have g5 : decide (c > 30) = false := decide_eq_false (by omega)
    unfold q28 v28_0
    simp only [g1, g2, g3, g4, g5, Bool.not_true, cond_false]
    simp only at hr
    rw [hr, hw]
    exact ⟨rfl, rfl⟩
  | false =>
    have hw : W k lo hi c x = [] := by unfold W; rw [h]; rfl
    rw [hw]
    unfold q28 v28_0
    by_cases g1 : k < 0
    · rw [decide_eq_true g1]; exact ⟨rfl, rfl⟩
    rw [decide_eq_false g1]
    by_cases g2 : k > 2
    · rw [decide_eq_true g2]; exact ⟨rfl, rfl⟩
    rw [decide_eq_false g2]
    cases g3 : v68_0 lo hi with
    | false => exact ⟨rfl, rfl⟩
    | true =>
      by_cases g4 : c < 0
      · rw [decide_eq_true g4]; exact ⟨rfl, rfl⟩
      rw [decide_eq_false g4]
      by_cases g5 : c > 30
      · rw [decide_eq_true g5]; exact ⟨rfl, rfl⟩
      exfalso
      have b1 : -1000 ≤ lo ∧ lo ≤ hi ∧ hi ≤ 1000 := by
        unfold v68_0 at g3
        by_cases x1 : -1000 ≤ lo <;> by_cases x2 : lo ≤ hi <;> by_cases x3 : hi ≤ 1000 <;> simp [x1, x2, x3] at g3 ⊢
      have : isW k lo hi c = true := by
        simp only [isW, Bool.and_eq_true, decide_eq_true_eq]
        omega
      rw [this] at h
      cases h
theorem law (k lo hi c x : Int) : q5 k lo hi c x = true ∧ v5_0 k lo hi c x = true := by
  unfold q5 v5_0
  obtain ⟨b1, b2⟩ := P27 k lo hi c x
  obtain ⟨c1, c2⟩ := P28 k lo hi c x
  have hz := W_len k lo hi c x
  generalize W k lo hi c x = zs at *
  obtain ⟨e1, e2⟩ := P17 zs hz
  obtain ⟨vs, h1, h2, h3, h4, h5⟩ := P29 zs 1 hz (by omega) (by omega)
  obtain ⟨i1, i2⟩ := P30 vs 1 (by omega) (by omega) (by omega) (by rw [h4]; exact h5)
  have n3 : decide ((1 : Int) + 2 * zs.length < 0) = false := decide_eq_false (by omega)
  simp only [b1, b2, c1, c2, e1, e2, h1, h2, h3, i1, i2, h4, n3, decide_true, Bool.not_true, cond_false, Bool.and_self, and_self]
theorem law5 {x0 x1 x2 x3 x4 : AV} (t0 : TA Try.prog 3 x0) (t1 : TA Try.prog 3 x1) (t2 : TA Try.prog 3 x2) (t3 : TA Try.prog 3 x3) (t4 : TA Try.prog 3 x4) : m5 [x0, x1, x2, x3, x4] = some (true, .bool true) := by
  obtain ⟨k, rfl, _⟩ := tw_int (ta_one (ct := .int .i64) t0 (by kernel_rfl) (by kernel_rfl))
  obtain ⟨lo, rfl, _⟩ := tw_int (ta_one (ct := .int .i64) t1 (by kernel_rfl) (by kernel_rfl))
  obtain ⟨hi, rfl, _⟩ := tw_int (ta_one (ct := .int .i64) t2 (by kernel_rfl) (by kernel_rfl))
  obtain ⟨c, rfl, _⟩ := tw_int (ta_one (ct := .int .i64) t3 (by kernel_rfl) (by kernel_rfl))
  obtain ⟨x, rfl, _⟩ := tw_int (ta_one (ct := .int .i64) t4 (by kernel_rfl) (by kernel_rfl))
  obtain ⟨h1, h2⟩ := law k lo hi c x
  show some (q5 k lo hi c x, AV.bool (v5_0 k lo hi c x)) = _
  rw [h1, h2]
end Go.Proofs.Ytbomegcdjhljeaa
