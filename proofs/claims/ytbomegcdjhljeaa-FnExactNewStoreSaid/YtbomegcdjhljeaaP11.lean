import Derived.Test.YtbomegcdjhljeaaH11
namespace Go.Proofs.Ytbomegcdjhljeaa
open Go Go.Proofs.VE
set_option linter.unusedVariables false
set_option linter.unusedSimpArgs false

def dI (i : Int) : AV := .int .i64 i
def dS (xs : List AV) (i : Int) : AV := .agg [.int .i64 (fI (xs.getD i.toNat .undef) 0), .int .i64 i, .int .i64 0, .int .i64 (-1)]

def E89 (xs vs : List AV) (i : Int) : List AV → Int ⊕ (Int × List AV)
  | [] => .inl i
  | y :: ys => .inr (i, y :: ys)
def K89 (xs vs : List AV) : List AV → Unit ⊕ List AV
  | [] => .inl ()
  | y :: ys => .inr (y :: ys)
theorem run89 (xs vs : List AV) (h : xs.length ≤ 1048576) : runW (R89_0 xs vs) (((xs.length : Int) - 0).toNat + 1) (E89 xs vs 0 []) = some (K89 xs vs (appF allT (dI) xs.length 0 [])) := by
  refine runW_appK (E89 xs vs) (K89 xs vs) xs.length allT (dI) (fun i ys h0 hn hl => ?_) (fun ys => ?_)
  · have d1 : decide (i < (xs.length : Int)) = true := decide_eq_true hn
    have d2 : decide (0 ≤ i) = true := decide_eq_true h0
    cases ys with
    | nil =>
      have c1 : decide ((([(dI) i] : List AV).length) * 8 ≤ 140737488355328) = true := by simp
      have c2 : decide ((([(dI) i] : List AV).length) ≤ 140737488355328) = true := by simp
      simp only [dI] at c1 c2
      simp only [E89, R89_0, sumE, F89_0_s0, d1, d2, c1, c2, Bool.and_self, cond_true, allT, List.nil_append]
      rw [wrap_in (a := i + 1) (by omega) (by omega)]
      try rfl
    | cons y ys =>
      have hl' : (y :: ys).length ≤ 1048576 := by omega
      have c1 : decide (((y :: ys).length + [(dI) i].length) * 8 ≤ 140737488355328) = true := decide_eq_true (by simp only [List.length_singleton]; omega)
      have c2 : decide ((y :: ys).length + [(dI) i].length ≤ 140737488355328) = true := decide_eq_true (by simp only [List.length_singleton]; omega)
      simp only [dI] at c1 c2
      simp only [E89, R89_0, sumE, F89_0_s1, d1, d2, c1, c2, Bool.and_self, cond_true, allT, List.cons_append]
      rw [wrap_in (a := i + 1) (by omega) (by omega)]
      try rfl
  · cases ys <;> simp only [E89, K89, R89_0, sumE, F89_0_s0, F89_0_s1, Int.lt_irrefl, decide_false, cond_false]

def E86 (xs vs : List AV) (i : Int) : List AV → Int ⊕ (Int × List AV)
  | [] => .inl i
  | y :: ys => .inr (i, y :: ys)
def K86 (xs vs : List AV) : List AV → Unit ⊕ List AV
  | [] => .inl ()
  | y :: ys => .inr (y :: ys)
theorem run86 (xs vs : List AV) (h : xs.length ≤ 1048576) : runW (R86_0 xs.length vs) (((xs.length : Int) - 0).toNat + 1) (E86 xs vs 0 []) = some (K86 xs vs (appF allT (dI) xs.length 0 [])) := by
  refine runW_appK (E86 xs vs) (K86 xs vs) xs.length allT (dI) (fun i ys h0 hn hl => ?_) (fun ys => ?_)
  · have d1 : decide (i < (xs.length : Int)) = true := decide_eq_true hn
    have d2 : decide (0 ≤ i) = true := decide_eq_true h0
    cases ys with
    | nil =>
      have c1 : decide ((([(dI) i] : List AV).length) * 8 ≤ 140737488355328) = true := by simp
      have c2 : decide ((([(dI) i] : List AV).length) ≤ 140737488355328) = true := by simp
      simp only [dI] at c1 c2
      simp only [E86, R86_0, sumE, F86_0_s0, d1, d2, c1, c2, Bool.and_self, cond_true, allT, List.nil_append]
      rw [wrap_in (a := i + 1) (by omega) (by omega)]
      try rfl
    | cons y ys =>
      have hl' : (y :: ys).length ≤ 1048576 := by omega
      have c1 : decide (((y :: ys).length + [(dI) i].length) * 8 ≤ 140737488355328) = true := decide_eq_true (by simp only [List.length_singleton]; omega)
      have c2 : decide ((y :: ys).length + [(dI) i].length ≤ 140737488355328) = true := decide_eq_true (by simp only [List.length_singleton]; omega)
      simp only [dI] at c1 c2
      simp only [E86, R86_0, sumE, F86_0_s1, d1, d2, c1, c2, Bool.and_self, cond_true, allT, List.cons_append]
      rw [wrap_in (a := i + 1) (by omega) (by omega)]
      try rfl
  · cases ys <;> simp only [E86, K86, R86_0, sumE, F86_0_s0, F86_0_s1, Int.lt_irrefl, decide_false, cond_false]

def E51 (xs vs rs ps : List AV) (i : Int) : List AV → (Int × Int × List AV × Int × List AV × List AV) ⊕ (Int × List AV × Int × List AV × Int × List AV × List AV)
  | [] => .inl (i, 0, vs, 0, rs, ps)
  | y :: ys => .inr (i, y :: ys, 0, vs, 0, rs, ps)
def K51 (xs vs rs ps : List AV) : List AV → (Int × List AV × Int × List AV × List AV) ⊕ (List AV × Int × List AV × Int × List AV × List AV)
  | [] => .inl (0, vs, 0, rs, ps)
  | y :: ys => .inr (y :: ys, 0, vs, 0, rs, ps)
theorem run51 (xs vs rs ps : List AV) (h : xs.length ≤ 1048576) : runW (R51_0 xs) (((xs.length : Int) - 0).toNat + 1) (E51 xs vs rs ps 0 []) = some (K51 xs vs rs ps (appF allT (dS xs) xs.length 0 [])) := by
  refine runW_appK (E51 xs vs rs ps) (K51 xs vs rs ps) xs.length allT (dS xs) (fun i ys h0 hn hl => ?_) (fun ys => ?_)
  · have d1 : decide (i < (xs.length : Int)) = true := decide_eq_true hn
    have d2 : decide (0 ≤ i) = true := decide_eq_true h0
    cases ys with
    | nil =>
      have c1 : decide ((([(dS xs) i] : List AV).length) * 32 ≤ 140737488355328) = true := by simp
      have c2 : decide ((([(dS xs) i] : List AV).length) ≤ 140737488355328) = true := by simp
      simp only [dS] at c1 c2
      simp only [E51, R51_0, sumE, F51_0_s0, d1, d2, c1, c2, Bool.and_self, cond_true, allT, List.nil_append]
      rw [wrap_in (a := i + 1) (by omega) (by omega)]
      try rfl
    | cons y ys =>
      have hl' : (y :: ys).length ≤ 1048576 := by omega
      have c1 : decide (((y :: ys).length + [(dS xs) i].length) * 32 ≤ 140737488355328) = true := decide_eq_true (by simp only [List.length_singleton]; omega)
      have c2 : decide ((y :: ys).length + [(dS xs) i].length ≤ 140737488355328) = true := decide_eq_true (by simp only [List.length_singleton]; omega)
      simp only [dS] at c1 c2
      simp only [E51, R51_0, sumE, F51_0_s1, d1, d2, c1, c2, Bool.and_self, cond_true, allT, List.cons_append]
      rw [wrap_in (a := i + 1) (by omega) (by omega)]
      try rfl
  · cases ys <;> simp only [E51, K51, R51_0, sumE, F51_0_s0, F51_0_s1, Int.lt_irrefl, decide_false, cond_false]

def E52 (xs vs rs ps : List AV) (i : Int) : List AV → (Int × Int × List AV × Int × List AV × List AV) ⊕ (Int × List AV × Int × List AV × Int × List AV × List AV)
  | [] => .inl (i, 0, vs, 0, rs, ps)
  | y :: ys => .inr (i, y :: ys, 0, vs, 0, rs, ps)
def K52 (xs vs rs ps : List AV) : List AV → (Int × List AV × Int × List AV × List AV) ⊕ (List AV × Int × List AV × Int × List AV × List AV)
  | [] => .inl (0, vs, 0, rs, ps)
  | y :: ys => .inr (y :: ys, 0, vs, 0, rs, ps)
theorem run52 (xs vs rs ps : List AV) (h : xs.length ≤ 1048576) : runW (R52_0 xs xs.length) (((xs.length : Int) - 0).toNat + 1) (E52 xs vs rs ps 0 []) = some (K52 xs vs rs ps (appF allT (dS xs) xs.length 0 [])) := by
  refine runW_appK (E52 xs vs rs ps) (K52 xs vs rs ps) xs.length allT (dS xs) (fun i ys h0 hn hl => ?_) (fun ys => ?_)
  · have d1 : decide (i < (xs.length : Int)) = true := decide_eq_true hn
    have d2 : decide (0 ≤ i) = true := decide_eq_true h0
    cases ys with
    | nil =>
      have c1 : decide ((([(dS xs) i] : List AV).length) * 32 ≤ 140737488355328) = true := by simp
      have c2 : decide ((([(dS xs) i] : List AV).length) ≤ 140737488355328) = true := by simp
      simp only [dS] at c1 c2
      simp only [E52, R52_0, sumE, F52_0_s0, d1, d2, c1, c2, Bool.and_self, cond_true, allT, List.nil_append]
      rw [wrap_in (a := i + 1) (by omega) (by omega)]
      try rfl
    | cons y ys =>
      have hl' : (y :: ys).length ≤ 1048576 := by omega
      have c1 : decide (((y :: ys).length + [(dS xs) i].length) * 32 ≤ 140737488355328) = true := decide_eq_true (by simp only [List.length_singleton]; omega)
      have c2 : decide ((y :: ys).length + [(dS xs) i].length ≤ 140737488355328) = true := decide_eq_true (by simp only [List.length_singleton]; omega)
      simp only [dS] at c1 c2
      simp only [E52, R52_0, sumE, F52_0_s1, d1, d2, c1, c2, Bool.and_self, cond_true, allT, List.cons_append]
      rw [wrap_in (a := i + 1) (by omega) (by omega)]
      try rfl
  · cases ys <;> simp only [E52, K52, R52_0, sumE, F52_0_s0, F52_0_s1, Int.lt_irrefl, decide_false, cond_false]

def rows (xs : List AV) : List AV := appF allT dI xs.length 0 []
def stamps (xs : List AV) : List AV := appF allT (dS xs) xs.length 0 []
theorem rows_len (xs : List AV) (h : xs.length ≤ 1048576) : (rows xs).length ≤ 1048576 := Nat.le_trans (appF_len _ _ _) (by simpa using h)
theorem stamps_len (xs : List AV) (h : xs.length ≤ 1048576) : (stamps xs).length ≤ 1048576 := Nat.le_trans (appF_len _ _ _) (by simpa using h)
theorem P89 (xs : List AV) (h : xs.length ≤ 1048576) : q89 xs = true ∧ v89_0 xs = (bif v90_0 xs then xs else []) ∧ v89_1 xs = (bif v90_0 xs then rows xs else []) ∧ v89_2 xs = [] := by
  unfold q89 v89_0 v89_1 v89_2
  have hr := run89 xs ([] ++ xs) h
  have c1 : decide ((([] : List AV).length + xs.length) * 8 ≤ 140737488355328) = true := decide_eq_true (by simp; omega)
  have c2 : decide (([] : List AV).length + xs.length ≤ 140737488355328) = true := decide_eq_true (by simp; omega)
  rw [(P90 xs h).1, show (.inl 0 : Int ⊕ (Int × List AV)) = E89 xs ([] ++ xs) 0 [] from rfl, hr, c1, c2]
  change _ ∧ _ ∧ _ = (bif v90_0 xs then (appF allT dI xs.length 0 []) else []) ∧ _
  generalize appF allT dI xs.length 0 [] = ys
  cases v90_0 xs
  · exact ⟨rfl, rfl, rfl, rfl⟩
  · cases ys <;> exact ⟨rfl, rfl, rfl, rfl⟩
theorem P121 (xs : List AV) (h : xs.length ≤ 1048576) : q121 xs = true ∧ v121_0 xs = xs := by
  unfold q121 v121_0
  refine ⟨?_, rfl⟩
  rw [decide_eq_true (by omega : xs.length * 8 ≤ 140737488355328), decide_eq_true (by omega : xs.length ≤ 140737488355328)]
  rfl
theorem P86 (xs : List AV) (h : xs.length ≤ 1048576) : q86 xs = true ∧ v86_0 xs = (bif v90_0 xs then xs else []) ∧ v86_1 xs = (bif v90_0 xs then rows xs else []) ∧ v86_2 xs = [] := by
  unfold q86 v86_0 v86_1 v86_2
  have hr := run86 xs xs h
  rw [(P74 xs h).1, (P74 xs h).2, (P121 xs h).1, (P121 xs h).2, show (.inl 0 : Int ⊕ (Int × List AV)) = E86 xs xs 0 [] from rfl, hr]
  change _ ∧ _ ∧ _ = (bif v90_0 xs then (appF allT dI xs.length 0 []) else []) ∧ _
  generalize appF allT dI xs.length 0 [] = ys
  cases v90_0 xs
  · exact ⟨rfl, rfl, rfl, rfl⟩
  · cases ys <;> exact ⟨rfl, rfl, rfl, rfl⟩
theorem P51 (xs : List AV) (h : xs.length ≤ 1048576) : q51 xs = true ∧ v51_0 xs = (bif v90_0 xs then stamps xs else []) ∧ v51_1 xs = 0 ∧ v51_2 xs = (bif v90_0 xs then xs else []) ∧ v51_3 xs = (bif v90_0 xs then rows xs else []) ∧ v51_4 xs = [] := by
  unfold q51 v51_0 v51_1 v51_2 v51_3 v51_4
  obtain ⟨a1, a2, a3, a4⟩ := P89 xs h
  have hr := run51 xs (v89_0 xs) (v89_1 xs) (v89_2 xs) h
  rw [(P90 xs h).1, a1, show (.inl (0, 0, v89_0 xs, 0, v89_1 xs, v89_2 xs) : (Int × Int × List AV × Int × List AV × List AV) ⊕ (Int × List AV × Int × List AV × Int × List AV × List AV)) = E51 xs (v89_0 xs) (v89_1 xs) (v89_2 xs) 0 [] from rfl, hr, a2, a3, a4]
  change _ ∧ _ = (bif v90_0 xs then (appF allT (dS xs) xs.length 0 []) else []) ∧ _
  generalize appF allT (dS xs) xs.length 0 [] = ys
  cases v90_0 xs
  · exact ⟨rfl, rfl, rfl, rfl, rfl, rfl⟩
  · cases ys <;> exact ⟨rfl, rfl, rfl, rfl, rfl, rfl⟩
theorem P52 (xs : List AV) (h : xs.length ≤ 1048576) : q52 xs = true ∧ v52_0 xs = (bif v90_0 xs then stamps xs else []) ∧ v52_1 xs = 0 ∧ v52_2 xs = (bif v90_0 xs then xs else []) ∧ v52_3 xs = (bif v90_0 xs then rows xs else []) ∧ v52_4 xs = [] := by
  unfold q52 v52_0 v52_1 v52_2 v52_3 v52_4
  obtain ⟨a1, a2, a3, a4⟩ := P86 xs h
  have hr := run52 xs (v86_0 xs) (v86_1 xs) (v86_2 xs) h
  rw [(P74 xs h).1, (P74 xs h).2, a1, show (.inl (0, 0, v86_0 xs, 0, v86_1 xs, v86_2 xs) : (Int × Int × List AV × Int × List AV × List AV) ⊕ (Int × List AV × Int × List AV × Int × List AV × List AV)) = E52 xs (v86_0 xs) (v86_1 xs) (v86_2 xs) 0 [] from rfl, hr, a2, a3, a4]
  change _ ∧ _ = (bif v90_0 xs then (appF allT (dS xs) xs.length 0 []) else []) ∧ _
  generalize appF allT (dS xs) xs.length 0 [] = ys
  cases v90_0 xs
  · exact ⟨rfl, rfl, rfl, rfl, rfl, rfl⟩
  · cases ys <;> exact ⟨rfl, rfl, rfl, rfl, rfl, rfl⟩
theorem P42 (s : List AV) (n : Int) (v r p : List AV) (h0 : s.length ≤ 1048576) (h1 : v.length ≤ 1048576) (h2 : r.length ≤ 1048576) (h3 : p.length ≤ 1048576) : q42 s n v r p s n v r p = true ∧ v42_0 s n v r p s n v r p = true := by
  unfold q42 v42_0 q82 v82_0
  rw [(P81 s s h0).1, (P81 s s h0).2, (P22 v v h1).1, (P22 v v h1).2, (P22 r r h2).1, (P22 r r h2).2, (P117 p p h3).1, (P117 p p h3).2, eqL_self e4_self, eqL_self e1_self, eqL_self e1_self, eqL_self e2_self]
  simp
theorem markheld (s : List AV) (n : Int) (v r p : List AV) (h0 : s.length ≤ 1048576) (h1 : v.length ≤ 1048576) (h2 : r.length ≤ 1048576) (h3 : p.length ≤ 1048576) :
    q53 n 1 s v r p = true ∧ q54 (v53_1 n 1 s v r p) n (v53_2 n 1 s v r p) (v53_3 n 1 s v r p) (v53_4 n 1 s v r p) 1 = true ∧ v54_0 (v53_1 n 1 s v r p) n (v53_2 n 1 s v r p) (v53_3 n 1 s v r p) (v53_4 n 1 s v r p) 1 = v53_0 n 1 s v r p ∧ 0 ≤ v53_0 n 1 s v r p := by
  unfold q54 v54_0 q53 v53_0 v53_1 v53_2 v53_3 v53_4 q98 v98_0 v98_1 v98_2 v98_3 q100 v100_0
  obtain ⟨s', a1, a2, a3, a4, a5⟩ := P97 s 1 h0 (by omega) (by omega)
  obtain ⟨v', b1, b2, b3, b4, b5⟩ := P25 v (1 + 4 * s.length) h1 (by omega) (by omega)
  obtain ⟨r', c1, c2, c3, c4, c5⟩ := P25 r (1 + 4 * s.length + 1 * v.length) h2 (by omega) (by omega)
  obtain ⟨p', d1, d2, d3, d4, d5⟩ := P138 p (1 + 4 * s.length + 1 * v.length + 1 * r.length) h3 (by omega) (by omega)
  obtain ⟨f1, f2⟩ := P99 s' 1 (by omega) (by omega) (by omega) (by rw [a4]; exact a5)
  obtain ⟨g1, g2⟩ := P26 v' (1 + 4 * s.length) (by omega) (by omega) (by omega) (by rw [b4]; exact b5)
  obtain ⟨i1, i2⟩ := P26 r' (1 + 4 * s.length + 1 * v.length) (by omega) (by omega) (by omega) (by rw [c4]; exact c5)
  obtain ⟨j1, j2⟩ := P139 p' (1 + 4 * s.length + 1 * v.length + 1 * r.length) (by omega) (by omega) (by omega) (by rw [d4]; exact d5)
  have n1 : decide ((1 : Int) + 4 * s.length < 0) = false := decide_eq_false (by omega)
  have n2 : decide ((1 : Int) + 4 * s.length + 1 * v.length < 0) = false := decide_eq_false (by omega)
  have n3 : decide ((1 : Int) + 4 * s.length + 1 * v.length + 1 * r.length < 0) = false := decide_eq_false (by omega)
  have n4 : decide ((1 : Int) + 4 * s.length + 1 * v.length + 1 * r.length + 2 * p.length < 0) = false := decide_eq_false (by omega)
  simp only [a1, a2, a3, b1, b2, b3, c1, c2, c3, d1, d2, d3, f1, f2, a4, g1, g2, b4, i1, i2, c4, j1, j2, d4, n1, n2, n3, n4, cond_false, Bool.and_self, true_and]
  omega
theorem law (xs : List AV) : q11 xs = true ∧ v11_0 xs = true := by
  unfold q11 v11_0
  by_cases hx : (xs.length : Int) > 1048576
  · rw [decide_eq_true hx]
    exact ⟨rfl, rfl⟩
  rw [decide_eq_false hx]
  have hxs : xs.length ≤ 1048576 := by omega
  obtain ⟨a3, a4⟩ := P34 xs hxs
  have hl : (xs.map cp34).length ≤ 1048576 := by simpa using hxs
  generalize xs.map cp34 = ys at *
  obtain ⟨b1, b2, b3, b4, b5, b6⟩ := P51 ys hl
  obtain ⟨c1, c2, c3, c4, c5, c6⟩ := P52 ys hl
  have l1 : (bif v90_0 ys then stamps ys else []).length ≤ 1048576 := by cases v90_0 ys; simp; exact stamps_len ys hl
  have l2 : (bif v90_0 ys then ys else []).length ≤ 1048576 := by cases v90_0 ys; simp; exact hl
  have l3 : (bif v90_0 ys then rows ys else []).length ≤ 1048576 := by cases v90_0 ys; simp; exact rows_len ys hl
  generalize (bif v90_0 ys then stamps ys else []) = s at *
  generalize (bif v90_0 ys then ys else []) = v at *
  generalize (bif v90_0 ys then rows ys else []) = r at *
  obtain ⟨e1, e2⟩ := P42 s 0 v r [] l1 l2 l3 (by simp)
  obtain ⟨f1, f2⟩ := P22 ys ys hl
  obtain ⟨us, g1, g2, _, _, _⟩ := P25 ys 1 hl (by omega) (by omega)
  obtain ⟨m1, m2, m3, m4⟩ := markheld s 0 v r [] l1 l2 l3 (by simp)
  have n1 : decide ((1 : Int) + 1 * ys.length < 0) = false := decide_eq_false (by omega)
  have n2 : decide (v53_0 0 1 s v r [] < 0) = false := decide_eq_false (by omega)
  simp only [a3, a4, b1, b2, b3, b4, b5, b6, c1, c2, c3, c4, c5, c6, e1, e2, f1, f2, eqL_self e1_self, g1, g2, m1, m2, m3, n1, n2, decide_true, Bool.not_true, cond_false, Bool.and_self, and_self]
theorem law11 {x0 : AV} (h : TA Try.prog 31 x0) : m11 [x0] = some (true, .bool true) := by
  obtain ⟨xs, rfl, hl, _⟩ := tw_sl (ta_one (ct := .sl [.int .i64]) h (by kernel_rfl) (by kernel_rfl))
  obtain ⟨h1, h2⟩ := law xs
  show (bif ctsEq [.int .i64] [.int .i64] then some (q11 xs, AV.bool (v11_0 xs)) else none) = _
  rw [h1, h2]
  rfl
end Go.Proofs.Ytbomegcdjhljeaa
