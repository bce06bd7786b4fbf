/- the law: QueryVersion -/
import Derived.Test.YtmlhhemflhiinaaGreatQVo
namespace Go.Proofs.YtmlhhemflhiinaaGreat
open Go Go.Proofs.VE
set_option linter.unusedVariables false
set_option linter.unusedSimpArgs false

theorem isR_eq (a b : Int) : v42_0 a b = v34_0 a b := by
  unfold v42_0 v34_0
  rw [v23, v23]
  by_cases h1 : -1000 ≤ a <;> by_cases h2 : a ≤ b <;> by_cases h3 : b ≤ 1000 <;> simp [h1, h2, h3] <;> omega
theorem isR_of {a b : Int} (h : v34_0 a b = true) : -1000 ≤ a ∧ a ≤ b ∧ b ≤ 1000 := by
  unfold v34_0 at h
  rw [v23, v23] at h
  cases hc : (decide (-1000 ≤ a) && decide (a ≤ 1000)) with
  | false => rw [hc] at h; cases h
  | true =>
    rw [hc] at h
    simp only [cond_true, Bool.and_eq_true, decide_eq_true_eq] at h hc
    exact ⟨hc.1, h.1, h.2⟩
/-- SelectRange, both. -/
theorem same67 (vs rs ps : List AV) (a b : Int) (h1 : vs.length ≤ 1048576) (h2 : rs.length ≤ 1048576) (h3 : ps.length ≤ 1048576) (hN : N2 ps) :
    (q67 vs rs ps a b = true ∧ q75 vs rs ps a b = true) ∧ (v75_0 vs rs ps a b = v67_0 vs rs ps a b ∧ v75_1 vs rs ps a b = v67_1 vs rs ps a b ∧ v75_2 vs rs ps a b = v67_2 vs rs ps a b ∧ v75_3 vs rs ps a b = v67_3 vs rs ps a b ∧ v75_4 vs rs ps a b = v67_4 vs rs ps a b) ∧
      ((v67_0 vs rs ps a b).length ≤ 1048576 ∧ (v67_1 vs rs ps a b).length ≤ 1048576 ∧ (v67_2 vs rs ps a b).length ≤ 1048576) := by
  obtain ⟨m1, m2⟩ := P65 vs rs ps h1 h2 h3
  obtain ⟨n1, n2⟩ := P73 vs rs ps h1 h2 h3
  obtain ⟨c0, c1, c2, c3⟩ := P64 vs rs ps h1 h2 h3
  obtain ⟨d0, d1, d2, d3⟩ := P72 vs rs ps h1 h2 h3
  unfold q67 q75 v67_0 v67_1 v67_2 v67_3 v67_4 v75_0 v75_1 v75_2 v75_3 v75_4
  rw [m1, m2, n1, n2, c0, c1, c2, c3, d0, d1, d2, d3, isR_eq]
  cases hc : isC vs rs ps with
  | false =>
    simp only [Bool.not_false, cond_true, Bool.and_self]
    exact ⟨⟨trivial, trivial⟩, ⟨trivial, trivial, trivial, trivial, trivial⟩, h1, h2, h3⟩
  | true =>
    cases hr : v34_0 a b with
    | false =>
      simp only [Bool.not_false, Bool.not_true, cond_true, cond_false, Bool.and_self]
      exact ⟨⟨trivial, trivial⟩, ⟨trivial, trivial, trivial, trivial, trivial⟩, h1, h2, h3⟩
    | true =>
      obtain ⟨r1, r2, r3⟩ := isR_of hr
      have hcol := (isC_iff vs rs ps h1).1 hc
      obtain ⟨u1, u2, u3, u4, u5, u6, u7⟩ := roundC hcol hN (v := a) ⟨r1, by omega⟩
      obtain ⟨w1, w2, w3, w4, w5, w6, w7⟩ := roundC u6 u7 (v := b) ⟨by omega, r3⟩
      rw [u2, u3, u4, u5, w2, w3, w4, w5, u1, w1]
      generalize v91_0 (v91_0 vs rs ps a) (v91_1 vs rs ps a) (v91_2 vs rs ps a) b = X at *
      generalize v91_1 (v91_0 vs rs ps a) (v91_1 vs rs ps a) (v91_2 vs rs ps a) b = Y at *
      generalize v91_2 (v91_0 vs rs ps a) (v91_1 vs rs ps a) (v91_2 vs rs ps a) b = Z at *
      have k1 := w6.n64
      have k2 := w6.len
      have k3 := col_few w6
      obtain ⟨x1, x2, _⟩ := P83 X Y Z a (by omega)
      obtain ⟨y1, y2, _⟩ := P83 X Y Z b (by omega)
      obtain ⟨x1', x2', _⟩ := P98 X Y Z a (by omega)
      obtain ⟨y1', y2', _⟩ := P98 X Y Z b (by omega)
      rw [x1, x2, y1, y2, x1', x2', y1', y2']
      simp only [Bool.not_true, cond_false, Bool.and_self]
      exact ⟨⟨trivial, trivial⟩, ⟨trivial, trivial, trivial, trivial, trivial⟩, by omega, by omega, by omega⟩
/-- RowsBetween, both: the same numbers. -/
theorem same68 (vs rs ps : List AV) (a b : Int) (h1 : vs.length ≤ 1048576) (h2 : rs.length ≤ 1048576) (h3 : ps.length ≤ 1048576) :
    q68 vs rs ps a b = true ∧ q76 vs rs ps a b = true ∧ ints (v76_0 vs rs ps a b) = ints (v68_0 vs rs ps a b) ∧ (v68_0 vs rs ps a b).length ≤ 1048576 := by
  obtain ⟨m1, m2⟩ := P65 vs rs ps h1 h2 h3
  obtain ⟨n1, n2⟩ := P73 vs rs ps h1 h2 h3
  unfold q68 q76 v68_0 v76_0
  rw [m1, m2, n1, n2, v23]
  have hl : ((rs.take (Int.toNat b)).drop (Int.toNat a)).length ≤ 1048576 := by rw [List.length_drop, List.length_take]; omega
  obtain ⟨k1, k2, k3⟩ := P92 _ hl
  obtain ⟨l1, l2, l3⟩ := P99 _ hl
  cases isC vs rs ps with
  | false =>
    simp only [Bool.not_false, cond_true, Bool.and_self]
    exact ⟨trivial, trivial, trivial, by simp⟩
  | true =>
    by_cases c1 : 0 ≤ a
    · by_cases c2 : a ≤ b
      · rw [decide_eq_true c1, decide_eq_true c2, decide_eq_false (show ¬ a < 0 by omega), decide_eq_false (show ¬ a > b by omega)]
        by_cases c3 : b > (rs.length : Int)
        · rw [decide_eq_true c3]
          simp only [Bool.not_true, Bool.and_self, cond_true, cond_false]
          exact ⟨trivial, trivial, trivial, by simp⟩
        · rw [decide_eq_false c3, decide_eq_true (show b ≤ (rs.length : Int) by omega), k1, l1]
          simp only [Bool.not_true, Bool.and_self, cond_false]
          exact ⟨trivial, trivial, l3.trans k3.symm, by rw [k2]; exact hl⟩
      · rw [decide_eq_true c1, decide_eq_false c2, decide_eq_false (show ¬ a < 0 by omega), decide_eq_true (show a > b by omega)]
        simp only [Bool.not_true, Bool.not_false, Bool.and_false, Bool.and_self, cond_true, cond_false]
        exact ⟨trivial, trivial, trivial, by simp⟩
    · rw [decide_eq_false c1, decide_eq_true (show a < 0 by omega)]
      simp only [Bool.not_true, Bool.not_false, Bool.false_and, Bool.and_self, cond_true, cond_false]
      exact ⟨trivial, trivial, trivial, by simp⟩
/-- AnswerRange, both. -/
theorem same35 (vs rs ps : List AV) (a b : Int) (h1 : vs.length ≤ 1048576) (h2 : rs.length ≤ 1048576) (h3 : ps.length ≤ 1048576) (hN : N2 ps) :
    (q35 vs rs ps a b = true ∧ q43 vs rs ps a b = true) ∧ (v43_0 vs rs ps a b = v35_0 vs rs ps a b ∧ v43_1 vs rs ps a b = v35_1 vs rs ps a b ∧ v43_2 vs rs ps a b = v35_2 vs rs ps a b ∧ ints (v43_3 vs rs ps a b) = ints (v35_3 vs rs ps a b)) ∧
      ((v35_0 vs rs ps a b).length ≤ 1048576 ∧ (v35_1 vs rs ps a b).length ≤ 1048576 ∧ (v35_2 vs rs ps a b).length ≤ 1048576 ∧ (v35_3 vs rs ps a b).length ≤ 1048576) := by
  obtain ⟨⟨x1, x2⟩, ⟨x3, x4, x5, x6, x7⟩, g0, g1, g2⟩ := same67 vs rs ps a b h1 h2 h3 hN
  obtain ⟨y1, y2, y3, y4⟩ := same68 (v67_0 vs rs ps a b) (v67_1 vs rs ps a b) (v67_2 vs rs ps a b) (v67_3 vs rs ps a b) (v67_4 vs rs ps a b) g0 g1 g2
  unfold q35 q43 v35_0 v35_1 v35_2 v35_3 v43_0 v43_1 v43_2 v43_3
  rw [x1, x2, x3, x4, x5, x6, x7, y1, y2]
  exact ⟨⟨rfl, rfl⟩, ⟨rfl, rfl, rfl, y3⟩, g0, g1, g2, y4⟩
theorem hasI_ints {xs ys : List AV} (h : ints xs = ints ys) (x : Int) : hasI xs x = hasI ys x := by
  have hl : xs.length = ys.length := by rw [← ints_len xs, ← ints_len ys, h]
  rw [Bool.eq_iff_iff, hasI_iff, hasI_iff]
  constructor
  · rintro ⟨j, h1, h2, h3⟩
    exact ⟨j, h1, by omega, by rw [← el_ints h j h1 h2]; exact h3⟩
  · rintro ⟨j, h1, h2, h3⟩
    exact ⟨j, h1, by omega, by rw [el_ints h j h1 (by omega)]; exact h3⟩
def pA (rows ss : List AV) (t : Int) (i : Int) : Bool := hasI rows (fI (ss.getD i.toNat .undef) 1) && v37_0 (fI (ss.getD i.toNat .undef) 0) (fI (ss.getD i.toNat .undef) 1) (fI (ss.getD i.toNat .undef) 2) (fI (ss.getD i.toNat .undef) 3) t
def dA (ss : List AV) (i : Int) : AV := .int .i64 (fI (ss.getD i.toNat .undef) 1)
theorem room8 (X : List AV) (a : AV) (h : X.length ≤ 1048577) : (decide ((X.length + [a].length) * 8 ≤ 140737488355328) && decide (X.length + [a].length ≤ 140737488355328)) = true := by
  simp only [List.length_singleton, Bool.and_eq_true, decide_eq_true_eq]
  omega
theorem run13 (t : Int) (h0 h1 ss : List AV) (n : Int) (v r p h3 h4 : List AV) (h5 h6 : Int) (rows : List AV) (hs : ss.length ≤ 1048576) (hr : rows.length ≤ 1048576) :
    runW (R13_0 t h0 h1 ss n v r p h3 h4 h5 h6 rows) (((ss.length : Int) - 0).toNat + 1) (0, []) = some (appF (pA rows ss t) (dA ss) ss.length 0 []) := by
  refine runW_appK (fun i ys => (i, ys)) (fun ys => ys) ss.length (pA rows ss t) (dA ss) (fun i ys i0 hn hl => ?_) (fun ys => ?_)
  · have d1 : decide (i < (ss.length : Int)) = true := decide_eq_true hn
    have d2 : decide (0 ≤ i) = true := decide_eq_true i0
    simp only [R13_0, F13_0, d1, d2, (P36 rows _ hr).1, (P36 rows _ hr).2, room8 ys _ (by omega), pA, Bool.and_self, cond_true]
    rw [wrap_in (a := i + 1) (by omega) (by omega)]
    cases hasI rows (fI (ss.getD i.toNat .undef) 1) <;> cases v37_0 (fI (ss.getD i.toNat .undef) 0) (fI (ss.getD i.toNat .undef) 1) (fI (ss.getD i.toNat .undef) 2) (fI (ss.getD i.toNat .undef) 3) t <;> rfl
  · simp only [R13_0, F13_0, Int.lt_irrefl, decide_false, cond_false]
theorem run16 (t : Int) (ss h0 h1 h2 h3 : List AV) (h4 h5 : Int) (rows rows' : List AV) (hs : ss.length ≤ 1048576) (hr : rows.length ≤ 1048576) (he : ints rows = ints rows') :
    runW (R16_0 t ss ss.length h0 h1 h2 h3 h4 h5 rows) (((ss.length : Int) - 0).toNat + 1) (0, []) = some (appF (pA rows' ss t) (dA ss) ss.length 0 []) := by
  refine runW_appK (fun i ys => (i, ys)) (fun ys => ys) ss.length (pA rows' ss t) (dA ss) (fun i ys i0 hn hl => ?_) (fun ys => ?_)
  · have d1 : decide (i < (ss.length : Int)) = true := decide_eq_true hn
    have d2 : decide (0 ≤ i) = true := decide_eq_true i0
    have e44 : ∀ a b c d : Int, v44_0 a b c d t = v37_0 a b c d t := fun a b c d => rfl
    simp only [R16_0, F16_0, d1, d2, e44, (P45 rows _ hr).1, (P45 rows _ hr).2, hasI_ints he, room8 ys _ (by omega), pA, Bool.and_self, cond_true]
    rw [wrap_in (a := i + 1) (by omega) (by omega)]
    cases hasI rows' (fI (ss.getD i.toNat .undef) 1) <;> cases v37_0 (fI (ss.getD i.toNat .undef) 0) (fI (ss.getD i.toNat .undef) 1) (fI (ss.getD i.toNat .undef) 2) (fI (ss.getD i.toNat .undef) 3) t <;> rfl
  · simp only [R16_0, F16_0, Int.lt_irrefl, decide_false, cond_false]
/-- QueryVersion, both. -/
theorem same13 (s : List AV) (n : Int) (v r p : List AV) (t a b : Int) (h0 : s.length ≤ 1048576) (h1 : v.length ≤ 1048576) (h2 : r.length ≤ 1048576) (h3 : p.length ≤ 1048576) (hN : N2 p) :
    (q13 s n v r p t a b = true ∧ q16 s n v r p t a b = true) ∧ (v16_0 s n v r p t a b = v13_0 s n v r p t a b ∧ v16_1 s n v r p t a b = v13_1 s n v r p t a b ∧ v16_2 s n v r p t a b = v13_2 s n v r p t a b ∧ v16_3 s n v r p t a b = v13_3 s n v r p t a b ∧ v16_4 s n v r p t a b = v13_4 s n v r p t a b ∧ v16_5 s n v r p t a b = v13_5 s n v r p t a b ∧ v16_6 s n v r p t a b = v13_6 s n v r p t a b) ∧
      ((v13_0 s n v r p t a b).length ≤ 1048576 ∧ (v13_2 s n v r p t a b).length ≤ 1048576 ∧ (v13_3 s n v r p t a b).length ≤ 1048576 ∧ (v13_4 s n v r p t a b).length ≤ 1048576 ∧ (v13_5 s n v r p t a b).length ≤ 1048576) := by
  obtain ⟨e0, e1, e2, e3, e4, e5⟩ := P32 s n v r p h0 h1 h2 h3
  obtain ⟨f0, f1, f2, f3, f4, f5⟩ := P40 s n v r p h0 h1 h2 h3
  obtain ⟨⟨x1, x2⟩, ⟨x3, x4, x5, x6⟩, g0, g1, g2, g3⟩ := same35 v r p a b h1 h2 h3 hN
  have g3' : (v43_3 v r p a b).length ≤ 1048576 := by rw [← ints_len, x6, ints_len]; exact g3
  unfold q13 q16 v13_0 v13_1 v13_2 v13_3 v13_4 v13_5 v13_6 v16_0 v16_1 v16_2 v16_3 v16_4 v16_5 v16_6
  rw [e0, e1, e2, e3, e4, e5, f0, f1, f2, f3, f4, f5, (P33 s n v r p h0 h1 h2 h3).1, (P33 s n v r p h0 h1 h2 h3).2, (P41 s n v r p h0 h1 h2 h3).1, (P41 s n v r p h0 h1 h2 h3).2, isR_eq, v23, x1, x2, x3, x4, x5, run13 _ _ _ _ _ _ _ _ _ _ _ _ _ h0 g3, run16 _ _ _ _ _ _ _ _ _ _ h0 g3' x6]
  have hla := appF_len (p := pA (v35_3 v r p a b) s t) (c := dA s) s.length 0 []
  simp only [List.length_nil] at hla
  cases isS s n v r p with
  | false =>
    simp only [Bool.not_false, cond_true, Bool.and_self]
    exact ⟨⟨trivial, trivial⟩, ⟨trivial, trivial, trivial, trivial, trivial, trivial, trivial⟩, h0, h1, h2, h3, by simp⟩
  | true =>
    cases v34_0 a b with
    | false =>
      simp only [Bool.not_false, Bool.not_true, cond_true, cond_false, Bool.and_self]
      exact ⟨⟨trivial, trivial⟩, ⟨trivial, trivial, trivial, trivial, trivial, trivial, trivial⟩, h0, h1, h2, h3, by simp⟩
    | true =>
      by_cases c1 : 0 ≤ t
      · rw [decide_eq_true c1, decide_eq_false (show ¬ t < 0 by omega)]
        by_cases c2 : t ≤ n
        · rw [decide_eq_true c2, decide_eq_false (show ¬ t > n by omega)]
          simp only [Bool.not_true, cond_false, Bool.and_self, ro]
          exact ⟨⟨trivial, trivial⟩, ⟨trivial, trivial, trivial, trivial, trivial, trivial, trivial⟩, h0, g0, g1, g2, by omega⟩
        · rw [decide_eq_false c2, decide_eq_true (show t > n by omega)]
          simp only [Bool.not_true, Bool.not_false, Bool.and_false, cond_true, cond_false, Bool.and_self]
          exact ⟨⟨trivial, trivial⟩, ⟨trivial, trivial, trivial, trivial, trivial, trivial, trivial⟩, h0, h1, h2, h3, by simp⟩
      · rw [decide_eq_false c1, decide_eq_true (show t < 0 by omega)]
        simp only [Bool.not_true, Bool.not_false, Bool.false_and, cond_true, cond_false, Bool.and_self]
        exact ⟨⟨trivial, trivial⟩, ⟨trivial, trivial, trivial, trivial, trivial, trivial, trivial⟩, h0, h1, h2, h3, by simp⟩
theorem raw4_true (s : List AV) (n : Int) (v r p : List AV) (t a b : Int) (a1 : s.length ≤ 9223372036854775807) (a2 : v.length ≤ 9223372036854775807) (a3 : r.length ≤ 9223372036854775807) (a4 : p.length ≤ 9223372036854775807) : raw4 s n v r p t a b = some (.bool true) := by
  unfold raw4
  rw [P12 a1 a2 a3 a4 (by omega) (by omega)]
  by_cases c1 : 1048576 < (s.length : Int) + ((v.length : Int) + (r.length : Int) + (p.length : Int))
  · rw [if_pos c1]
    rfl
  rw [if_neg c1, decide_eq_false (by omega : ¬ (1048576 : Int) - ((s.length : Int) + ((v.length : Int) + (r.length : Int) + (p.length : Int))) < 0)]
  obtain ⟨t1, t2, t3, t4, t5, t6⟩ := P14 s n v r p (by omega) (by omega) (by omega) (by omega)
  have l1 : (s.map cp38).length ≤ 1048576 := by rw [List.length_map]; omega
  have l2 : (v.map cp7).length ≤ 1048576 := by rw [List.length_map]; omega
  have l3 : (r.map cp7).length ≤ 1048576 := by rw [List.length_map]; omega
  have l4 : (p.map cp70).length ≤ 1048576 := by rw [List.length_map]; omega
  have hN : N2 (p.map cp70) := N2.map (fun y => ⟨_, _, rfl⟩) p
  generalize s.map cp38 = s' at *
  generalize v.map cp7 = v' at *
  generalize r.map cp7 = r' at *
  generalize p.map cp70 = p' at *
  have tr : ∀ x y : Int, v15_0 x y = x ∧ v15_1 x y = y := fun x y => ⟨rfl, rfl⟩
  obtain ⟨⟨x1, x2⟩, ⟨x3, x4, x5, x6, x7, x8, x9⟩, g0, g2, g3, g4, g5⟩ := same13 s' n v' r' p' t a b l1 l2 l3 l4 hN
  generalize hd0 : v13_0 s' n v' r' p' t a b = d0 at *
  generalize hd1 : v13_1 s' n v' r' p' t a b = d1 at *
  generalize hd2 : v13_2 s' n v' r' p' t a b = d2 at *
  generalize hd3 : v13_3 s' n v' r' p' t a b = d3 at *
  generalize hd4 : v13_4 s' n v' r' p' t a b = d4 at *
  generalize hd5 : v13_5 s' n v' r' p' t a b = d5 at *
  generalize hd6 : v13_6 s' n v' r' p' t a b = d6 at *
  obtain ⟨y1, y2⟩ := P17s s' n v' r' p' l1 l2 l3 l4
  obtain ⟨z1, z2⟩ := P17s d0 d1 d2 d3 d4 g0 g2 g3 g4
  obtain ⟨i1, i2⟩ := P10s d5 g5
  obtain ⟨k1, k2, k3, k4, k5⟩ := markheld s' n v' r' p' 1 l1 l2 l3 l4 (by omega) (by omega)
  obtain ⟨m1, m2, m3, m4, m5⟩ := markheld d0 d1 d2 d3 d4 1 g0 g2 g3 g4 (by omega) (by omega)
  obtain ⟨o1, o2, o3, o4, o5⟩ := mhI d5 (v18_0 d1 1 d0 d2 d3 d4) g5 (by omega) (by omega)
  have n1 : decide (v18_0 n 1 s' v' r' p' < 0) = false := decide_eq_false (by omega)
  have n2 : decide (v18_0 d1 1 d0 d2 d3 d4 < 0) = false := decide_eq_false (by omega)
  have n3 : decide (v19_0 (v18_0 d1 1 d0 d2 d3 d4) d5 < 0) = false := decide_eq_false (by omega)
  simp only [tr, t1, t2, t3, t4, t5, t6, x1, x2, x3, x4, x5, x6, x7, x8, x9, hd0, hd1, hd2, hd3, hd4, hd5, hd6, y1, y2, z1, z2, i1, i2, k1, n1, m1, m2, m3, n2, o1, o2, o3, n3, beq_self_eq_true, decide_true, Bool.not_true, cond_false, cond_true]
theorem law4 {x0 x1 x2 : AV} (t0 : TA Tryz.prog 37 x0) (t1 : TA Tryz.prog 3 x1) (t2 : TA Tryz.prog 39 x2) : m4 [x0, x1, x2] = some (true, .bool true) := by
  obtain ⟨s, n, v, r, p, rfl, a1, a2, a3, a4⟩ := store_args t0 (by kernel_rfl) (by kernel_rfl)
  obtain ⟨t, rfl, _⟩ := tw_int (ta_one (ct := .int .i64) t1 (by kernel_rfl) (by kernel_rfl))
  obtain ⟨cs, rfl, hcs⟩ := ta_agg (cts := [.int .i64, .int .i64]) t2 (by kernel_rfl) (by kernel_rfl)
  obtain ⟨y0, _, rfl, b0, hc2⟩ := tws_cons hcs
  obtain ⟨y1, _, rfl, b1, hc3⟩ := tws_cons hc2
  obtain rfl := tws_nil hc3
  obtain ⟨a, rfl, _⟩ := tw_int b0
  obtain ⟨b, rfl, _⟩ := tw_int b1
  show (raw4 s n v r p t a b).map (fun r => (true, r)) = _
  rw [raw4_true s n v r p t a b a1 a2 a3 a4]
  rfl

end Go.Proofs.YtmlhhemflhiinaaGreat
