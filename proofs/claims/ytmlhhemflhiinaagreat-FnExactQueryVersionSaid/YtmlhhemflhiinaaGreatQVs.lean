/- stores -/
import Derived.Test.YtmlhhemflhiinaaGreatQVc
namespace Go.Proofs.YtmlhhemflhiinaaGreat
open Go Go.Proofs.VE
set_option linter.unusedVariables false
set_option linter.unusedSimpArgs false
def rowK (rs : List AV) (x : Int) : Int := ro (findF (fun i => decide (fI (rs.getD i.toNat .undef) 0 = x)) rs.length 0) (-1) id
theorem rowK_lt (rs : List AV) (x : Int) : rowK rs x < rs.length ∧ (-1 ≤ rowK rs x) := by
  unfold rowK
  cases hf : findF (fun i => decide (fI (rs.getD i.toNat .undef) 0 = x)) rs.length 0 with
  | none => simp [ro]; omega
  | some j =>
    have := findF_some _ _ hf
    simp [ro]
    omega
def badT (now : Int) (ss : List AV) (i : Int) : Bool :=
  !(decide (0 ≤ fI (ss.getD i.toNat .undef) 2) && decide (fI (ss.getD i.toNat .undef) 2 ≤ now)) ||
    (!decide (fI (ss.getD i.toNat .undef) 3 = -1) && (decide (fI (ss.getD i.toNat .undef) 3 ≤ fI (ss.getD i.toNat .undef) 2) || !decide (fI (ss.getD i.toNat .undef) 3 ≤ now)))
def badS (vs rs ss : List AV) (now : Int) (i : Int) : Bool :=
  decide (rowK rs (fI (ss.getD i.toNat .undef) 1) < 0) || (!decide (fI (vs.getD (rowK rs (fI (ss.getD i.toNat .undef) 1)).toNat .undef) 0 = fI (ss.getD i.toNat .undef) 0) ||
    ((decide (i > 0) && decide (fI (ss.getD i.toNat .undef) 1 ≤ fI (ss.getD (i - 1).toNat .undef) 1)) || badT now ss i))
def L33 (ss : List AV) (i : Int) : Unit ⊕ (Int × Int × Int × Int) := .inr (fI (ss.getD i.toNat .undef) 0, fI (ss.getD i.toNat .undef) 1, fI (ss.getD i.toNat .undef) 2, fI (ss.getD i.toNat .undef) 3)
theorem step33 (ss : List AV) (now : Int) (vs rs ps : List AV) (i : Int) (hr : rs.length ≤ 1048576) (hs : ss.length ≤ 1048576) (he : (rs.length : Int) = vs.length) (hnow : now ≤ 1000) (h0 : 0 ≤ i) (hn : i < ss.length) :
    R33_0 ss now vs rs ps i = bif badS vs rs ss now i then .stop (L33 ss i) else .next (i + 1) := by
  have hk := rowK_lt rs (fI (ss.getD i.toNat .undef) 1)
  have ek : v66_0 vs rs ps (fI (ss.getD i.toNat .undef) 1) = rowK rs (fI (ss.getD i.toNat .undef) 1) := (P66 vs rs ps _ hr).2.trans (P77 rs _ hr).2
  simp only [R33_0, F33_0, h0, hn, decide_true, Bool.and_self, cond_true, (P66 vs rs ps _ hr).1, ek]
  rw [wrap_in (a := i + 1) (by omega) (by omega), wrap_in (a := i - 1) (by omega) (by omega)]
  unfold badS L33 badT
  simp only [v23]
  generalize rowK rs (fI (ss.getD i.toNat AV.undef) 1) = k at *
  by_cases hk0 : k < 0
  · rw [decide_eq_true hk0]; rfl
  have k1 : decide (0 ≤ k) = true := decide_eq_true (by omega)
  have k2 : decide (k < (vs.length : Int)) = true := decide_eq_true (by omega)
  rw [decide_eq_false hk0, k1, k2]
  generalize decide (fI (vs.getD k.toNat AV.undef) 0 = fI (ss.getD i.toNat AV.undef) 0) = b1
  generalize fI (ss.getD i.toNat AV.undef) 2 = bo
  have eb : (decide (0 ≤ bo) && decide (bo ≤ now)) = true → IntKind.i64.wrap (bo + 1) = bo + 1 := fun h => by
    simp only [Bool.and_eq_true, decide_eq_true_eq] at h
    exact wrap_in (by omega) (by omega)
  have ed : decide (bo + 1 ≤ fI (ss.getD i.toNat AV.undef) 3) = !decide (fI (ss.getD i.toNat AV.undef) 3 ≤ bo) := by
    by_cases h : fI (ss.getD i.toNat AV.undef) 3 ≤ bo
    · rw [decide_eq_true h, decide_eq_false (by omega)]; rfl
    · rw [decide_eq_false h, decide_eq_true (by omega)]; rfl
  generalize (decide (0 ≤ bo) && decide (bo ≤ now)) = b2 at *
  generalize decide (fI (ss.getD i.toNat AV.undef) 3 = -1) = b3
  have hd : b2 = true → (decide (IntKind.i64.wrap (bo + 1) ≤ fI (ss.getD i.toNat AV.undef) 3)) = (decide (bo + 1 ≤ fI (ss.getD i.toNat AV.undef) 3)) := fun h => by rw [eb h]
  cases b2 with
  | false =>
    by_cases hi : i > 0
    · have hm : decide (0 ≤ i - 1) = true := decide_eq_true (by omega)
      have hm' : decide (i - 1 < (ss.length : Int)) = true := decide_eq_true (by omega)
      rw [decide_eq_true hi, hm, hm']
      generalize decide (fI (ss.getD i.toNat AV.undef) 1 ≤ fI (ss.getD (i - 1).toNat AV.undef) 1) = b4
      cases b1 <;> cases b4 <;> rfl
    · rw [decide_eq_false hi]
      cases b1 <;> rfl
  | true =>
    rw [hd rfl, ed]
    generalize decide (fI (ss.getD i.toNat AV.undef) 3 ≤ bo) = b5
    generalize decide (fI (ss.getD i.toNat AV.undef) 3 ≤ now) = b6
    by_cases hi : i > 0
    · have hm : decide (0 ≤ i - 1) = true := decide_eq_true (by omega)
      have hm' : decide (i - 1 < (ss.length : Int)) = true := decide_eq_true (by omega)
      rw [decide_eq_true hi, hm, hm']
      generalize decide (fI (ss.getD i.toNat AV.undef) 1 ≤ fI (ss.getD (i - 1).toNat AV.undef) 1) = b4
      cases b1 <;> cases b3 <;> cases b4 <;> cases b5 <;> cases b6 <;> rfl
    · rw [decide_eq_false hi]
      cases b1 <;> cases b3 <;> cases b5 <;> cases b6 <;> rfl
theorem step41 (ss : List AV) (now : Int) (vs rs ps : List AV) (i : Int) (hr : rs.length ≤ 1048576) (hs : ss.length ≤ 1048576) (he : (rs.length : Int) = vs.length) (hnow : now ≤ 1000) (h0 : 0 ≤ i) (hn : i < ss.length) :
    R41_0 ss ss.length ss now vs rs ps i = bif badS vs rs ss now i then .stop (L33 ss i) else .next (i + 1) := by
  have hk := rowK_lt rs (fI (ss.getD i.toNat .undef) 1)
  have ek : v74_0 vs rs ps (fI (ss.getD i.toNat .undef) 1) = rowK rs (fI (ss.getD i.toNat .undef) 1) := (P77 rs _ hr).2
  simp only [R41_0, F41_0, h0, hn, decide_true, Bool.and_self, cond_true, (P74 vs rs ps _ hr).1, ek]
  rw [wrap_in (a := i + 1) (by omega) (by omega), wrap_in (a := i - 1) (by omega) (by omega)]
  unfold badS L33 badT
  generalize rowK rs (fI (ss.getD i.toNat AV.undef) 1) = k at *
  by_cases hk0 : k < 0
  · rw [decide_eq_true hk0]; rfl
  have k1 : decide (0 ≤ k) = true := decide_eq_true (by omega)
  have k2 : decide (k < (vs.length : Int)) = true := decide_eq_true (by omega)
  rw [decide_eq_false hk0, k1, k2]
  generalize decide (fI (vs.getD k.toNat AV.undef) 0 = fI (ss.getD i.toNat AV.undef) 0) = b1
  generalize fI (ss.getD i.toNat AV.undef) 2 = bo
  generalize fI (ss.getD i.toNat AV.undef) 3 = di
  rw [dlt bo 0, dgt bo now, dgt di now]
  generalize decide (0 ≤ bo) = b2
  generalize decide (bo ≤ now) = b7
  generalize decide (di = -1) = b3
  generalize decide (di ≤ bo) = b5
  generalize decide (di ≤ now) = b6
  by_cases hi : i > 0
  · have hm : decide (0 ≤ i - 1) = true := decide_eq_true (by omega)
    have hm' : decide (i - 1 < (ss.length : Int)) = true := decide_eq_true (by omega)
    rw [decide_eq_true hi, hm, hm', show decide (fI (ss.getD (i - 1).toNat AV.undef) 1 ≥ fI (ss.getD i.toNat AV.undef) 1) = decide (fI (ss.getD i.toNat AV.undef) 1 ≤ fI (ss.getD (i - 1).toNat AV.undef) 1) from rfl]
    generalize decide (fI (ss.getD i.toNat AV.undef) 1 ≤ fI (ss.getD (i - 1).toNat AV.undef) 1) = b4
    cases b1 <;> cases b2 <;> cases b3 <;> cases b4 <;> cases b5 <;> cases b6 <;> cases b7 <;> rfl
  · rw [decide_eq_false hi]
    cases b1 <;> cases b2 <;> cases b3 <;> cases b5 <;> cases b6 <;> cases b7 <;> rfl
def isS (ss : List AV) (now : Int) (vs rs ps : List AV) : Bool := isC vs rs ps && (decide ((ss.length : Int) = vs.length) && ((decide (0 ≤ now) && decide (now ≤ 1000)) && noneB (badS vs rs ss now) ss.length))
theorem isC_len {vs rs ps : List AV} (h : isC vs rs ps = true) : (rs.length : Int) = vs.length := by
  unfold isC at h
  simp only [Bool.and_eq_true, decide_eq_true_eq] at h
  exact h.2.1
theorem P33 (ss : List AV) (now : Int) (vs rs ps : List AV) (hs : ss.length ≤ 1048576) (h : vs.length ≤ 1048576) (h' : rs.length ≤ 1048576) (h'' : ps.length ≤ 1048576) : q33 ss now vs rs ps = true ∧ v33_0 ss now vs rs ps = isS ss now vs rs ps := by
  unfold q33 v33_0 isS
  rw [(P65 vs rs ps h h' h'').1, (P65 vs rs ps h h' h'').2, v23]
  cases hc : isC vs rs ps with
  | false => exact ⟨rfl, rfl⟩
  | true =>
    cases decide ((ss.length : Int) = vs.length) with
    | false => exact ⟨rfl, rfl⟩
    | true =>
      cases hnow : (decide (0 ≤ now) && decide (now ≤ 1000)) with
      | false => exact ⟨rfl, rfl⟩
      | true =>
        simp only [Bool.and_eq_true, decide_eq_true_eq] at hnow
        have hr : runW (R33_0 ss now vs rs ps) (((ss.length : Int) - 0).toNat + 1) 0 = some (ro (findF (badS vs rs ss now) ss.length 0) (.inl ()) (L33 ss)) := by
          refine runW_find (fun i => i) ss.length _ _ _ (fun i h0 hn => step33 ss now vs rs ps i h' hs (isC_len hc) hnow.2 h0 hn) ?_ ss.length _ 0 (Int.le_refl 0) (by omega) (by omega)
          simp only [R33_0, F33_0, Int.lt_irrefl, decide_false, cond_false]
        rw [hr]
        unfold noneB
        cases findF (badS vs rs ss now) ss.length 0 <;> exact ⟨rfl, rfl⟩
theorem P41 (ss : List AV) (now : Int) (vs rs ps : List AV) (hs : ss.length ≤ 1048576) (h : vs.length ≤ 1048576) (h' : rs.length ≤ 1048576) (h'' : ps.length ≤ 1048576) : q41 ss now vs rs ps = true ∧ v41_0 ss now vs rs ps = isS ss now vs rs ps := by
  unfold q41 v41_0 isS
  rw [(P73 vs rs ps h h' h'').1, (P73 vs rs ps h h' h'').2, dlt now 0, dgt now 1000]
  cases hc : isC vs rs ps with
  | false => exact ⟨rfl, rfl⟩
  | true =>
    cases decide ((ss.length : Int) = vs.length) with
    | false => exact ⟨rfl, rfl⟩
    | true =>
      cases hn1 : decide (0 ≤ now) with
      | false => exact ⟨rfl, rfl⟩
      | true =>
        cases hn2 : decide (now ≤ 1000) with
        | false => exact ⟨rfl, rfl⟩
        | true =>
          simp only [decide_eq_true_eq] at hn1 hn2
          have hr : runW (R41_0 ss ss.length ss now vs rs ps) (((ss.length : Int) - 0).toNat + 1) 0 = some (ro (findF (badS vs rs ss now) ss.length 0) (.inl ()) (L33 ss)) := by
            refine runW_find (fun i => i) ss.length _ _ _ (fun i h0 hn => step41 ss now vs rs ps i h' hs (isC_len hc) hn2 h0 hn) ?_ ss.length _ 0 (Int.le_refl 0) (by omega) (by omega)
            simp only [R41_0, F41_0, Int.lt_irrefl, decide_false, cond_false]
          rw [hr]
          unfold noneB
          cases findF (badS vs rs ss now) ss.length 0 <;> exact ⟨rfl, rfl⟩
theorem P47 (v0 r0 p0 v1 r1 p1 : List AV) (h1 : v0.length ≤ 1048576) (h2 : r0.length ≤ 1048576) (h3 : p0.length ≤ 1048576) : q47 v0 r0 p0 v1 r1 p1 = true ∧ v47_0 v0 r0 p0 v1 r1 p1 = (eqL ee1 v0 v1 && eqL ee1 r0 r1 && eqL ee2 p0 p1) := by
  unfold q47 v47_0
  rw [(P10 v0 v1 h1).1, (P10 v0 v1 h1).2, (P10 r0 r1 h2).1, (P10 r0 r1 h2).2, (P79 p0 p1 h3).1, (P79 p0 p1 h3).2]
  cases eqL ee1 v0 v1 <;> cases eqL ee1 r0 r1 <;> cases eqL ee2 p0 p1 <;> exact ⟨rfl, rfl⟩
theorem P39 (v r p : List AV) (h1 : v.length ≤ 1048576) (h2 : r.length ≤ 1048576) (h3 : p.length ≤ 1048576) : q39 v r p = true ∧ v39_0 v r p = v.map cp7 ∧ v39_1 v r p = r.map cp7 ∧ v39_2 v r p = p.map cp70 := by
  unfold q39 v39_0 v39_1 v39_2
  rw [(P7 v h1).1, (P7 r h2).1, (P70 p h3).1]
  exact ⟨rfl, (P7 v h1).2, (P7 r h2).2, (P70 p h3).2⟩
theorem P14 (s : List AV) (n : Int) (v r p : List AV) (h0 : s.length ≤ 1048576) (h1 : v.length ≤ 1048576) (h2 : r.length ≤ 1048576) (h3 : p.length ≤ 1048576) : q14 s n v r p = true ∧ v14_0 s n v r p = s.map cp38 ∧ v14_1 s n v r p = n ∧ v14_2 s n v r p = v.map cp7 ∧ v14_3 s n v r p = r.map cp7 ∧ v14_4 s n v r p = p.map cp70 := by
  unfold q14 v14_0 v14_1 v14_2 v14_3 v14_4
  obtain ⟨a, b, c, d⟩ := P39 v r p h1 h2 h3
  rw [(P38 s h0).1, a]
  exact ⟨rfl, (P38 s h0).2, rfl, b, c, d⟩
theorem P17 (s : List AV) (n : Int) (v r p s1 : List AV) (n1 : Int) (v1 r1 p1 : List AV) (h0 : s.length ≤ 1048576) (h1 : v.length ≤ 1048576) (h2 : r.length ≤ 1048576) (h3 : p.length ≤ 1048576) : q17 s n v r p s1 n1 v1 r1 p1 = true ∧ v17_0 s n v r p s1 n1 v1 r1 p1 = (eqL ee4 s s1 && decide (n = n1) && (eqL ee1 v v1 && eqL ee1 r r1 && eqL ee2 p p1)) := by
  unfold q17 v17_0
  rw [(P46 s s1 h0).1, (P46 s s1 h0).2, (P47 v r p v1 r1 p1 h1 h2 h3).1, (P47 v r p v1 r1 p1 h1 h2 h3).2]
  cases eqL ee4 s s1 <;> cases decide (n = n1) <;> cases (eqL ee1 v v1 && eqL ee1 r r1 && eqL ee2 p p1) <;> exact ⟨rfl, rfl⟩
theorem P17s (s : List AV) (n : Int) (v r p : List AV) (h0 : s.length ≤ 1048576) (h1 : v.length ≤ 1048576) (h2 : r.length ≤ 1048576) (h3 : p.length ≤ 1048576) : q17 s n v r p s n v r p = true ∧ v17_0 s n v r p s n v r p = true := by
  obtain ⟨a, b⟩ := P17 s n v r p s n v r p h0 h1 h2 h3
  refine ⟨a, b.trans ?_⟩
  rw [eqL_self ee4_self, eqL_self ee1_self, eqL_self ee1_self, eqL_self ee2_self]
  simp
theorem store_args {t : Nat} {x : AV} (h : TA Tryz.prog t x) (ha : aggT Tryz.prog t = some true) (hc : ctsT Tryz.prog 7 t = [.sl [.int .i64, .int .i64, .int .i64, .int .i64], .int .i64, .sl [.int .i64], .sl [.int .i64], .sl [.int .i64, .int .i64]]) : ∃ s n v r p, x = .agg [.sl [.int .i64, .int .i64, .int .i64, .int .i64] s, .int .i64 n, .sl [.int .i64] v, .sl [.int .i64] r, .sl [.int .i64, .int .i64] p] ∧ s.length ≤ 9223372036854775807 ∧ v.length ≤ 9223372036854775807 ∧ r.length ≤ 9223372036854775807 ∧ p.length ≤ 9223372036854775807 := by
  obtain ⟨cs, rfl, h1⟩ := ta_agg h ha hc
  obtain ⟨x0, _, rfl, g0, h2⟩ := tws_cons h1
  obtain ⟨x1, _, rfl, g1, h3⟩ := tws_cons h2
  obtain ⟨x2, _, rfl, g2, h4⟩ := tws_cons h3
  obtain ⟨x3, _, rfl, g3, h5⟩ := tws_cons h4
  obtain ⟨x4, _, rfl, g4, h6⟩ := tws_cons h5
  obtain rfl := tws_nil h6
  obtain ⟨s, rfl, l0, _⟩ := tw_sl g0
  obtain ⟨n, rfl, _⟩ := tw_int g1
  obtain ⟨v, rfl, l2, _⟩ := tw_sl g2
  obtain ⟨r, rfl, l3, _⟩ := tw_sl g3
  obtain ⟨p, rfl, l4, _⟩ := tw_sl g4
  exact ⟨s, n, v, r, p, rfl, l0, l2, l3, l4⟩
theorem P64 (v r p : List AV) (h1 : v.length ≤ 1048576) (h2 : r.length ≤ 1048576) (h3 : p.length ≤ 1048576) : q64 v r p = true ∧ v64_0 v r p = v ∧ v64_1 v r p = r ∧ v64_2 v r p = p := by
  unfold q64 v64_0 v64_1 v64_2
  simp only [List.length_nil, Nat.zero_add, List.nil_append]
  rw [decide_eq_true (by omega : v.length * 8 ≤ 140737488355328), decide_eq_true (by omega : v.length ≤ 140737488355328), decide_eq_true (by omega : r.length * 8 ≤ 140737488355328), decide_eq_true (by omega : r.length ≤ 140737488355328), decide_eq_true (by omega : p.length * 16 ≤ 140737488355328), decide_eq_true (by omega : p.length ≤ 140737488355328)]
  simp
theorem P32 (s : List AV) (n : Int) (v r p : List AV) (h0 : s.length ≤ 1048576) (h1 : v.length ≤ 1048576) (h2 : r.length ≤ 1048576) (h3 : p.length ≤ 1048576) : q32 s n v r p = true ∧ v32_0 s n v r p = s ∧ v32_1 s n v r p = n ∧ v32_2 s n v r p = v ∧ v32_3 s n v r p = r ∧ v32_4 s n v r p = p := by
  obtain ⟨a, b, c, d⟩ := P64 v r p h1 h2 h3
  unfold q32 v32_0 v32_1 v32_2 v32_3 v32_4
  simp only [List.length_nil, Nat.zero_add, List.nil_append, a, b, c, d]
  rw [decide_eq_true (by omega : s.length * 32 ≤ 140737488355328), decide_eq_true (by omega : s.length ≤ 140737488355328)]
  simp
theorem P71 (xs : List AV) (h : xs.length ≤ 1048576) : q71 xs = true ∧ v71_0 xs = xs := by
  unfold q71 v71_0
  rw [decide_eq_true (by omega : xs.length * 32 ≤ 140737488355328), decide_eq_true (by omega : xs.length ≤ 140737488355328)]
  exact ⟨rfl, rfl⟩
theorem P94 (xs : List AV) (h : xs.length ≤ 1048576) : q94 xs = true ∧ v94_0 xs = xs := by
  unfold q94 v94_0
  rw [decide_eq_true (by omega : xs.length * 8 ≤ 140737488355328), decide_eq_true (by omega : xs.length ≤ 140737488355328)]
  exact ⟨rfl, rfl⟩
theorem P95 (xs : List AV) (h : xs.length ≤ 1048576) : q95 xs = true ∧ v95_0 xs = xs := by
  unfold q95 v95_0
  rw [decide_eq_true (by omega : xs.length * 16 ≤ 140737488355328), decide_eq_true (by omega : xs.length ≤ 140737488355328)]
  exact ⟨rfl, rfl⟩
theorem P72 (v r p : List AV) (h1 : v.length ≤ 1048576) (h2 : r.length ≤ 1048576) (h3 : p.length ≤ 1048576) : q72 v r p = true ∧ v72_0 v r p = v ∧ v72_1 v r p = r ∧ v72_2 v r p = p := by
  unfold q72 v72_0 v72_1 v72_2
  rw [(P94 v h1).1, (P94 r h2).1, (P95 p h3).1]
  exact ⟨rfl, rfl, rfl, rfl⟩
theorem P40 (s : List AV) (n : Int) (v r p : List AV) (h0 : s.length ≤ 1048576) (h1 : v.length ≤ 1048576) (h2 : r.length ≤ 1048576) (h3 : p.length ≤ 1048576) : q40 s n v r p = true ∧ v40_0 s n v r p = s ∧ v40_1 s n v r p = n ∧ v40_2 s n v r p = v ∧ v40_3 s n v r p = r ∧ v40_4 s n v r p = p := by
  obtain ⟨a, b, c, d⟩ := P72 v r p h1 h2 h3
  unfold q40 v40_0 v40_1 v40_2 v40_3 v40_4
  rw [(P71 s h0).1, a]
  exact ⟨rfl, rfl, rfl, b, c, d⟩
theorem markheld (s : List AV) (n : Int) (v r p : List AV) (k : Int) (h0 : s.length ≤ 1048576) (h1 : v.length ≤ 1048576) (h2 : r.length ≤ 1048576) (h3 : p.length ≤ 1048576) (hk : 0 ≤ k) (hk' : k ≤ 1000000000) :
    q18 n k s v r p = true ∧ q20 (v18_1 n k s v r p) n (v18_2 n k s v r p) (v18_3 n k s v r p) (v18_4 n k s v r p) k = true ∧ v20_0 (v18_1 n k s v r p) n (v18_2 n k s v r p) (v18_3 n k s v r p) (v18_4 n k s v r p) k = v18_0 n k s v r p ∧ 0 ≤ v18_0 n k s v r p ∧ v18_0 n k s v r p ≤ k + 11000000 := by
  unfold q20 v20_0 q18 v18_0 v18_1 v18_2 v18_3 v18_4 q49 v49_0 v49_1 v49_2 v49_3 q51 v51_0
  obtain ⟨s', a1, a2, a3, a4, a5⟩ := P48 s k h0 (by omega) (by omega)
  obtain ⟨v', b1, b2, b3, b4, b5⟩ := P19 v (k + 4 * s.length) h1 (by omega) (by omega)
  obtain ⟨r', c1, c2, c3, c4, c5⟩ := P19 r (k + 4 * s.length + 1 * v.length) h2 (by omega) (by omega)
  obtain ⟨p', d1, d2, d3, d4, d5⟩ := P80 p (k + 4 * s.length + 1 * v.length + 1 * r.length) h3 (by omega) (by omega)
  obtain ⟨f1, f2⟩ := P50 s' k (by omega) (by omega) (by omega) (by rw [a4]; exact a5)
  obtain ⟨g1, g2⟩ := P21 v' (k + 4 * s.length) (by omega) (by omega) (by omega) (by rw [b4]; exact b5)
  obtain ⟨i1, i2⟩ := P21 r' (k + 4 * s.length + 1 * v.length) (by omega) (by omega) (by omega) (by rw [c4]; exact c5)
  obtain ⟨j1, j2⟩ := P81 p' (k + 4 * s.length + 1 * v.length + 1 * r.length) (by omega) (by omega) (by omega) (by rw [d4]; exact d5)
  have n1 : decide (k + 4 * s.length < 0) = false := decide_eq_false (by omega)
  have n2 : decide (k + 4 * s.length + 1 * v.length < 0) = false := decide_eq_false (by omega)
  have n3 : decide (k + 4 * s.length + 1 * v.length + 1 * r.length < 0) = false := decide_eq_false (by omega)
  have n4 : decide (k + 4 * s.length + 1 * v.length + 1 * r.length + 2 * p.length < 0) = false := decide_eq_false (by omega)
  simp only [a1, a2, a3, b1, b2, b3, c1, c2, c3, d1, d2, d3, f1, f2, a4, g1, g2, b4, i1, i2, c4, j1, j2, d4, n1, n2, n3, n4, cond_false, Bool.and_self, true_and]
  omega
theorem P10s (xs : List AV) (h : xs.length ≤ 1048576) : q10 xs xs = true ∧ v10_0 xs xs = true := ⟨(P10 xs xs h).1, (P10 xs xs h).2.trans (eqL_self ee1_self xs)⟩
theorem P47s (v r p : List AV) (h1 : v.length ≤ 1048576) (h2 : r.length ≤ 1048576) (h3 : p.length ≤ 1048576) : q47 v r p v r p = true ∧ v47_0 v r p v r p = true := by
  obtain ⟨a, b⟩ := P47 v r p v r p h1 h2 h3
  refine ⟨a, b.trans ?_⟩
  rw [eqL_self ee1_self, eqL_self ee1_self, eqL_self ee2_self]
  rfl
theorem mC (v r p : List AV) (k : Int) (h1 : v.length ≤ 1048576) (h2 : r.length ≤ 1048576) (h3 : p.length ≤ 1048576) (hk : 0 ≤ k) (hk' : k ≤ 1000000000) : q49 k v r p = true ∧ 0 ≤ v49_0 k v r p := by
  unfold q49 v49_0
  obtain ⟨v', b1, b2, b3, b4, b5⟩ := P19 v k h1 (by omega) (by omega)
  obtain ⟨r', c1, c2, c3, c4, c5⟩ := P19 r (k + 1 * v.length) h2 (by omega) (by omega)
  obtain ⟨p', d1, d2, d3, d4, d5⟩ := P80 p (k + 1 * v.length + 1 * r.length) h3 (by omega) (by omega)
  simp only [b1, b2, b3, c1, c2, c3, d1, d2, d3, Bool.and_self, true_and]
  omega
theorem mhC (v r p : List AV) (k : Int) (h1 : v.length ≤ 1048576) (h2 : r.length ≤ 1048576) (h3 : p.length ≤ 1048576) (hk : 0 ≤ k) (hk' : k ≤ 1000000000) :
    q49 k v r p = true ∧ q51 (v49_1 k v r p) (v49_2 k v r p) (v49_3 k v r p) k = true ∧ v51_0 (v49_1 k v r p) (v49_2 k v r p) (v49_3 k v r p) k = v49_0 k v r p ∧ 0 ≤ v49_0 k v r p ∧ v49_0 k v r p ≤ k + 6000000 := by
  unfold q49 v49_0 v49_1 v49_2 v49_3 q51 v51_0
  obtain ⟨v', b1, b2, b3, b4, b5⟩ := P19 v k h1 (by omega) (by omega)
  obtain ⟨r', c1, c2, c3, c4, c5⟩ := P19 r (k + 1 * v.length) h2 (by omega) (by omega)
  obtain ⟨p', d1, d2, d3, d4, d5⟩ := P80 p (k + 1 * v.length + 1 * r.length) h3 (by omega) (by omega)
  obtain ⟨g1, g2⟩ := P21 v' k (by omega) (by omega) (by omega) (by rw [b4]; exact b5)
  obtain ⟨i1, i2⟩ := P21 r' (k + 1 * v.length) (by omega) (by omega) (by omega) (by rw [c4]; exact c5)
  obtain ⟨j1, j2⟩ := P81 p' (k + 1 * v.length + 1 * r.length) (by omega) (by omega) (by omega) (by rw [d4]; exact d5)
  have n2 : decide (k + 1 * v.length < 0) = false := decide_eq_false (by omega)
  have n3 : decide (k + 1 * v.length + 1 * r.length < 0) = false := decide_eq_false (by omega)
  have n4 : decide (k + 1 * v.length + 1 * r.length + 2 * p.length < 0) = false := decide_eq_false (by omega)
  simp only [b1, b2, b3, c1, c2, c3, d1, d2, d3, g1, g2, b4, i1, i2, c4, j1, j2, d4, n2, n3, n4, cond_false, Bool.and_self, true_and]
  omega
theorem mI (w : List AV) (k : Int) (h : w.length ≤ 1048576) (hk : 0 ≤ k) (hk' : k ≤ 1000000000) : q19 k w = true ∧ 0 ≤ v19_0 k w ∧ v19_0 k w ≤ k + 6000000 := by
  obtain ⟨v', b1, b2, b3, b4, b5⟩ := P19 w k h (by omega) (by omega)
  rw [b1, b2]
  refine ⟨rfl, ?_, ?_⟩ <;> omega
theorem mhI (w : List AV) (k : Int) (h : w.length ≤ 1048576) (hk : 0 ≤ k) (hk' : k ≤ 1000000000) : q19 k w = true ∧ q21 (v19_1 k w) k = true ∧ v21_0 (v19_1 k w) k = v19_0 k w ∧ 0 ≤ v19_0 k w ∧ v19_0 k w ≤ k + 6000000 := by
  obtain ⟨v', b1, b2, b3, b4, b5⟩ := P19 w k h (by omega) (by omega)
  obtain ⟨g1, g2⟩ := P21 v' k (by omega) (by omega) (by omega) (by rw [b4]; exact b5)
  rw [b3, b1, b2, g1, g2, b4]
  refine ⟨rfl, rfl, rfl, ?_, ?_⟩ <;> omega
theorem crack_args {t : Nat} {x : AV} (h : TA Tryz.prog t x) (ha : aggT Tryz.prog t = some true) (hc : ctsT Tryz.prog 7 t = [.sl [.int .i64], .sl [.int .i64], .sl [.int .i64, .int .i64]]) : ∃ v r p, x = .agg [.sl [.int .i64] v, .sl [.int .i64] r, .sl [.int .i64, .int .i64] p] ∧ v.length ≤ 9223372036854775807 ∧ r.length ≤ 9223372036854775807 ∧ p.length ≤ 9223372036854775807 := by
  obtain ⟨cs, rfl, h1⟩ := ta_agg h ha hc
  obtain ⟨x2, _, rfl, g2, h4⟩ := tws_cons h1
  obtain ⟨x3, _, rfl, g3, h5⟩ := tws_cons h4
  obtain ⟨x4, _, rfl, g4, h6⟩ := tws_cons h5
  obtain rfl := tws_nil h6
  obtain ⟨v, rfl, l2, _⟩ := tw_sl g2
  obtain ⟨r, rfl, l3, _⟩ := tw_sl g3
  obtain ⟨p, rfl, l4, _⟩ := tw_sl g4
  exact ⟨v, r, p, rfl, l2, l3, l4⟩

end Go.Proofs.YtmlhhemflhiinaaGreat
