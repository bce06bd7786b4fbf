/- stores -/
import Derived.Test.YtepfklcdpkpepaaVSc
namespace Go.Proofs.Ytepfklcdpkpepaa
open Go Go.Proofs.VE
set_option linter.unusedVariables false
set_option linter.unusedSimpArgs false
def rowK (rs : List AV) (x : Int) : Int := ro (findF (fun i => decide (fI (rs.getD i.toNat .undef) 0 = x)) rs.length 0) (-1) id
theorem rowK_lt (rs : List AV) (x : Int) : rowK rs x < rs.length ∧ (-1 ≤ rowK rs x) := by
  unfold rowK
  cases hf : findF (fun i => decide (fI (rs.getD i.toNat .undef) 0 = x)) rs.length 0 with
  | none => simp [ro]; omega
  | some j =>
    have := findF_some _ _ hf
    simp [ro]
    omega
def badT (now : Int) (ss : List AV) (i : Int) : Bool :=
  !(decide (0 ≤ fI (ss.getD i.toNat .undef) 2) && decide (fI (ss.getD i.toNat .undef) 2 ≤ now)) ||
    (!decide (fI (ss.getD i.toNat .undef) 3 = -1) && (decide (fI (ss.getD i.toNat .undef) 3 ≤ fI (ss.getD i.toNat .undef) 2) || !decide (fI (ss.getD i.toNat .undef) 3 ≤ now)))
def badS (vs rs ss : List AV) (now : Int) (i : Int) : Bool :=
  decide (rowK rs (fI (ss.getD i.toNat .undef) 1) < 0) || (!decide (fI (vs.getD (rowK rs (fI (ss.getD i.toNat .undef) 1)).toNat .undef) 0 = fI (ss.getD i.toNat .undef) 0) ||
    ((decide (i > 0) && decide (fI (ss.getD i.toNat .undef) 1 ≤ fI (ss.getD (i - 1).toNat .undef) 1)) || badT now ss i))
def L16 (ss : List AV) (i : Int) : Unit ⊕ (Int × Int × Int × Int) := .inr (fI (ss.getD i.toNat .undef) 0, fI (ss.getD i.toNat .undef) 1, fI (ss.getD i.toNat .undef) 2, fI (ss.getD i.toNat .undef) 3)
theorem step16 (ss : List AV) (now : Int) (vs rs ps : List AV) (i : Int) (hr : rs.length ≤ 1048576) (hs : ss.length ≤ 1048576) (he : (rs.length : Int) = vs.length) (hnow : now ≤ 1000) (h0 : 0 ≤ i) (hn : i < ss.length) :
    R16_0 ss now vs rs ps i = bif badS vs rs ss now i then .stop (L16 ss i) else .next (i + 1) := by
  have hk := rowK_lt rs (fI (ss.getD i.toNat .undef) 1)
  have ek : v69_0 vs rs ps (fI (ss.getD i.toNat .undef) 1) = rowK rs (fI (ss.getD i.toNat .undef) 1) := (P69 vs rs ps _ hr).2.trans (P90 rs _ hr).2
  simp only [R16_0, F16_0, h0, hn, decide_true, Bool.and_self, cond_true, (P69 vs rs ps _ hr).1, ek]
  rw [wrap_in (a := i + 1) (by omega) (by omega), wrap_in (a := i - 1) (by omega) (by omega)]
  unfold badS L16 badT
  simp only [v68]
  generalize rowK rs (fI (ss.getD i.toNat AV.undef) 1) = k at *
  by_cases hk0 : k < 0
  · rw [decide_eq_true hk0]; rfl
  have k1 : decide (0 ≤ k) = true := decide_eq_true (by omega)
  have k2 : decide (k < (vs.length : Int)) = true := decide_eq_true (by omega)
  rw [decide_eq_false hk0, k1, k2]
  generalize decide (fI (vs.getD k.toNat AV.undef) 0 = fI (ss.getD i.toNat AV.undef) 0) = b1
  generalize fI (ss.getD i.toNat AV.undef) 2 = bo
  have eb : (decide (0 ≤ bo) && decide (bo ≤ now)) = true → IntKind.i64.wrap (bo + 1) = bo + 1 := fun h => by
    simp only [Bool.and_eq_true, decide_eq_true_eq] at h
    exact wrap_in (by omega) (by omega)
  have ed : decide (bo + 1 ≤ fI (ss.getD i.toNat AV.undef) 3) = !decide (fI (ss.getD i.toNat AV.undef) 3 ≤ bo) := by
    by_cases h : fI (ss.getD i.toNat AV.undef) 3 ≤ bo
    · rw [decide_eq_true h, decide_eq_false (by omega)]; rfl
    · rw [decide_eq_false h, decide_eq_true (by omega)]; rfl
  generalize (decide (0 ≤ bo) && decide (bo ≤ now)) = b2 at *
  generalize decide (fI (ss.getD i.toNat AV.undef) 3 = -1) = b3
  have hd : b2 = true → (decide (IntKind.i64.wrap (bo + 1) ≤ fI (ss.getD i.toNat AV.undef) 3)) = (decide (bo + 1 ≤ fI (ss.getD i.toNat AV.undef) 3)) := fun h => by rw [eb h]
  cases b2 with
  | false =>
    by_cases hi : i > 0
    · have hm : decide (0 ≤ i - 1) = true := decide_eq_true (by omega)
      have hm' : decide (i - 1 < (ss.length : Int)) = true := decide_eq_true (by omega)
      rw [decide_eq_true hi, hm, hm']
      generalize decide (fI (ss.getD i.toNat AV.undef) 1 ≤ fI (ss.getD (i - 1).toNat AV.undef) 1) = b4
      cases b1 <;> cases b4 <;> rfl
    · rw [decide_eq_false hi]
      cases b1 <;> rfl
  | true =>
    rw [hd rfl, ed]
    generalize decide (fI (ss.getD i.toNat AV.undef) 3 ≤ bo) = b5
    generalize decide (fI (ss.getD i.toNat AV.undef) 3 ≤ now) = b6
    by_cases hi : i > 0
    · have hm : decide (0 ≤ i - 1) = true := decide_eq_true (by omega)
      have hm' : decide (i - 1 < (ss.length : Int)) = true := decide_eq_true (by omega)
      rw [decide_eq_true hi, hm, hm']
      generalize decide (fI (ss.getD i.toNat AV.undef) 1 ≤ fI (ss.getD (i - 1).toNat AV.undef) 1) = b4
      cases b1 <;> cases b3 <;> cases b4 <;> cases b5 <;> cases b6 <;> rfl
    · rw [decide_eq_false hi]
      cases b1 <;> cases b3 <;> cases b5 <;> cases b6 <;> rfl
theorem step18 (ss : List AV) (now : Int) (vs rs ps : List AV) (i : Int) (hr : rs.length ≤ 1048576) (hs : ss.length ≤ 1048576) (he : (rs.length : Int) = vs.length) (hnow : now ≤ 1000) (h0 : 0 ≤ i) (hn : i < ss.length) :
    R18_0 ss ss.length ss now vs rs ps i = bif badS vs rs ss now i then .stop (L16 ss i) else .next (i + 1) := by
  have hk := rowK_lt rs (fI (ss.getD i.toNat .undef) 1)
  have ek : v72_0 vs rs ps (fI (ss.getD i.toNat .undef) 1) = rowK rs (fI (ss.getD i.toNat .undef) 1) := (P90 rs _ hr).2
  simp only [R18_0, F18_0, h0, hn, decide_true, Bool.and_self, cond_true, (P72 vs rs ps _ hr).1, ek]
  rw [wrap_in (a := i + 1) (by omega) (by omega), wrap_in (a := i - 1) (by omega) (by omega)]
  unfold badS L16 badT
  generalize rowK rs (fI (ss.getD i.toNat AV.undef) 1) = k at *
  by_cases hk0 : k < 0
  · rw [decide_eq_true hk0]; rfl
  have k1 : decide (0 ≤ k) = true := decide_eq_true (by omega)
  have k2 : decide (k < (vs.length : Int)) = true := decide_eq_true (by omega)
  rw [decide_eq_false hk0, k1, k2]
  generalize decide (fI (vs.getD k.toNat AV.undef) 0 = fI (ss.getD i.toNat AV.undef) 0) = b1
  generalize fI (ss.getD i.toNat AV.undef) 2 = bo
  generalize fI (ss.getD i.toNat AV.undef) 3 = di
  rw [dlt bo 0, dgt bo now, dgt di now]
  generalize decide (0 ≤ bo) = b2
  generalize decide (bo ≤ now) = b7
  generalize decide (di = -1) = b3
  generalize decide (di ≤ bo) = b5
  generalize decide (di ≤ now) = b6
  by_cases hi : i > 0
  · have hm : decide (0 ≤ i - 1) = true := decide_eq_true (by omega)
    have hm' : decide (i - 1 < (ss.length : Int)) = true := decide_eq_true (by omega)
    rw [decide_eq_true hi, hm, hm', show decide (fI (ss.getD (i - 1).toNat AV.undef) 1 ≥ fI (ss.getD i.toNat AV.undef) 1) = decide (fI (ss.getD i.toNat AV.undef) 1 ≤ fI (ss.getD (i - 1).toNat AV.undef) 1) from rfl]
    generalize decide (fI (ss.getD i.toNat AV.undef) 1 ≤ fI (ss.getD (i - 1).toNat AV.undef) 1) = b4
    cases b1 <;> cases b2 <;> cases b3 <;> cases b4 <;> cases b5 <;> cases b6 <;> cases b7 <;> rfl
  · rw [decide_eq_false hi]
    cases b1 <;> cases b2 <;> cases b3 <;> cases b5 <;> cases b6 <;> cases b7 <;> rfl
def isS (ss : List AV) (now : Int) (vs rs ps : List AV) : Bool := isC vs rs ps && (decide ((ss.length : Int) = vs.length) && ((decide (0 ≤ now) && decide (now ≤ 1000)) && noneB (badS vs rs ss now) ss.length))
theorem isC_len {vs rs ps : List AV} (h : isC vs rs ps = true) : (rs.length : Int) = vs.length := by
  unfold isC at h
  simp only [Bool.and_eq_true, decide_eq_true_eq] at h
  exact h.2.1
theorem P16 (ss : List AV) (now : Int) (vs rs ps : List AV) (hs : ss.length ≤ 1048576) (h : vs.length ≤ 1048576) (h' : rs.length ≤ 1048576) (h'' : ps.length ≤ 1048576) : q16 ss now vs rs ps = true ∧ v16_0 ss now vs rs ps = isS ss now vs rs ps := by
  unfold q16 v16_0 isS
  rw [(P67 vs rs ps h h' h'').1, (P67 vs rs ps h h' h'').2, v68]
  cases hc : isC vs rs ps with
  | false => exact ⟨rfl, rfl⟩
  | true =>
    cases decide ((ss.length : Int) = vs.length) with
    | false => exact ⟨rfl, rfl⟩
    | true =>
      cases hnow : (decide (0 ≤ now) && decide (now ≤ 1000)) with
      | false => exact ⟨rfl, rfl⟩
      | true =>
        simp only [Bool.and_eq_true, decide_eq_true_eq] at hnow
        have hr : runW (R16_0 ss now vs rs ps) (((ss.length : Int) - 0).toNat + 1) 0 = some (ro (findF (badS vs rs ss now) ss.length 0) (.inl ()) (L16 ss)) := by
          refine runW_find (fun i => i) ss.length _ _ _ (fun i h0 hn => step16 ss now vs rs ps i h' hs (isC_len hc) hnow.2 h0 hn) ?_ ss.length _ 0 (Int.le_refl 0) (by omega) (by omega)
          simp only [R16_0, F16_0, Int.lt_irrefl, decide_false, cond_false]
        rw [hr]
        unfold noneB
        cases findF (badS vs rs ss now) ss.length 0 <;> exact ⟨rfl, rfl⟩
theorem P18 (ss : List AV) (now : Int) (vs rs ps : List AV) (hs : ss.length ≤ 1048576) (h : vs.length ≤ 1048576) (h' : rs.length ≤ 1048576) (h'' : ps.length ≤ 1048576) : q18 ss now vs rs ps = true ∧ v18_0 ss now vs rs ps = isS ss now vs rs ps := by
  unfold q18 v18_0 isS
  rw [(P71 vs rs ps h h' h'').1, (P71 vs rs ps h h' h'').2, dlt now 0, dgt now 1000]
  cases hc : isC vs rs ps with
  | false => exact ⟨rfl, rfl⟩
  | true =>
    cases decide ((ss.length : Int) = vs.length) with
    | false => exact ⟨rfl, rfl⟩
    | true =>
      cases hn1 : decide (0 ≤ now) with
      | false => exact ⟨rfl, rfl⟩
      | true =>
        cases hn2 : decide (now ≤ 1000) with
        | false => exact ⟨rfl, rfl⟩
        | true =>
          simp only [decide_eq_true_eq] at hn1 hn2
          have hr : runW (R18_0 ss ss.length ss now vs rs ps) (((ss.length : Int) - 0).toNat + 1) 0 = some (ro (findF (badS vs rs ss now) ss.length 0) (.inl ()) (L16 ss)) := by
            refine runW_find (fun i => i) ss.length _ _ _ (fun i h0 hn => step18 ss now vs rs ps i h' hs (isC_len hc) hn2 h0 hn) ?_ ss.length _ 0 (Int.le_refl 0) (by omega) (by omega)
            simp only [R18_0, F18_0, Int.lt_irrefl, decide_false, cond_false]
          rw [hr]
          unfold noneB
          cases findF (badS vs rs ss now) ss.length 0 <;> exact ⟨rfl, rfl⟩
theorem P40 (v0 r0 p0 v1 r1 p1 : List AV) (h1 : v0.length ≤ 1048576) (h2 : r0.length ≤ 1048576) (h3 : p0.length ≤ 1048576) : q40 v0 r0 p0 v1 r1 p1 = true ∧ v40_0 v0 r0 p0 v1 r1 p1 = (eqL ee1 v0 v1 && eqL ee1 r0 r1 && eqL ee2 p0 p1) := by
  unfold q40 v40_0
  rw [(P34 v0 v1 h1).1, (P34 v0 v1 h1).2, (P34 r0 r1 h2).1, (P34 r0 r1 h2).2, (P94 p0 p1 h3).1, (P94 p0 p1 h3).2]
  cases eqL ee1 v0 v1 <;> cases eqL ee1 r0 r1 <;> cases eqL ee2 p0 p1 <;> exact ⟨rfl, rfl⟩
theorem P38 (v r p : List AV) (h1 : v.length ≤ 1048576) (h2 : r.length ≤ 1048576) (h3 : p.length ≤ 1048576) : q38 v r p = true ∧ v38_0 v r p = v.map cp30 ∧ v38_1 v r p = r.map cp30 ∧ v38_2 v r p = p.map cp93 := by
  unfold q38 v38_0 v38_1 v38_2
  rw [(P30 v h1).1, (P30 r h2).1, (P93 p h3).1]
  exact ⟨rfl, (P30 v h1).2, (P30 r h2).2, (P93 p h3).2⟩
theorem P17 (s : List AV) (n : Int) (v r p : List AV) (h0 : s.length ≤ 1048576) (h1 : v.length ≤ 1048576) (h2 : r.length ≤ 1048576) (h3 : p.length ≤ 1048576) : q17 s n v r p = true ∧ v17_0 s n v r p = s.map cp70 ∧ v17_1 s n v r p = n ∧ v17_2 s n v r p = v.map cp30 ∧ v17_3 s n v r p = r.map cp30 ∧ v17_4 s n v r p = p.map cp93 := by
  unfold q17 v17_0 v17_1 v17_2 v17_3 v17_4
  obtain ⟨a, b, c, d⟩ := P38 v r p h1 h2 h3
  rw [(P70 s h0).1, a]
  exact ⟨rfl, (P70 s h0).2, rfl, b, c, d⟩
theorem P19 (s : List AV) (n : Int) (v r p s1 : List AV) (n1 : Int) (v1 r1 p1 : List AV) (h0 : s.length ≤ 1048576) (h1 : v.length ≤ 1048576) (h2 : r.length ≤ 1048576) (h3 : p.length ≤ 1048576) : q19 s n v r p s1 n1 v1 r1 p1 = true ∧ v19_0 s n v r p s1 n1 v1 r1 p1 = (eqL ee4 s s1 && decide (n = n1) && (eqL ee1 v v1 && eqL ee1 r r1 && eqL ee2 p p1)) := by
  unfold q19 v19_0
  rw [(P73 s s1 h0).1, (P73 s s1 h0).2, (P40 v r p v1 r1 p1 h1 h2 h3).1, (P40 v r p v1 r1 p1 h1 h2 h3).2]
  cases eqL ee4 s s1 <;> cases decide (n = n1) <;> cases (eqL ee1 v v1 && eqL ee1 r r1 && eqL ee2 p p1) <;> exact ⟨rfl, rfl⟩
theorem P19s (s : List AV) (n : Int) (v r p : List AV) (h0 : s.length ≤ 1048576) (h1 : v.length ≤ 1048576) (h2 : r.length ≤ 1048576) (h3 : p.length ≤ 1048576) : q19 s n v r p s n v r p = true ∧ v19_0 s n v r p s n v r p = true := by
  obtain ⟨a, b⟩ := P19 s n v r p s n v r p h0 h1 h2 h3
  refine ⟨a, b.trans ?_⟩
  rw [eqL_self ee4_self, eqL_self ee1_self, eqL_self ee1_self, eqL_self ee2_self]
  simp
theorem store_args {t : Nat} {x : AV} (h : TA Try.prog t x) (ha : aggT Try.prog t = some true) (hc : ctsT Try.prog 7 t = [.sl [.int .i64, .int .i64, .int .i64, .int .i64], .int .i64, .sl [.int .i64], .sl [.int .i64], .sl [.int .i64, .int .i64]]) : ∃ s n v r p, x = .agg [.sl [.int .i64, .int .i64, .int .i64, .int .i64] s, .int .i64 n, .sl [.int .i64] v, .sl [.int .i64] r, .sl [.int .i64, .int .i64] p] ∧ s.length ≤ 9223372036854775807 ∧ v.length ≤ 9223372036854775807 ∧ r.length ≤ 9223372036854775807 ∧ p.length ≤ 9223372036854775807 := by
  obtain ⟨cs, rfl, h1⟩ := ta_agg h ha hc
  obtain ⟨x0, _, rfl, g0, h2⟩ := tws_cons h1
  obtain ⟨x1, _, rfl, g1, h3⟩ := tws_cons h2
  obtain ⟨x2, _, rfl, g2, h4⟩ := tws_cons h3
  obtain ⟨x3, _, rfl, g3, h5⟩ := tws_cons h4
  obtain ⟨x4, _, rfl, g4, h6⟩ := tws_cons h5
  obtain rfl := tws_nil h6
  obtain ⟨s, rfl, l0, _⟩ := tw_sl g0
  obtain ⟨n, rfl, _⟩ := tw_int g1
  obtain ⟨v, rfl, l2, _⟩ := tw_sl g2
  obtain ⟨r, rfl, l3, _⟩ := tw_sl g3
  obtain ⟨p, rfl, l4, _⟩ := tw_sl g4
  exact ⟨s, n, v, r, p, rfl, l0, l2, l3, l4⟩
theorem P127 (v r p : List AV) (h1 : v.length ≤ 1048576) (h2 : r.length ≤ 1048576) (h3 : p.length ≤ 1048576) : q127 v r p = true ∧ v127_0 v r p = v ∧ v127_1 v r p = r ∧ v127_2 v r p = p := by
  unfold q127 v127_0 v127_1 v127_2
  simp only [List.length_nil, Nat.zero_add, List.nil_append]
  rw [decide_eq_true (by omega : v.length * 8 ≤ 140737488355328), decide_eq_true (by omega : v.length ≤ 140737488355328), decide_eq_true (by omega : r.length * 8 ≤ 140737488355328), decide_eq_true (by omega : r.length ≤ 140737488355328), decide_eq_true (by omega : p.length * 16 ≤ 140737488355328), decide_eq_true (by omega : p.length ≤ 140737488355328)]
  simp
theorem P74 (s : List AV) (n : Int) (v r p : List AV) (h0 : s.length ≤ 1048576) (h1 : v.length ≤ 1048576) (h2 : r.length ≤ 1048576) (h3 : p.length ≤ 1048576) : q74 s n v r p = true ∧ v74_0 s n v r p = s ∧ v74_1 s n v r p = n ∧ v74_2 s n v r p = v ∧ v74_3 s n v r p = r ∧ v74_4 s n v r p = p := by
  obtain ⟨a, b, c, d⟩ := P127 v r p h1 h2 h3
  unfold q74 v74_0 v74_1 v74_2 v74_3 v74_4
  simp only [List.length_nil, Nat.zero_add, List.nil_append, a, b, c, d]
  rw [decide_eq_true (by omega : s.length * 32 ≤ 140737488355328), decide_eq_true (by omega : s.length ≤ 140737488355328)]
  simp
theorem P128 (xs : List AV) (h : xs.length ≤ 1048576) : q128 xs = true ∧ v128_0 xs = xs := by
  unfold q128 v128_0
  rw [decide_eq_true (by omega : xs.length * 32 ≤ 140737488355328), decide_eq_true (by omega : xs.length ≤ 140737488355328)]
  exact ⟨rfl, rfl⟩
theorem P139 (xs : List AV) (h : xs.length ≤ 1048576) : q139 xs = true ∧ v139_0 xs = xs := by
  unfold q139 v139_0
  rw [decide_eq_true (by omega : xs.length * 8 ≤ 140737488355328), decide_eq_true (by omega : xs.length ≤ 140737488355328)]
  exact ⟨rfl, rfl⟩
theorem P164 (xs : List AV) (h : xs.length ≤ 1048576) : q164 xs = true ∧ v164_0 xs = xs := by
  unfold q164 v164_0
  rw [decide_eq_true (by omega : xs.length * 16 ≤ 140737488355328), decide_eq_true (by omega : xs.length ≤ 140737488355328)]
  exact ⟨rfl, rfl⟩
theorem P129 (v r p : List AV) (h1 : v.length ≤ 1048576) (h2 : r.length ≤ 1048576) (h3 : p.length ≤ 1048576) : q129 v r p = true ∧ v129_0 v r p = v ∧ v129_1 v r p = r ∧ v129_2 v r p = p := by
  unfold q129 v129_0 v129_1 v129_2
  rw [(P139 v h1).1, (P139 r h2).1, (P164 p h3).1]
  exact ⟨rfl, rfl, rfl, rfl⟩
theorem P75 (s : List AV) (n : Int) (v r p : List AV) (h0 : s.length ≤ 1048576) (h1 : v.length ≤ 1048576) (h2 : r.length ≤ 1048576) (h3 : p.length ≤ 1048576) : q75 s n v r p = true ∧ v75_0 s n v r p = s ∧ v75_1 s n v r p = n ∧ v75_2 s n v r p = v ∧ v75_3 s n v r p = r ∧ v75_4 s n v r p = p := by
  obtain ⟨a, b, c, d⟩ := P129 v r p h1 h2 h3
  unfold q75 v75_0 v75_1 v75_2 v75_3 v75_4
  rw [(P128 s h0).1, a]
  exact ⟨rfl, rfl, rfl, b, c, d⟩
theorem markheld (s : List AV) (n : Int) (v r p : List AV) (k : Int) (h0 : s.length ≤ 1048576) (h1 : v.length ≤ 1048576) (h2 : r.length ≤ 1048576) (h3 : p.length ≤ 1048576) (hk : 0 ≤ k) (hk' : k ≤ 1000000000) :
    q22 n k s v r p = true ∧ q23 (v22_1 n k s v r p) n (v22_2 n k s v r p) (v22_3 n k s v r p) (v22_4 n k s v r p) k = true ∧ v23_0 (v22_1 n k s v r p) n (v22_2 n k s v r p) (v22_3 n k s v r p) (v22_4 n k s v r p) k = v22_0 n k s v r p ∧ 0 ≤ v22_0 n k s v r p ∧ v22_0 n k s v r p ≤ k + 11000000 := by
  unfold q23 v23_0 q22 v22_0 v22_1 v22_2 v22_3 v22_4 q44 v44_0 v44_1 v44_2 v44_3 q50 v50_0
  obtain ⟨s', a1, a2, a3, a4, a5⟩ := P78 s k h0 (by omega) (by omega)
  obtain ⟨v', b1, b2, b3, b4, b5⟩ := P49 v (k + 4 * s.length) h1 (by omega) (by omega)
  obtain ⟨r', c1, c2, c3, c4, c5⟩ := P49 r (k + 4 * s.length + 1 * v.length) h2 (by omega) (by omega)
  obtain ⟨p', d1, d2, d3, d4, d5⟩ := P101 p (k + 4 * s.length + 1 * v.length + 1 * r.length) h3 (by omega) (by omega)
  obtain ⟨f1, f2⟩ := P79 s' k (by omega) (by omega) (by omega) (by rw [a4]; exact a5)
  obtain ⟨g1, g2⟩ := P59 v' (k + 4 * s.length) (by omega) (by omega) (by omega) (by rw [b4]; exact b5)
  obtain ⟨i1, i2⟩ := P59 r' (k + 4 * s.length + 1 * v.length) (by omega) (by omega) (by omega) (by rw [c4]; exact c5)
  obtain ⟨j1, j2⟩ := P109 p' (k + 4 * s.length + 1 * v.length + 1 * r.length) (by omega) (by omega) (by omega) (by rw [d4]; exact d5)
  have n1 : decide (k + 4 * s.length < 0) = false := decide_eq_false (by omega)
  have n2 : decide (k + 4 * s.length + 1 * v.length < 0) = false := decide_eq_false (by omega)
  have n3 : decide (k + 4 * s.length + 1 * v.length + 1 * r.length < 0) = false := decide_eq_false (by omega)
  have n4 : decide (k + 4 * s.length + 1 * v.length + 1 * r.length + 2 * p.length < 0) = false := decide_eq_false (by omega)
  simp only [a1, a2, a3, b1, b2, b3, c1, c2, c3, d1, d2, d3, f1, f2, a4, g1, g2, b4, i1, i2, c4, j1, j2, d4, n1, n2, n3, n4, cond_false, Bool.and_self, true_and]
  omega

end Go.Proofs.Ytepfklcdpkpepaa
