/- the law -/
import Derived.Test.YtmlhhemflhiinaaRWl
namespace Go.Proofs.Ytmlhhemflhiinaa
open Go Go.Proofs.VE
set_option linter.unusedVariables false
set_option linter.unusedSimpArgs false
/-- One round, both: dividing a valid column leaves it valid. -/
theorem roundC {vs rs ps : List AV} (h : Col vs rs ps) (hN : N2 ps) {v : Int} (hv : -1000 ≤ v ∧ v ≤ 1000) :
    q18 vs rs ps v = true ∧ q22 vs rs ps v = true ∧ v22_0 vs rs ps v = v18_0 vs rs ps v ∧ v22_1 vs rs ps v = v18_1 vs rs ps v ∧ v22_2 vs rs ps v = v18_2 vs rs ps v ∧
      Col (v18_0 vs rs ps v) (v18_1 vs rs ps v) (v18_2 vs rs ps v) ∧ N2 (v18_2 vs rs ps v) := by
  cases hf : (findP ps v).isSome with
  | true =>
    obtain ⟨⟨c0, c1, c2, c3, c4, c5⟩, d0, d1, d2, d3, d4⟩ := crack_old h hv hf
    rw [c0, c1, c2, c3, d0, d1, d2, d3]
    exact ⟨rfl, rfl, rfl, rfl, rfl, h, hN⟩
  | false =>
    obtain ⟨a, b, at_, ss, hcr⟩ := crack_new h hN hv hf
    obtain ⟨c0, c1, c2, c3, c4, c5⟩ := hcr.c
    obtain ⟨d0, d1, d2, d3, d4⟩ := hcr.c'
    rw [c0, c1, c2, c3, d0, d1, d2, d3]
    exact ⟨rfl, rfl, rfl, rfl, rfl, hcr.ok, hcr.n2⟩
abbrev WC := Int × List AV × List AV × List AV
structure WorkC (ts : List AV) (s s' : WC) : Prop where
  e : s' = s
  k0 : 0 ≤ s.1
  k1 : s.1 ≤ ts.length
  c : Col s.2.1 s.2.2.1 s.2.2.2
  n : N2 s.2.2.2
theorem run5 (ts vs rs ps : List AV) (hl : ts.length ≤ 60) (hv : ∀ k : Int, 0 ≤ k → k < ts.length → -1000 ≤ fI (ts.getD k.toNat .undef) 0 ∧ fI (ts.getD k.toNat .undef) 0 ≤ 1000) (hc : Col vs rs ps) (hN : N2 ps) :
    ∃ r, runW (R5_0 ts) (((ts.length : Int) - 0).toNat + 1) (0, vs, rs, ps) = some r ∧ runW (R8_0 ts ts.length) (((ts.length : Int) - 0).toNat + 1) (0, vs, rs, ps) = some r ∧ Col r.1 r.2.1 r.2.2 := by
  obtain ⟨r, r', h1, h2, h3, h4⟩ := runW_pair (f := R5_0 ts) (g := R8_0 ts ts.length) (WorkC ts) (fun (r r' : List AV × List AV × List AV) => r' = r ∧ Col r.1 r.2.1 r.2.2) (fun s => ((ts.length : Int) - s.1).toNat) (fun s s' hI => by
    obtain ⟨rfl, k0, k1, c, n⟩ := hI
    obtain ⟨k, x, y, z⟩ := s'
    simp only at k0 k1 c n
    by_cases hk : k < ts.length
    · have d1 : decide (k < (ts.length : Int)) = true := decide_eq_true hk
      have d2 : decide (0 ≤ k) = true := decide_eq_true k0
      obtain ⟨u1, u2, u3, u4, u5, u6, u7⟩ := roundC c n (hv k k0 hk)
      have wk : IntKind.i64.wrap (k + 1) = k + 1 := wrap_in (by omega) (by omega)
      refine .inl ⟨(k + 1, v18_0 x y z (fI (ts.getD k.toNat AV.undef) 0), v18_1 x y z (fI (ts.getD k.toNat AV.undef) 0), v18_2 x y z (fI (ts.getD k.toNat AV.undef) 0)), (k + 1, v18_0 x y z (fI (ts.getD k.toNat AV.undef) 0), v18_1 x y z (fI (ts.getD k.toNat AV.undef) 0), v18_2 x y z (fI (ts.getD k.toNat AV.undef) 0)), ?_, ?_, ⟨rfl, ?_, ?_, u6, u7⟩, ?_⟩
      · simp only [R5_0, F5_0, d1, d2, u1, wk, Bool.and_self, cond_true]
      · simp only [R8_0, F8_0, d1, d2, u2, u3, u4, u5, wk, Bool.and_self, cond_true]
      · simp only; omega
      · simp only; omega
      · simp only; omega
    · have d1 : decide (k < (ts.length : Int)) = false := decide_eq_false hk
      refine .inr ⟨(x, y, z), (x, y, z), ?_, ?_, rfl, c⟩
      · simp only [R5_0, F5_0, d1, cond_false]
      · simp only [R8_0, F8_0, d1, cond_false]) (((ts.length : Int) - 0).toNat + 1) (((ts.length : Int) - 0).toNat + 1) (0, vs, rs, ps) (0, vs, rs, ps) ⟨rfl, by simp, by simp, hc, hN⟩ (by simp) (by simp)
  subst h3
  exact ⟨r', h1, h2, h4⟩
/-- ResumeWork, both. -/
theorem same5 (xs es : List AV) (n : Int) (ts : List AV) (h1 : xs.length ≤ 1048576) (h2 : es.length ≤ 1048576) (h3 : ts.length ≤ 1048576) :
    (q5 xs es n ts = true ∧ q8 xs es n ts = true) ∧ (v8_0 xs es n ts = v5_0 xs es n ts ∧ v8_1 xs es n ts = v5_1 xs es n ts ∧ v8_2 xs es n ts = v5_2 xs es n ts ∧ v8_3 xs es n ts = v5_3 xs es n ts) ∧
      ((v5_0 xs es n ts).length ≤ 1048576 ∧ (v5_1 xs es n ts).length ≤ 1048576 ∧ (v5_2 xs es n ts).length ≤ 1048576) := by
  obtain ⟨⟨x1, x2⟩, ⟨x3, x4, x5, x6⟩, g0, g1, g2⟩ := same16 xs es n h1 h2
  have hok := ok55 xs es n h1 h2
  unfold q5 q8 v5_0 v5_1 v5_2 v5_3 v8_0 v8_1 v8_2 v8_3
  rw [x1, x2, x3, x4, x5, x6, (P17 ts h3).1, (P21 ts h3).1, (P21 ts h3).2]
  cases hv : v16_3 xs es n with
  | false =>
    simp only [Bool.not_false, cond_true, cond_false, Bool.and_self]
    exact ⟨⟨trivial, trivial⟩, ⟨by first | trivial | rfl, by first | trivial | rfl, by first | trivial | rfl, by first | trivial | rfl⟩, by simp, by simp, by simp⟩
  | true =>
    cases ht : v17_0 ts with
    | false =>
      simp only [Bool.not_false, Bool.not_true, cond_true, cond_false, Bool.and_self]
      exact ⟨⟨trivial, trivial⟩, ⟨by first | trivial | rfl, by first | trivial | rfl, by first | trivial | rfl, by first | trivial | rfl⟩, by simp, by simp, by simp⟩
    | true =>
      obtain ⟨y1, y2⟩ := hist h3 ht
      obtain ⟨c, nz⟩ := hok hv
      obtain ⟨r, k1, k2, k3⟩ := run5 ts _ _ _ y1 y2 c nz
      have n1 := k3.n64
      have n2 := k3.len
      have n3 := col_few k3
      simp only [Bool.not_true, cond_true, cond_false, Bool.true_and]
      rw [k1, k2]
      exact ⟨⟨by first | trivial | rfl, by first | trivial | rfl⟩, ⟨by first | trivial | rfl, by first | trivial | rfl, by first | trivial | rfl, by first | trivial | rfl⟩, by simp only [ro]; omega, by simp only [ro]; omega, by simp only [ro]; omega⟩
theorem raw3_true (xs es : List AV) (n : Int) (ts : List AV) (a1 : xs.length ≤ 9223372036854775807) (a2 : es.length ≤ 9223372036854775807) (a3 : ts.length ≤ 9223372036854775807) : raw3 xs es n ts = some (.bool true) := by
  unfold raw3
  by_cases c1 : (xs.length : Int) > 1048576
  · rw [decide_eq_true c1]
    rfl
  by_cases c3 : (ts.length : Int) > 1048576
  · rw [decide_eq_false c1, decide_eq_true c3]
    rfl
  rw [decide_eq_false c1, decide_eq_false c3, P4 a2 (by omega) (by omega)]
  by_cases c2 : (1048576 : Int) < es.length
  · rw [if_pos c2]
    rfl
  rw [if_neg c2, decide_eq_false (by omega : ¬ (1048576 : Int) - (es.length : Int) < 0)]
  obtain ⟨t1, t2⟩ := P6 xs (by omega)
  obtain ⟨s1, s2⟩ := P6 ts (by omega)
  obtain ⟨u1, u2⟩ := P7 es (by omega)
  have l1 : (xs.map cp6).length ≤ 1048576 := by rw [List.length_map]; omega
  have l2 : (es.map cp7).length ≤ 1048576 := by rw [List.length_map]; omega
  have l3 : (ts.map cp6).length ≤ 1048576 := by rw [List.length_map]; omega
  generalize xs.map cp6 = xs' at *
  generalize es.map cp7 = es' at *
  generalize ts.map cp6 = ts' at *
  obtain ⟨⟨x1, x2⟩, ⟨x3, x4, x5, x6⟩, g0, g1, g2⟩ := same5 xs' es' n ts' l1 l2 l3
  generalize hd0 : v5_0 xs' es' n ts' = d0 at *
  generalize hd1 : v5_1 xs' es' n ts' = d1 at *
  generalize hd2 : v5_2 xs' es' n ts' = d2 at *
  generalize hd3 : v5_3 xs' es' n ts' = d3 at *
  obtain ⟨z1, z2⟩ := P40s d0 d1 d2 g0 g1 g2
  obtain ⟨i1, i2⟩ := P34s xs' l1
  obtain ⟨j1, j2⟩ := P43s es' l2
  obtain ⟨o1, o2⟩ := P34s ts' l3
  obtain ⟨k1, k4, k5⟩ := mI xs' 1 l1 (by omega) (by omega)
  obtain ⟨k1', k4', k5'⟩ := mE es' (v12_0 1 xs') l2 (by omega) (by omega)
  obtain ⟨k1'', k4'', k5''⟩ := mI ts' (v13_0 (v12_0 1 xs') es') l3 (by omega) (by omega)
  obtain ⟨m1, m2, m3, m4, m5⟩ := mhC d0 d1 d2 1 g0 g1 g2 (by omega) (by omega)
  have e1 : decide (v12_0 (v13_0 (v12_0 1 xs') es') ts' < 0) = false := decide_eq_false (by omega)
  have e2 : decide (v14_0 1 d0 d1 d2 < 0) = false := decide_eq_false (by omega)
  simp only [t1, t2, s1, s2, u1, u2, x1, x2, x3, x4, x5, x6, hd0, hd1, hd2, hd3, z1, z2, i1, i2, j1, j2, o1, o2, k1, k1', k1'', m1, m2, m3, e1, e2, beq_self_eq_true, decide_true, Bool.not_true, cond_false, cond_true]
theorem law3 {x0 x1 x2 x3 : AV} (t0 : TA Try.prog 22 x0) (t1 : TA Try.prog 23 x1) (t2 : TA Try.prog 3 x2) (t3 : TA Try.prog 22 x3) : m3 [x0, x1, x2, x3] = some (true, .bool true) := by
  obtain ⟨xs, rfl, a1, _⟩ := tw_sl (ta_one (ct := .sl [.int .i64]) t0 (by kernel_rfl) (by kernel_rfl))
  obtain ⟨es, rfl, a2, _⟩ := tw_sl (ta_one (ct := .sl [.int .i64, .int .i64, .int .i64, .int .i64]) t1 (by kernel_rfl) (by kernel_rfl))
  obtain ⟨n, rfl, _⟩ := tw_int (ta_one (ct := .int .i64) t2 (by kernel_rfl) (by kernel_rfl))
  obtain ⟨ts, rfl, a3, _⟩ := tw_sl (ta_one (ct := .sl [.int .i64]) t3 (by kernel_rfl) (by kernel_rfl))
  show (raw3 xs es n ts).map (fun r => (true, r)) = _
  rw [raw3_true xs es n ts a1 a2 a3]
  rfl

end Go.Proofs.Ytmlhhemflhiinaa
