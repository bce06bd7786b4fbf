/- helpers of columns and journals -/
import Derived.Test.YtmlhhemflhiinaaRWf
namespace Go.Proofs.Ytmlhhemflhiinaa
open Go Go.Proofs.VE
set_option linter.unusedVariables false
set_option linter.unusedSimpArgs false
theorem P9 (v0 r0 p0 v1 r1 p1 : List AV) (h1 : v0.length ≤ 1048576) (h2 : r0.length ≤ 1048576) (h3 : p0.length ≤ 1048576) : q9 v0 r0 p0 v1 r1 p1 = true ∧ v9_0 v0 r0 p0 v1 r1 p1 = (eqL ee1 v0 v1 && eqL ee1 r0 r1 && eqL ee2 p0 p1) := by
  unfold q9 v9_0
  rw [(P10 v0 v1 h1).1, (P10 v0 v1 h1).2, (P10 r0 r1 h2).1, (P10 r0 r1 h2).2, (P23 p0 p1 h3).1, (P23 p0 p1 h3).2]
  cases eqL ee1 v0 v1 <;> cases eqL ee1 r0 r1 <;> cases eqL ee2 p0 p1 <;> exact ⟨rfl, rfl⟩
theorem P43s (xs : List AV) (h : xs.length ≤ 1048576) : q11 xs xs = true ∧ v11_0 xs xs = true := ⟨(P11 xs xs h).1, (P11 xs xs h).2.trans (eqL_self ee4_self xs)⟩
theorem P34s (xs : List AV) (h : xs.length ≤ 1048576) : q10 xs xs = true ∧ v10_0 xs xs = true := ⟨(P10 xs xs h).1, (P10 xs xs h).2.trans (eqL_self ee1_self xs)⟩
theorem P40s (v r p : List AV) (h1 : v.length ≤ 1048576) (h2 : r.length ≤ 1048576) (h3 : p.length ≤ 1048576) : q9 v r p v r p = true ∧ v9_0 v r p v r p = true := by
  obtain ⟨a, b⟩ := P9 v r p v r p h1 h2 h3
  refine ⟨a, b.trans ?_⟩
  rw [eqL_self ee1_self, eqL_self ee1_self, eqL_self ee2_self]
  rfl
theorem mC (v r p : List AV) (k : Int) (h1 : v.length ≤ 1048576) (h2 : r.length ≤ 1048576) (h3 : p.length ≤ 1048576) (hk : 0 ≤ k) (hk' : k ≤ 1000000000) : q14 k v r p = true ∧ 0 ≤ v14_0 k v r p := by
  unfold q14 v14_0
  obtain ⟨v', b1, b2, b3, b4, b5⟩ := P12 v k h1 (by omega) (by omega)
  obtain ⟨r', c1, c2, c3, c4, c5⟩ := P12 r (k + 1 * v.length) h2 (by omega) (by omega)
  obtain ⟨p', d1, d2, d3, d4, d5⟩ := P25 p (k + 1 * v.length + 1 * r.length) h3 (by omega) (by omega)
  simp only [b1, b2, b3, c1, c2, c3, d1, d2, d3, Bool.and_self, true_and]
  omega
theorem mhC (v r p : List AV) (k : Int) (h1 : v.length ≤ 1048576) (h2 : r.length ≤ 1048576) (h3 : p.length ≤ 1048576) (hk : 0 ≤ k) (hk' : k ≤ 1000000000) :
    q14 k v r p = true ∧ q15 (v14_1 k v r p) (v14_2 k v r p) (v14_3 k v r p) k = true ∧ v15_0 (v14_1 k v r p) (v14_2 k v r p) (v14_3 k v r p) k = v14_0 k v r p ∧ 0 ≤ v14_0 k v r p ∧ v14_0 k v r p ≤ k + 6000000 := by
  unfold q14 v14_0 v14_1 v14_2 v14_3 q15 v15_0
  obtain ⟨v', b1, b2, b3, b4, b5⟩ := P12 v k h1 (by omega) (by omega)
  obtain ⟨r', c1, c2, c3, c4, c5⟩ := P12 r (k + 1 * v.length) h2 (by omega) (by omega)
  obtain ⟨p', d1, d2, d3, d4, d5⟩ := P25 p (k + 1 * v.length + 1 * r.length) h3 (by omega) (by omega)
  obtain ⟨g1, g2⟩ := P26 v' k (by omega) (by omega) (by omega) (by rw [b4]; exact b5)
  obtain ⟨i1, i2⟩ := P26 r' (k + 1 * v.length) (by omega) (by omega) (by omega) (by rw [c4]; exact c5)
  obtain ⟨j1, j2⟩ := P27 p' (k + 1 * v.length + 1 * r.length) (by omega) (by omega) (by omega) (by rw [d4]; exact d5)
  have n2 : decide (k + 1 * v.length < 0) = false := decide_eq_false (by omega)
  have n3 : decide (k + 1 * v.length + 1 * r.length < 0) = false := decide_eq_false (by omega)
  have n4 : decide (k + 1 * v.length + 1 * r.length + 2 * p.length < 0) = false := decide_eq_false (by omega)
  simp only [b1, b2, b3, c1, c2, c3, d1, d2, d3, g1, g2, b4, i1, i2, c4, j1, j2, d4, n2, n3, n4, cond_false, Bool.and_self, true_and]
  omega
theorem mE (w : List AV) (k : Int) (h : w.length ≤ 1048576) (hk : 0 ≤ k) (hk' : k ≤ 1000000000) : q13 k w = true ∧ 0 ≤ v13_0 k w ∧ v13_0 k w ≤ k + 6000000 := by
  obtain ⟨v', b1, b2, b3, b4, b5⟩ := P13 w k h (by omega) (by omega)
  rw [b1, b2]
  refine ⟨rfl, ?_, ?_⟩ <;> omega
theorem mI (w : List AV) (k : Int) (h : w.length ≤ 1048576) (hk : 0 ≤ k) (hk' : k ≤ 1000000000) : q12 k w = true ∧ 0 ≤ v12_0 k w ∧ v12_0 k w ≤ k + 6000000 := by
  obtain ⟨v', b1, b2, b3, b4, b5⟩ := P12 w k h (by omega) (by omega)
  rw [b1, b2]
  refine ⟨rfl, ?_, ?_⟩ <;> omega
theorem mhI (w : List AV) (k : Int) (h : w.length ≤ 1048576) (hk : 0 ≤ k) (hk' : k ≤ 1000000000) : q12 k w = true ∧ q26 (v12_1 k w) k = true ∧ v26_0 (v12_1 k w) k = v12_0 k w ∧ 0 ≤ v12_0 k w ∧ v12_0 k w ≤ k + 6000000 := by
  obtain ⟨v', b1, b2, b3, b4, b5⟩ := P12 w k h (by omega) (by omega)
  obtain ⟨g1, g2⟩ := P26 v' k (by omega) (by omega) (by omega) (by rw [b4]; exact b5)
  rw [b3, b1, b2, g1, g2, b4]
  refine ⟨rfl, rfl, rfl, ?_, ?_⟩ <;> omega
theorem crack_args {t : Nat} {x : AV} (h : TA Try.prog t x) (ha : aggT Try.prog t = some true) (hc : ctsT Try.prog 7 t = [.sl [.int .i64], .sl [.int .i64], .sl [.int .i64, .int .i64]]) : ∃ v r p, x = .agg [.sl [.int .i64] v, .sl [.int .i64] r, .sl [.int .i64, .int .i64] p] ∧ v.length ≤ 9223372036854775807 ∧ r.length ≤ 9223372036854775807 ∧ p.length ≤ 9223372036854775807 := by
  obtain ⟨cs, rfl, h1⟩ := ta_agg h ha hc
  obtain ⟨x2, _, rfl, g2, h4⟩ := tws_cons h1
  obtain ⟨x3, _, rfl, g3, h5⟩ := tws_cons h4
  obtain ⟨x4, _, rfl, g4, h6⟩ := tws_cons h5
  obtain rfl := tws_nil h6
  obtain ⟨v, rfl, l2, _⟩ := tw_sl g2
  obtain ⟨r, rfl, l3, _⟩ := tw_sl g3
  obtain ⟨p, rfl, l4, _⟩ := tw_sl g4
  exact ⟨v, r, p, rfl, l2, l3, l4⟩

end Go.Proofs.Ytmlhhemflhiinaa
