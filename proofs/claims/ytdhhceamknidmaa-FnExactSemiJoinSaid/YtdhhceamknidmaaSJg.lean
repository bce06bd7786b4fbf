/- helpers of columns and journals -/
import Derived.Test.YtdhhceamknidmaaSJf
namespace Go.Proofs.Ytdhhceamknidmaa
open Go Go.Proofs.VE
set_option linter.unusedVariables false
set_option linter.unusedSimpArgs false
theorem P40 (v0 r0 p0 v1 r1 p1 : List AV) (h1 : v0.length ≤ 1048576) (h2 : r0.length ≤ 1048576) (h3 : p0.length ≤ 1048576) : q40 v0 r0 p0 v1 r1 p1 = true ∧ v40_0 v0 r0 p0 v1 r1 p1 = (eqL ee1 v0 v1 && eqL ee1 r0 r1 && eqL ee2 p0 p1) := by
  unfold q40 v40_0
  rw [(P30 v0 v1 h1).1, (P30 v0 v1 h1).2, (P30 r0 r1 h2).1, (P30 r0 r1 h2).2, (P90 p0 p1 h3).1, (P90 p0 p1 h3).2]
  cases eqL ee1 v0 v1 <;> cases eqL ee1 r0 r1 <;> cases eqL ee2 p0 p1 <;> exact ⟨rfl, rfl⟩
theorem P38 (v r p : List AV) (h1 : v.length ≤ 1048576) (h2 : r.length ≤ 1048576) (h3 : p.length ≤ 1048576) : q38 v r p = true ∧ v38_0 v r p = v.map cp27 ∧ v38_1 v r p = r.map cp27 ∧ v38_2 v r p = p.map cp89 := by
  unfold q38 v38_0 v38_1 v38_2
  rw [(P27 v h1).1, (P27 r h2).1, (P89 p h3).1]
  exact ⟨rfl, (P27 v h1).2, (P27 r h2).2, (P89 p h3).2⟩
theorem P30s (xs : List AV) (h : xs.length ≤ 1048576) : q30 xs xs = true ∧ v30_0 xs xs = true := ⟨(P30 xs xs h).1, (P30 xs xs h).2.trans (eqL_self ee1_self xs)⟩
theorem P40s (v r p : List AV) (h1 : v.length ≤ 1048576) (h2 : r.length ≤ 1048576) (h3 : p.length ≤ 1048576) : q40 v r p v r p = true ∧ v40_0 v r p v r p = true := by
  obtain ⟨a, b⟩ := P40 v r p v r p h1 h2 h3
  refine ⟨a, b.trans ?_⟩
  rw [eqL_self ee1_self, eqL_self ee1_self, eqL_self ee2_self]
  rfl
theorem mC (v r p : List AV) (k : Int) (h1 : v.length ≤ 1048576) (h2 : r.length ≤ 1048576) (h3 : p.length ≤ 1048576) (hk : 0 ≤ k) (hk' : k ≤ 1000000000) : q43 k v r p = true ∧ 0 ≤ v43_0 k v r p := by
  unfold q43 v43_0
  obtain ⟨v', b1, b2, b3, b4, b5⟩ := P32 v k h1 (by omega) (by omega)
  obtain ⟨r', c1, c2, c3, c4, c5⟩ := P32 r (k + 1 * v.length) h2 (by omega) (by omega)
  obtain ⟨p', d1, d2, d3, d4, d5⟩ := P94 p (k + 1 * v.length + 1 * r.length) h3 (by omega) (by omega)
  simp only [b1, b2, b3, c1, c2, c3, d1, d2, d3, Bool.and_self, true_and]
  omega
theorem mI (w : List AV) (k : Int) (h : w.length ≤ 1048576) (hk : 0 ≤ k) (hk' : k ≤ 1000000000) : q32 k w = true ∧ 0 ≤ v32_0 k w ∧ v32_0 k w ≤ k + 6000000 := by
  obtain ⟨v', b1, b2, b3, b4, b5⟩ := P32 w k h (by omega) (by omega)
  rw [b1, b2]
  refine ⟨rfl, ?_, ?_⟩ <;> omega
theorem mhI (w : List AV) (k : Int) (h : w.length ≤ 1048576) (hk : 0 ≤ k) (hk' : k ≤ 1000000000) : q32 k w = true ∧ q44 (v32_1 k w) k = true ∧ v44_0 (v32_1 k w) k = v32_0 k w ∧ 0 ≤ v32_0 k w ∧ v32_0 k w ≤ k + 6000000 := by
  obtain ⟨v', b1, b2, b3, b4, b5⟩ := P32 w k h (by omega) (by omega)
  obtain ⟨g1, g2⟩ := P44 v' k (by omega) (by omega) (by omega) (by rw [b4]; exact b5)
  rw [b3, b1, b2, g1, g2, b4]
  refine ⟨rfl, rfl, rfl, ?_, ?_⟩ <;> omega
theorem crack_args {t : Nat} {x : AV} (h : TA Try.prog t x) (ha : aggT Try.prog t = some true) (hc : ctsT Try.prog 7 t = [.sl [.int .i64], .sl [.int .i64], .sl [.int .i64, .int .i64]]) : ∃ v r p, x = .agg [.sl [.int .i64] v, .sl [.int .i64] r, .sl [.int .i64, .int .i64] p] ∧ v.length ≤ 9223372036854775807 ∧ r.length ≤ 9223372036854775807 ∧ p.length ≤ 9223372036854775807 := by
  obtain ⟨cs, rfl, h1⟩ := ta_agg h ha hc
  obtain ⟨x2, _, rfl, g2, h4⟩ := tws_cons h1
  obtain ⟨x3, _, rfl, g3, h5⟩ := tws_cons h4
  obtain ⟨x4, _, rfl, g4, h6⟩ := tws_cons h5
  obtain rfl := tws_nil h6
  obtain ⟨v, rfl, l2, _⟩ := tw_sl g2
  obtain ⟨r, rfl, l3, _⟩ := tw_sl g3
  obtain ⟨p, rfl, l4, _⟩ := tw_sl g4
  exact ⟨v, r, p, rfl, l2, l3, l4⟩

end Go.Proofs.Ytdhhceamknidmaa
