/- the law -/
import Derived.Test.YtdhhceamknidmaaSCk
namespace Go.Proofs.Ytdhhceamknidmaa
open Go Go.Proofs.VE
set_option linter.unusedVariables false
set_option linter.unusedSimpArgs false
theorem mC2 (v r p : List AV) (k : Int) (h1 : v.length ≤ 1048576) (h2 : r.length ≤ 1048576) (h3 : p.length ≤ 1048576) (hk : 0 ≤ k) (hk' : k ≤ 100000000) : q43 k v r p = true ∧ 0 ≤ v43_0 k v r p ∧ v43_0 k v r p ≤ k + 6000000 := by
  unfold q43 v43_0
  obtain ⟨v', b1, b2, b3, b4, b5⟩ := P32 v k h1 (by omega) (by omega)
  obtain ⟨r', c1, c2, c3, c4, c5⟩ := P32 r (k + 1 * v.length) h2 (by omega) (by omega)
  obtain ⟨p', d1, d2, d3, d4, d5⟩ := P94 p (k + 1 * v.length + 1 * r.length) h3 (by omega) (by omega)
  simp only [b1, b2, b3, c1, c2, c3, d1, d2, d3, Bool.and_self, true_and]
  omega
theorem mhP (w : List AV) (k : Int) (h : w.length ≤ 1048576) (hk : 0 ≤ k) (hk' : k ≤ 1000000000) : q49 k w = true ∧ q50 (v49_1 k w) k = true ∧ v50_0 (v49_1 k w) k = v49_0 k w ∧ 0 ≤ v49_0 k w := by
  obtain ⟨v', b1, b2, b3, b4, b5⟩ := P49 w k h (by omega) (by omega)
  obtain ⟨g1, g2⟩ := P50 v' k (by omega) (by omega) (by omega) (by rw [b4]; exact b5)
  rw [b3, b1, b2, g1, g2, b4]
  refine ⟨rfl, rfl, rfl, ?_⟩
  omega
theorem raw10_true (v r p v' r' p' : List AV) (a b : Int) (a1 : v.length ≤ 9223372036854775807) (a2 : r.length ≤ 9223372036854775807) (a3 : p.length ≤ 9223372036854775807)
    (b1 : v'.length ≤ 9223372036854775807) (b2 : r'.length ≤ 9223372036854775807) (b3 : p'.length ≤ 9223372036854775807) : raw10 v r p v' r' p' a b = some (.bool true) := by
  unfold raw10
  rw [P36 a1 a2 a3 (by omega) (by omega)]
  by_cases c1 : 1048576 < ((v.length : Int) + (r.length : Int) + (p.length : Int))
  · rw [if_pos c1]
    rfl
  rw [if_neg c1, decide_eq_false (by omega : ¬ (1048576 : Int) - ((v.length : Int) + (r.length : Int) + (p.length : Int)) < 0)]
  rw [P36 b1 b2 b3 (by omega) (by omega)]
  by_cases c2 : (1048576 : Int) - ((v.length : Int) + (r.length : Int) + (p.length : Int)) < ((v'.length : Int) + (r'.length : Int) + (p'.length : Int))
  · rw [if_pos c2]
    rfl
  rw [if_neg c2, decide_eq_false (by omega : ¬ (1048576 : Int) - ((v.length : Int) + (r.length : Int) + (p.length : Int)) - ((v'.length : Int) + (r'.length : Int) + (p'.length : Int)) < 0)]
  obtain ⟨s1, s2, s3, s4⟩ := P38 v r p (by omega) (by omega) (by omega)
  obtain ⟨t1, t2, t3, t4⟩ := P38 v' r' p' (by omega) (by omega) (by omega)
  have l1 : (v.map cp27).length ≤ 1048576 := by rw [List.length_map]; omega
  have l2 : (r.map cp27).length ≤ 1048576 := by rw [List.length_map]; omega
  have l3 : (p.map cp89).length ≤ 1048576 := by rw [List.length_map]; omega
  have m1 : (v'.map cp27).length ≤ 1048576 := by rw [List.length_map]; omega
  have m2 : (r'.map cp27).length ≤ 1048576 := by rw [List.length_map]; omega
  have m3 : (p'.map cp89).length ≤ 1048576 := by rw [List.length_map]; omega
  rw [s1, s2, s3, s4, t1, t2, t3, t4]
  generalize v.map cp27 = v1 at *
  generalize r.map cp27 = r1 at *
  generalize p.map cp89 = p1 at *
  generalize v'.map cp27 = v2 at *
  generalize r'.map cp27 = r2 at *
  generalize p'.map cp89 = p2 at *
  have u1 : v46_0 a b = a := rfl
  have u2 : v46_1 a b = b := rfl
  rw [u1, u2]
  obtain ⟨x1, x2, x3⟩ := P45 v1 r1 p1 v2 r2 p2 a b l1 l2 l3 m1 m2 m3
  obtain ⟨y1, _⟩ := P47 v1 r1 p1 v2 r2 p2 a b l1 l2 l3 m1 m2 m3
  rw [x1, x2, y1]
  generalize v47_0 v1 r1 p1 v2 r2 p2 a b = w at *
  obtain ⟨z1, z2⟩ := P40s v1 r1 p1 l1 l2 l3
  obtain ⟨w1, w2⟩ := P40s v2 r2 p2 m1 m2 m3
  obtain ⟨e1, e2⟩ := P48 w w (by omega)
  rw [eqL_self ee2_self] at e2
  obtain ⟨k1, k2, k3⟩ := mC2 v1 r1 p1 1 l1 l2 l3 (by omega) (by omega)
  obtain ⟨k4, k5, _⟩ := mC2 v2 r2 p2 (v43_0 1 v1 r1 p1) m1 m2 m3 k2 (by omega)
  obtain ⟨o1, o2, o3, o4⟩ := mhP w 1 (by omega) (by omega) (by omega)
  have n1 : decide (v43_0 (v43_0 1 v1 r1 p1) v2 r2 p2 < 0) = false := decide_eq_false (by omega)
  have n2 : decide (v49_0 1 w < 0) = false := decide_eq_false (by omega)
  simp only [z1, z2, w1, w2, e1, e2, k1, k4, n1, o1, o2, o3, n2, decide_true, Bool.not_true, cond_true, cond_false]
theorem law10 {x0 x1 x2 : AV} (t0 : TA Try.prog 25 x0) (t1 : TA Try.prog 25 x1) (t2 : TA Try.prog 61 x2) : m10 [x0, x1, x2] = some (true, .bool true) := by
  obtain ⟨v, r, p, rfl, a1, a2, a3⟩ := crack_args t0 (by kernel_rfl) (by kernel_rfl)
  obtain ⟨v', r', p', rfl, b1, b2, b3⟩ := crack_args t1 (by kernel_rfl) (by kernel_rfl)
  obtain ⟨cs, rfl, h1⟩ := ta_agg (cts := [.int .i64, .int .i64]) t2 (by kernel_rfl) (by kernel_rfl)
  obtain ⟨x2, _, rfl, g2, h4⟩ := tws_cons h1
  obtain ⟨x3, _, rfl, g3, h5⟩ := tws_cons h4
  obtain rfl := tws_nil h5
  obtain ⟨a, rfl, _⟩ := tw_int g2
  obtain ⟨b, rfl, _⟩ := tw_int g3
  show (raw10 v r p v' r' p' a b).map (fun r => (true, r)) = _
  rw [raw10_true v r p v' r' p' a b a1 a2 a3 b1 b2 b3]
  rfl

end Go.Proofs.Ytdhhceamknidmaa
