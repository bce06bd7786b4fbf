import Derived.Test.YtbomegcdjhljeaaH4
namespace Go.Proofs.Ytbomegcdjhljeaa
open Go Go.Proofs.VE

def p4 (xs : List AV) (i : Int) : Bool := decide (fI (xs.getD i.toNat .undef) 0 = 3)
def d4 (xs : List AV) (i : Int) : AV := .int .i64 (fI (xs.getD i.toNat .undef) 1)
theorem P19 (xs : List AV) (h : xs.length ≤ 1048576) : q19 xs = true ∧ v19_0 xs = appF (p4 xs) (d4 xs) xs.length 0 [] := by
  have hr := runW_app (f := R19_0 xs) (fun i ys => (i, ys)) xs.length (p4 xs) (d4 xs) (fun i ys h0 hn hl => by
    have c1 : (ys.length + [d4 xs i].length) * 8 ≤ 140737488355328 := by simp only [List.length_singleton]; omega
    have c2 : ys.length + [d4 xs i].length ≤ 140737488355328 := by simp only [List.length_singleton]; omega
    simp only [d4] at c1 c2
    simp only [R19_0, F19_0, h0, hn, decide_true, Bool.and_self, cond_true, c1, c2]
    rw [wrap_in (a := i + 1) (by omega) (by omega)]
    rfl) (fun ys => by simp only [R19_0, F19_0, Int.lt_irrefl, decide_false, cond_false])
  unfold q19 v19_0
  rw [hr]
  exact ⟨rfl, rfl⟩
theorem P21 (xs : List AV) (h : xs.length ≤ 1048576) : q21 xs = true ∧ v21_0 xs = appF (p4 xs) (d4 xs) xs.length 0 [] := by
  have hr := runW_app (f := R21_0 xs xs.length) (fun i ys => (i, ys)) xs.length (p4 xs) (d4 xs) (fun i ys h0 hn hl => by
    have c1 : (ys.length + [d4 xs i].length) * 8 ≤ 140737488355328 := by simp only [List.length_singleton]; omega
    have c2 : ys.length + [d4 xs i].length ≤ 140737488355328 := by simp only [List.length_singleton]; omega
    simp only [d4] at c1 c2
    simp only [R21_0, F21_0, h0, hn, decide_true, Bool.and_self, cond_true, c1, c2]
    rw [wrap_in (a := i + 1) (by omega) (by omega)]
    rfl) (fun ys => by simp only [R21_0, F21_0, Int.lt_irrefl, decide_false, cond_false])
  unfold q21 v21_0
  rw [hr]
  exact ⟨rfl, rfl⟩
theorem law (xs : List AV) (hmax : xs.length ≤ 9223372036854775807) : q4 xs = true ∧ v4_0 xs = true := by
  unfold q4 v4_0
  rw [P18 hmax (by omega) (by omega)]
  by_cases h : 1048576 < (xs.length : Int)
  · rw [if_pos h]
    exact ⟨rfl, rfl⟩
  · have hx : xs.length ≤ 1048576 := by omega
    obtain ⟨a1, a2⟩ := P20 xs hx
    have hl : (xs.map cp20).length ≤ 1048576 := by simpa using hx
    generalize xs.map cp20 = ys at *
    obtain ⟨b1, b2⟩ := P19 ys hl
    obtain ⟨c1, c2⟩ := P21 ys hl
    have hz : (appF (p4 ys) (d4 ys) ys.length 0 []).length ≤ 1048576 := Nat.le_trans (appF_len _ _ _) (by simpa using hl)
    generalize appF (p4 ys) (d4 ys) ys.length 0 [] = zs at *
    obtain ⟨e1, e2⟩ := P22 zs hz
    obtain ⟨f1, f2⟩ := P23 ys hl
    obtain ⟨us, g1, g2, _, _, _⟩ := P24 ys 1 hl (by omega) (by omega)
    obtain ⟨vs, h1, h2, h3, h4, h5⟩ := P25 zs 1 hz (by omega) (by omega)
    obtain ⟨i1, i2⟩ := P26 vs 1 (by omega) (by omega) (by omega) (by rw [h4]; exact h5)
    have n1 : decide ((1048576 : Int) - xs.length < 0) = false := decide_eq_false (by omega)
    have n2 : decide ((1 : Int) + 4 * ys.length < 0) = false := decide_eq_false (by omega)
    have n3 : decide ((1 : Int) + 1 * zs.length < 0) = false := decide_eq_false (by omega)
    rw [if_neg h]
    simp only [a1, a2, b1, b2, c1, c2, e1, e2, f1, f2, g1, g2, h1, h2, h3, i1, i2, h4, n1, n2, n3, decide_true, Bool.not_true, cond_false, Bool.and_self, and_self]
theorem law4 {x0 : AV} (h : TA Try.prog 29 x0) : m4 [x0] = some (true, .bool true) := by
  obtain ⟨xs, rfl, hl, _⟩ := tw_sl (ta_one (ct := .sl [.int .i64, .int .i64, .int .i64, .int .i64]) h (by kernel_rfl) (by kernel_rfl))
  obtain ⟨h1, h2⟩ := law xs hl
  show (bif ctsEq [.int .i64, .int .i64, .int .i64, .int .i64] [.int .i64, .int .i64, .int .i64, .int .i64] then some (q4 xs, AV.bool (v4_0 xs)) else none) = _
  rw [h1, h2]
  rfl
end Go.Proofs.Ytbomegcdjhljeaa
