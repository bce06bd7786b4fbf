import Derived.Test.YtbomegcdjhljeaaH6
namespace Go.Proofs.Ytbomegcdjhljeaa
open Go Go.Proofs.VE

def pQ (xs : List AV) (v : Int) (i : Int) : Bool := v72_0 (fI (xs.getD i.toNat .undef) 0) (fI (xs.getD i.toNat .undef) 1) v
def dQ (i : Int) : AV := .int .i64 i
theorem inR (a b v : Int) : v71_0 a b v = v72_0 a b v := by
  unfold v71_0 v72_0
  rw [isR_eq]
  unfold v107_0
  rw [v66, v66, v66]
  by_cases h1 : -1000 ≤ a <;> by_cases h2 : a ≤ 1000 <;> by_cases h3 : a ≤ b <;> by_cases h4 : b ≤ 1000 <;> simp [h1, h2, h3, h4]
  rw [wrap_in (a := b - 1) (by omega) (by omega)]
  by_cases h5 : a ≤ v <;> simp [h5]
  omega
theorem run31 (xs : List AV) (v : Int) (h : xs.length ≤ 1048576) (hv : v60_0 xs = true) : runW (R31_0 xs v) (((xs.length : Nat) : Int) - 0).toNat.succ ((fun i ys => (i, ys)) 0 []) = some (appF (pQ xs v) (dQ) xs.length 0 []) :=
  runW_app (f := R31_0 xs v) (fun i ys => (i, ys)) xs.length (pQ xs v) (dQ) (fun i ys h0 hn hl => by
    have c1 : (ys.length + [(dQ) i].length) * 8 ≤ 140737488355328 := by simp only [List.length_singleton]; omega
    have c2 : ys.length + [(dQ) i].length ≤ 140737488355328 := by simp only [List.length_singleton]; omega
    simp only [dQ] at c1 c2
    simp only [R31_0, F31_0, h0, hn, decide_true, Bool.and_self, cond_true, c1, c2, (P60 xs h).1, hv, inR]
    rw [wrap_in (a := i + 1) (by omega) (by omega)]
    rfl) (fun ys => by simp only [R31_0, F31_0, Int.lt_irrefl, decide_false, cond_false, (P60 xs h).1, hv, inR])
theorem run32 (xs : List AV) (v : Int) (h : xs.length ≤ 1048576) : runW (R32_0 v xs xs.length) (((xs.length : Nat) : Int) - 0).toNat.succ ((fun i ys => (i, ys)) 0 []) = some (appF (pQ xs v) (dQ) xs.length 0 []) :=
  runW_app (f := R32_0 v xs xs.length) (fun i ys => (i, ys)) xs.length (pQ xs v) (dQ) (fun i ys h0 hn hl => by
    have c1 : (ys.length + [(dQ) i].length) * 8 ≤ 140737488355328 := by simp only [List.length_singleton]; omega
    have c2 : ys.length + [(dQ) i].length ≤ 140737488355328 := by simp only [List.length_singleton]; omega
    simp only [dQ] at c1 c2
    simp only [R32_0, F32_0, h0, hn, decide_true, Bool.and_self, cond_true, c1, c2]
    rw [wrap_in (a := i + 1) (by omega) (by omega)]
    rfl) (fun ys => by simp only [R32_0, F32_0, Int.lt_irrefl, decide_false, cond_false])
theorem P31 (xs : List AV) (v : Int) (h : xs.length ≤ 1048576) : q31 xs v = true ∧ v31_0 xs v = bif v60_0 xs then appF (pQ xs v) dQ xs.length 0 [] else [] := by
  unfold q31 v31_0
  cases hv : v60_0 xs with
  | true =>
    have hr := run31 xs v h hv
    rw [show ((xs.length : Int) - 0).toNat + 1 = ((xs.length : Int) - 0).toNat.succ from rfl, hr]
    exact ⟨rfl, rfl⟩
  | false =>
    have hn : 0 < xs.length := by
      cases xs with
      | nil => rw [(P60 [] h).2] at hv; simp [findF] at hv
      | cons x xs => simp
    have hr : ∀ m, runW (R31_0 xs v) (m + 1) (0, []) = some [] := fun m => by
      have c : decide ((0 : Int) < xs.length) = true := decide_eq_true (by omega)
      show (R31_0 xs v (0, [])).el none _ some = _
      simp only [R31_0, F31_0, c, (P60 xs h).1, hv, cond_true, cond_false]
      rfl
    rw [hr]
    exact ⟨rfl, rfl⟩
theorem P32 (xs : List AV) (v : Int) (h : xs.length ≤ 1048576) : q32 xs v = true ∧ v32_0 xs v = bif v60_0 xs then appF (pQ xs v) dQ xs.length 0 [] else [] := by
  unfold q32 v32_0
  have hr := run32 xs v h
  rw [(P62 xs h).1, (P62 xs h).2, show ((xs.length : Int) - 0).toNat + 1 = ((xs.length : Int) - 0).toNat.succ from rfl, hr]
  cases v60_0 xs <;> exact ⟨rfl, rfl⟩

theorem law (xs : List AV) (v : Int) (hmax : xs.length ≤ 9223372036854775807) : q6 xs v = true ∧ v6_0 xs v = true := by
  unfold q6 v6_0
  rw [P13 hmax (by omega) (by omega)]
  by_cases h : 1048576 < (xs.length : Int)
  · rw [if_pos h]
    exact ⟨rfl, rfl⟩
  · have hx : xs.length ≤ 1048576 := by omega
    obtain ⟨a1, a2⟩ := P15 xs hx
    have hl : (xs.map cp15).length ≤ 1048576 := by simpa using hx
    generalize xs.map cp15 = ys at *
    obtain ⟨b1, b2⟩ := P31 ys v hl
    obtain ⟨c1, c2⟩ := P32 ys v hl
    have hz : (bif v60_0 ys then appF (pQ ys v) dQ ys.length 0 [] else []).length ≤ 1048576 := by
      cases v60_0 ys
      · simp
      · exact Nat.le_trans (appF_len _ _ _) (by simpa using hl)
    generalize (bif v60_0 ys then appF (pQ ys v) dQ ys.length 0 [] else []) = zs at *
    obtain ⟨e1, e2⟩ := P22 zs hz
    obtain ⟨f1, f2⟩ := P17 ys hl
    obtain ⟨us, g1, g2, _, _, _⟩ := P29 ys 1 hl (by omega) (by omega)
    obtain ⟨vs, h1, h2, h3, h4, h5⟩ := P25 zs 1 hz (by omega) (by omega)
    obtain ⟨i1, i2⟩ := P26 vs 1 (by omega) (by omega) (by omega) (by rw [h4]; exact h5)
    have n1 : decide ((1048576 : Int) - xs.length < 0) = false := decide_eq_false (by omega)
    have n2 : decide ((1 : Int) + 2 * ys.length < 0) = false := decide_eq_false (by omega)
    have n3 : decide ((1 : Int) + 1 * zs.length < 0) = false := decide_eq_false (by omega)
    rw [if_neg h]
    simp only [a1, a2, b1, b2, c1, c2, e1, e2, f1, f2, g1, g2, h1, h2, h3, i1, i2, h4, n1, n2, n3, decide_true, Bool.not_true, cond_false, Bool.and_self, and_self]
theorem law6 {x0 x1 : AV} (h : TA Try.prog 22 x0) (h' : TA Try.prog 3 x1) : m6 [x0, x1] = some (true, .bool true) := by
  obtain ⟨xs, rfl, hl, _⟩ := tw_sl (ta_one (ct := .sl [.int .i64, .int .i64]) h (by kernel_rfl) (by kernel_rfl))
  obtain ⟨v, rfl, _⟩ := tw_int (ta_one (ct := .int .i64) h' (by kernel_rfl) (by kernel_rfl))
  obtain ⟨h1, h2⟩ := law xs v hl
  show (bif ctsEq [.int .i64, .int .i64] [.int .i64, .int .i64] then some (q6 xs v, AV.bool (v6_0 xs v)) else none) = _
  rw [h1, h2]
  rfl
end Go.Proofs.Ytbomegcdjhljeaa
