import Derived.Test.YtbomegcdjhljeaaH8
namespace Go.Proofs.Ytbomegcdjhljeaa
open Go Go.Proofs.VE

def pQ (xs : List AV) (v : Int) (i : Int) : Bool := v72_0 (fI (xs.getD i.toNat .undef) 0) (fI (xs.getD i.toNat .undef) 1) v
def dQ (i : Int) : AV := .int .i64 i
theorem inR (a b v : Int) : v71_0 a b v = v72_0 a b v := by
  unfold v71_0 v72_0
  rw [isR_eq]
  unfold v107_0
  rw [v66, v66, v66]
  by_cases h1 : -1000 ≤ a <;> by_cases h2 : a ≤ 1000 <;> by_cases h3 : a ≤ b <;> by_cases h4 : b ≤ 1000 <;> simp [h1, h2, h3, h4]
  rw [wrap_in (a := b - 1) (by omega) (by omega)]
  by_cases h5 : a ≤ v <;> simp [h5]
  omega
theorem run31 (xs : List AV) (v : Int) (h : xs.length ≤ 1048576) (hv : v60_0 xs = true) : runW (R31_0 xs v) (((xs.length : Nat) : Int) - 0).toNat.succ ((fun i ys => (i, ys)) 0 []) = some (appF (pQ xs v) (dQ) xs.length 0 []) :=
  runW_app (f := R31_0 xs v) (fun i ys => (i, ys)) xs.length (pQ xs v) (dQ) (fun i ys h0 hn hl => by
    have c1 : (ys.length + [(dQ) i].length) * 8 ≤ 140737488355328 := by simp only [List.length_singleton]; omega
    have c2 : ys.length + [(dQ) i].length ≤ 140737488355328 := by simp only [List.length_singleton]; omega
    simp only [dQ] at c1 c2
    simp only [R31_0, F31_0, h0, hn, decide_true, Bool.and_self, cond_true, c1, c2, (P60 xs h).1, hv, inR]
    rw [wrap_in (a := i + 1) (by omega) (by omega)]
    rfl) (fun ys => by simp only [R31_0, F31_0, Int.lt_irrefl, decide_false, cond_false, (P60 xs h).1, hv, inR])
theorem run32 (xs : List AV) (v : Int) (h : xs.length ≤ 1048576) : runW (R32_0 v xs xs.length) (((xs.length : Nat) : Int) - 0).toNat.succ ((fun i ys => (i, ys)) 0 []) = some (appF (pQ xs v) (dQ) xs.length 0 []) :=
  runW_app (f := R32_0 v xs xs.length) (fun i ys => (i, ys)) xs.length (pQ xs v) (dQ) (fun i ys h0 hn hl => by
    have c1 : (ys.length + [(dQ) i].length) * 8 ≤ 140737488355328 := by simp only [List.length_singleton]; omega
    have c2 : ys.length + [(dQ) i].length ≤ 140737488355328 := by simp only [List.length_singleton]; omega
    simp only [dQ] at c1 c2
    simp only [R32_0, F32_0, h0, hn, decide_true, Bool.and_self, cond_true, c1, c2]
    rw [wrap_in (a := i + 1) (by omega) (by omega)]
    rfl) (fun ys => by simp only [R32_0, F32_0, Int.lt_irrefl, decide_false, cond_false])
theorem P31 (xs : List AV) (v : Int) (h : xs.length ≤ 1048576) : q31 xs v = true ∧ v31_0 xs v = bif v60_0 xs then appF (pQ xs v) dQ xs.length 0 [] else [] := by
  unfold q31 v31_0
  cases hv : v60_0 xs with
  | true =>
    have hr := run31 xs v h hv
    rw [show ((xs.length : Int) - 0).toNat + 1 = ((xs.length : Int) - 0).toNat.succ from rfl, hr]
    exact ⟨rfl, rfl⟩
  | false =>
    have hn : 0 < xs.length := by
      cases xs with
      | nil => rw [(P60 [] h).2] at hv; simp [findF] at hv
      | cons x xs => simp
    have hr : ∀ m, runW (R31_0 xs v) (m + 1) (0, []) = some [] := fun m => by
      have c : decide ((0 : Int) < xs.length) = true := decide_eq_true (by omega)
      show (R31_0 xs v (0, [])).el none _ some = _
      simp only [R31_0, F31_0, c, (P60 xs h).1, hv, cond_true, cond_false]
      rfl
    rw [hr]
    exact ⟨rfl, rfl⟩
theorem P32 (xs : List AV) (v : Int) (h : xs.length ≤ 1048576) : q32 xs v = true ∧ v32_0 xs v = bif v60_0 xs then appF (pQ xs v) dQ xs.length 0 [] else [] := by
  unfold q32 v32_0
  have hr := run32 xs v h
  rw [(P62 xs h).1, (P62 xs h).2, show ((xs.length : Int) - 0).toNat + 1 = ((xs.length : Int) - 0).toNat.succ from rfl, hr]
  cases v60_0 xs <;> exact ⟨rfl, rfl⟩

theorem same31 (xs : List AV) (v : Int) (h : xs.length ≤ 1048576) : q31 xs v = true ∧ q32 xs v = true ∧ v32_0 xs v = v31_0 xs v ∧ (v31_0 xs v).length ≤ 1048576 := by
  obtain ⟨b1, b2⟩ := P31 xs v h
  obtain ⟨c1, c2⟩ := P32 xs v h
  refine ⟨b1, c1, c2.trans b2.symm, ?_⟩
  rw [b2]
  cases v60_0 xs
  · simp
  · exact Nat.le_trans (appF_len _ _ _) (by simpa using h)
def dH (xs rs : List AV) (i : Int) : AV := .int .i64 ((v31_0 rs (fI (xs.getD i.toNat .undef) 0)).length : Int)
def tt (_ : Int) : Bool := true
theorem P73 (xs rs : List AV) (h : xs.length ≤ 1048576) (h' : rs.length ≤ 1048576) : q73 xs rs = true ∧ v73_0 xs rs = (v90_0 xs && v60_0 rs) := by
  unfold q73 v73_0
  rw [(P90 xs h).1, (P60 rs h').1]
  cases v90_0 xs <;> simp
theorem run33 (xs rs : List AV) (h : xs.length ≤ 1048576) (h' : rs.length ≤ 1048576) (hv : v73_0 xs rs = true) : runW (R33_0 xs rs) (((xs.length : Nat) : Int) - 0).toNat.succ ((fun i ys => (i, ys)) 0 []) = some (appF (tt) (dH xs rs) xs.length 0 []) :=
  runW_app (f := R33_0 xs rs) (fun i ys => (i, ys)) xs.length (tt) (dH xs rs) (fun i ys h0 hn hl => by
    have c1 : (ys.length + [(dH xs rs) i].length) * 8 ≤ 140737488355328 := by simp only [List.length_singleton]; omega
    have c2 : ys.length + [(dH xs rs) i].length ≤ 140737488355328 := by simp only [List.length_singleton]; omega
    simp only [dH] at c1 c2
    simp only [R33_0, F33_0, h0, hn, decide_true, Bool.and_self, cond_true, c1, c2, (P73 xs rs h h').1, hv, fun v => (same31 rs v h').1]
    rw [wrap_in (a := i + 1) (by omega) (by omega)]
    rfl) (fun ys => by simp only [R33_0, F33_0, Int.lt_irrefl, decide_false, cond_false, (P73 xs rs h h').1, hv, fun v => (same31 rs v h').1])
theorem run35 (xs rs : List AV) (h : xs.length ≤ 1048576) (h' : rs.length ≤ 1048576) : runW (R35_0 rs xs xs.length) (((xs.length : Nat) : Int) - 0).toNat.succ ((fun i ys => (i, ys)) 0 []) = some (appF (tt) (dH xs rs) xs.length 0 []) :=
  runW_app (f := R35_0 rs xs xs.length) (fun i ys => (i, ys)) xs.length (tt) (dH xs rs) (fun i ys h0 hn hl => by
    have c1 : (ys.length + [(dH xs rs) i].length) * 8 ≤ 140737488355328 := by simp only [List.length_singleton]; omega
    have c2 : ys.length + [(dH xs rs) i].length ≤ 140737488355328 := by simp only [List.length_singleton]; omega
    simp only [dH] at c1 c2
    simp only [R35_0, F35_0, h0, hn, decide_true, Bool.and_self, cond_true, c1, c2, fun v => (same31 rs v h').2.1, fun v => (same31 rs v h').2.2.1]
    rw [wrap_in (a := i + 1) (by omega) (by omega)]
    rfl) (fun ys => by simp only [R35_0, F35_0, Int.lt_irrefl, decide_false, cond_false, fun v => (same31 rs v h').2.1, fun v => (same31 rs v h').2.2.1])
theorem P33 (xs rs : List AV) (h : xs.length ≤ 1048576) (h' : rs.length ≤ 1048576) : q33 xs rs = true ∧ v33_0 xs rs = bif (decide (0 < xs.length) && v90_0 xs && v60_0 rs) then appF tt (dH xs rs) xs.length 0 [] else [] := by
  unfold q33 v33_0
  by_cases hn : 0 < xs.length
  · rw [decide_eq_true hn, Bool.true_and, ← (P73 xs rs h h').2]
    cases hv : v73_0 xs rs with
    | true =>
      have hr := run33 xs rs h h' hv
      rw [show ((xs.length : Int) - 0).toNat + 1 = ((xs.length : Int) - 0).toNat.succ from rfl, hr]
      exact ⟨rfl, rfl⟩
    | false =>
      have hr : ∀ m, runW (R33_0 xs rs) (m + 1) (0, []) = some [] := fun m => by
        have c : decide ((0 : Int) < xs.length) = true := decide_eq_true (by omega)
        show (R33_0 xs rs (0, [])).el none _ some = _
        simp only [R33_0, F33_0, c, (P73 xs rs h h').1, hv, cond_true, cond_false]
        rfl
      rw [hr]
      exact ⟨rfl, rfl⟩
  · obtain rfl : xs = [] := List.eq_nil_of_length_eq_zero (by omega)
    exact ⟨rfl, rfl⟩
theorem P35 (xs rs : List AV) (h : xs.length ≤ 1048576) (h' : rs.length ≤ 1048576) : q35 xs rs = true ∧ v35_0 xs rs = v33_0 xs rs := by
  rw [(P33 xs rs h h').2]
  unfold q35 v35_0
  have hr := run35 xs rs h h'
  rw [(P74 xs h).1, (P74 xs h).2, (P62 rs h').1, (P62 rs h').2, show ((xs.length : Int) - 0).toNat + 1 = ((xs.length : Int) - 0).toNat.succ from rfl, hr]
  by_cases hn : 0 < xs.length
  · rw [decide_eq_true hn, Bool.true_and]
    cases v90_0 xs <;> cases v60_0 rs <;> exact ⟨rfl, rfl⟩
  · obtain rfl : xs = [] := List.eq_nil_of_length_eq_zero (by omega)
    cases v90_0 [] <;> cases v60_0 rs <;> exact ⟨rfl, rfl⟩
theorem len33 (xs rs : List AV) (h : xs.length ≤ 1048576) (h' : rs.length ≤ 1048576) : (v33_0 xs rs).length ≤ 1048576 := by
  rw [(P33 xs rs h h').2]
  cases (decide (0 < xs.length) && v90_0 xs && v60_0 rs)
  · simp
  · exact Nat.le_trans (appF_len _ _ _) (by simpa using h)

def pC (xs : List AV) (i : Int) : Bool := decide (fI (xs.getD i.toNat .undef) 0 = 0)
theorem run36 (xs : List AV) (h : xs.length ≤ 1048576) : runW (R36_0 xs) (((xs.length : Nat) : Int) - 0).toNat.succ ((fun i ys => (i, ys)) 0 []) = some (appF (pC xs) (dQ) xs.length 0 []) :=
  runW_app (f := R36_0 xs) (fun i ys => (i, ys)) xs.length (pC xs) (dQ) (fun i ys h0 hn hl => by
    have c1 : (ys.length + [(dQ) i].length) * 8 ≤ 140737488355328 := by simp only [List.length_singleton]; omega
    have c2 : ys.length + [(dQ) i].length ≤ 140737488355328 := by simp only [List.length_singleton]; omega
    simp only [dQ] at c1 c2
    simp only [R36_0, F36_0, h0, hn, decide_true, Bool.and_self, cond_true, c1, c2]
    rw [wrap_in (a := i + 1) (by omega) (by omega)]
    rfl) (fun ys => by simp only [R36_0, F36_0, Int.lt_irrefl, decide_false, cond_false])
theorem run37 (xs : List AV) (h : xs.length ≤ 1048576) : runW (R37_0 xs.length xs) (((xs.length : Nat) : Int) - 0).toNat.succ ((fun i ys => (i, ys)) 0 []) = some (appF (pC xs) (dQ) xs.length 0 []) :=
  runW_app (f := R37_0 xs.length xs) (fun i ys => (i, ys)) xs.length (pC xs) (dQ) (fun i ys h0 hn hl => by
    have c1 : (ys.length + [(dQ) i].length) * 8 ≤ 140737488355328 := by simp only [List.length_singleton]; omega
    have c2 : ys.length + [(dQ) i].length ≤ 140737488355328 := by simp only [List.length_singleton]; omega
    simp only [dQ] at c1 c2
    simp only [R37_0, F37_0, h0, hn, decide_true, Bool.and_self, cond_true, c1, c2]
    rw [wrap_in (a := i + 1) (by omega) (by omega)]
    rfl) (fun ys => by simp only [R37_0, F37_0, Int.lt_irrefl, decide_false, cond_false])
theorem P36 (xs rs : List AV) (h : xs.length ≤ 1048576) (h' : rs.length ≤ 1048576) : q36 xs rs = true ∧ v36_0 xs rs = appF (pC (v33_0 xs rs)) dQ (v33_0 xs rs).length 0 [] := by
  unfold q36 v36_0
  have hr := run36 (v33_0 xs rs) (len33 xs rs h h')
  rw [(P33 xs rs h h').1, show (((v33_0 xs rs).length : Int) - 0).toNat + 1 = (((v33_0 xs rs).length : Int) - 0).toNat.succ from rfl, hr]
  exact ⟨rfl, rfl⟩
theorem P37 (xs rs : List AV) (h : xs.length ≤ 1048576) (h' : rs.length ≤ 1048576) : q37 xs rs = true ∧ v37_0 xs rs = v36_0 xs rs := by
  rw [(P36 xs rs h h').2]
  unfold q37 v37_0
  have hr := run37 (v33_0 xs rs) (len33 xs rs h h')
  rw [(P35 xs rs h h').1, (P35 xs rs h h').2, show (((v33_0 xs rs).length : Int) - 0).toNat + 1 = (((v33_0 xs rs).length : Int) - 0).toNat.succ from rfl, hr]
  exact ⟨rfl, rfl⟩
theorem len36 (xs rs : List AV) (h : xs.length ≤ 1048576) (h' : rs.length ≤ 1048576) : (v36_0 xs rs).length ≤ 1048576 := by
  rw [(P36 xs rs h h').2]
  exact Nat.le_trans (appF_len _ _ _) (by simpa using len33 xs rs h h')

theorem law (xs rs : List AV) (hmax : rs.length ≤ 9223372036854775807) : q8 xs rs = true ∧ v8_0 xs rs = true := by
  unfold q8 v8_0
  rw [P13 hmax (by omega) (by omega)]
  by_cases hx : (xs.length : Int) > 1048576
  · rw [decide_eq_true hx]
    exact ⟨rfl, rfl⟩
  rw [decide_eq_false hx]
  by_cases h : 1048576 < (rs.length : Int)
  · rw [if_pos h]
    exact ⟨rfl, rfl⟩
  · have hrs : rs.length ≤ 1048576 := by omega
    have hxs : xs.length ≤ 1048576 := by omega
    obtain ⟨a1, a2⟩ := P15 rs hrs
    obtain ⟨a3, a4⟩ := P34 xs hxs
    have hl : (rs.map cp15).length ≤ 1048576 := by simpa using hrs
    have hl' : (xs.map cp34).length ≤ 1048576 := by simpa using hxs
    generalize rs.map cp15 = ss at *
    generalize xs.map cp34 = ys at *
    obtain ⟨b1, b2⟩ := P36 ys ss hl' hl
    obtain ⟨c1, c2⟩ := P37 ys ss hl' hl
    have hz := len36 ys ss hl' hl
    generalize hzs : v36_0 ys ss = zs at *
    obtain ⟨e1, e2⟩ := P22 zs hz
    obtain ⟨f1, f2⟩ := P17 ss hl
    obtain ⟨f3, f4⟩ := P22 ys hl'
    obtain ⟨ws, g3, g4, _, _, _⟩ := P25 ys 1 hl' (by omega) (by omega)
    obtain ⟨us, g1, g2, _, _, _⟩ := P29 ss (1 + 1 * ys.length) hl (by omega) (by omega)
    obtain ⟨vs, h1, h2, h3, h4, h5⟩ := P25 zs 1 hz (by omega) (by omega)
    obtain ⟨i1, i2⟩ := P26 vs 1 (by omega) (by omega) (by omega) (by rw [h4]; exact h5)
    have n1 : decide ((1048576 : Int) - rs.length < 0) = false := decide_eq_false (by omega)
    have n2 : decide ((1 : Int) + 1 * ys.length + 2 * ss.length < 0) = false := decide_eq_false (by omega)
    have n3 : decide ((1 : Int) + 1 * zs.length < 0) = false := decide_eq_false (by omega)
    rw [if_neg h]
    simp only [a1, a2, a3, a4, b1, c1, c2, hzs, e1, e2, f1, f2, f3, f4, g3, g4, g1, g2, h1, h2, h3, i1, i2, h4, n1, n2, n3, decide_true, Bool.not_true, cond_false, Bool.and_self, and_self]
theorem law8 {x0 x1 : AV} (h' : TA Try.prog 31 x0) (h : TA Try.prog 22 x1) : m8 [x0, x1] = some (true, .bool true) := by
  obtain ⟨rs, rfl, hl, _⟩ := tw_sl (ta_one (ct := .sl [.int .i64, .int .i64]) h (by kernel_rfl) (by kernel_rfl))
  obtain ⟨xs, rfl, _⟩ := tw_sl (ta_one (ct := .sl [.int .i64]) h' (by kernel_rfl) (by kernel_rfl))
  obtain ⟨h1, h2⟩ := law xs rs hl
  show (bif ctsEq [.int .i64] [.int .i64] && ctsEq [.int .i64, .int .i64] [.int .i64, .int .i64] then some (q8 xs rs, AV.bool (v8_0 xs rs)) else none) = _
  rw [h1, h2]
  rfl
end Go.Proofs.Ytbomegcdjhljeaa
