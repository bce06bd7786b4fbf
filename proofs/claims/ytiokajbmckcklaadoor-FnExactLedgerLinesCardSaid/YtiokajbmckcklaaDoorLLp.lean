/- the law: LedgerLines -/
import Derived.Test.YtiokajbmckcklaaDoorLLh
namespace Go.Proofs.YtiokajbmckcklaaDoor
open Go Go.Proofs.VE
set_option linter.unusedVariables false
set_option linter.unusedSimpArgs false
/-! The ledger's lines. -/
theorem v42 (a b c : Int) : v42_0 a b c = (decide (b ≤ a) && decide (a ≤ c)) := by
  unfold v42_0; cases h : decide (a ≥ b) <;> simp_all
def Vd (a b c d e : Int) : Prop := 0 ≤ a ∧ a ≤ 29 ∧ -1000 ≤ b ∧ b ≤ 1000 ∧ 0 ≤ c ∧ c ≤ d ∧ d ≤ 64 ∧ 0 ≤ e ∧ e ≤ 64
theorem bad57 {a b c d e : Int} (h : ¬ Vd a b c d e) : q57 a b c d e = true ∧ v57_0 a b c d e = ByteArray.empty := by
  unfold q57 v57_0
  cases h1 : v42_0 a 0 29 with
  | false => exact ⟨rfl, rfl⟩
  | true =>
  cases h2 : v42_0 b (-1000) 1000 with
  | false => exact ⟨rfl, rfl⟩
  | true =>
  cases h3 : v42_0 c 0 d with
  | false => exact ⟨rfl, rfl⟩
  | true =>
  cases h4 : decide (d > 64) with
  | true => exact ⟨rfl, rfl⟩
  | false =>
  cases h5 : v42_0 e 0 64 with
  | false => exact ⟨rfl, rfl⟩
  | true =>
  rw [v42, Bool.and_eq_true, decide_eq_true_eq, decide_eq_true_eq] at h1 h2 h3 h5
  rw [decide_eq_false_iff_not] at h4
  exact absurd (by unfold Vd; omega) h
theorem bad59 {a b c d e : Int} (h : ¬ Vd a b c d e) : q59 a b c d e = true ∧ v59_0 a b c d e = ByteArray.empty := by
  unfold q59 v59_0
  cases h1 : decide (a < 0) with
  | true => exact ⟨rfl, rfl⟩
  | false =>
  cases h2 : decide (a ≥ 30) with
  | true => exact ⟨rfl, rfl⟩
  | false =>
  cases h3 : v45_0 b with
  | false => exact ⟨rfl, rfl⟩
  | true =>
  cases h4 : decide (e < 0) with
  | true => exact ⟨rfl, rfl⟩
  | false =>
  cases h5 : decide (e > 64) with
  | true => exact ⟨rfl, rfl⟩
  | false =>
  cases h6 : decide (c < 0) with
  | true => exact ⟨rfl, rfl⟩
  | false =>
  cases h7 : decide (c > d) with
  | true => exact ⟨rfl, rfl⟩
  | false =>
  cases h8 : decide (d > 64) with
  | true => exact ⟨rfl, rfl⟩
  | false =>
  have h3' : v42_0 b (-1000) 1000 = true := h3
  rw [v42, Bool.and_eq_true, decide_eq_true_eq, decide_eq_true_eq] at h3'
  rw [decide_eq_false_iff_not] at h1 h2 h4 h5 h6 h7 h8
  exact absurd (by unfold Vd; omega) h
theorem lit_size (l : List UInt8) : (ByteArray.mk l.toArray).size = l.length := by simp [ByteArray.size]
theorem charge_eq (a b c d e : Int) (ha : In64 a) (hb : In64 b) (hc : In64 c) (hd : In64 d) (he : In64 e) : q57 a b c d e = true ∧ q59 a b c d e = true ∧ v59_0 a b c d e = v57_0 a b c d e := by
  by_cases h : Vd a b c d e
  · have h' := h
    unfold Vd at h'
    obtain ⟨a1, a2⟩ := fmtInt a ha.1 ha.2
    obtain ⟨b1, b2⟩ := fmtInt b hb.1 hb.2
    obtain ⟨c1, c2⟩ := fmtInt c hc.1 hc.2
    obtain ⟨d1, d2⟩ := fmtInt d hd.1 hd.2
    obtain ⟨e1, e2⟩ := fmtInt e he.1 he.2
    obtain ⟨A1, A2⟩ := fmtInt' a ha.1 ha.2
    obtain ⟨B1, B2⟩ := fmtInt' b hb.1 hb.2
    obtain ⟨C1, C2⟩ := fmtInt' c hc.1 hc.2
    obtain ⟨D1, D2⟩ := fmtInt' d hd.1 hd.2
    obtain ⟨E1, E2⟩ := fmtInt' e he.1 he.2
    have la := itoaB_len a ha.1 ha.2
    have lb := itoaB_len b hb.1 hb.2
    have lc := itoaB_len c hc.1 hc.2
    have ld := itoaB_len d hd.1 hd.2
    have le := itoaB_len e he.1 he.2
    have k1 : v42_0 a 0 29 = true := by rw [v42, decide_eq_true (by omega : (0:Int) ≤ a), decide_eq_true (by omega : a ≤ 29)]; rfl
    have k2 : v42_0 b (-1000) 1000 = true := by rw [v42, decide_eq_true (by omega : (-1000:Int) ≤ b), decide_eq_true (by omega : b ≤ 1000)]; rfl
    have k2' : v45_0 b = true := k2
    have k3 : v42_0 c 0 d = true := by rw [v42, decide_eq_true (by omega : (0:Int) ≤ c), decide_eq_true (by omega : c ≤ d)]; rfl
    have k5 : v42_0 e 0 64 = true := by rw [v42, decide_eq_true (by omega : (0:Int) ≤ e), decide_eq_true (by omega : e ≤ 64)]; rfl
    unfold q57 q59 v57_0 v59_0
    rw [k1, k2, k2', k3, k5, decide_eq_false (by omega : ¬ d > 64), decide_eq_false (by omega : ¬ a < 0), decide_eq_false (by omega : ¬ a ≥ 30), decide_eq_false (by omega : ¬ e < 0), decide_eq_false (by omega : ¬ e > 64), decide_eq_false (by omega : ¬ c < 0), decide_eq_false (by omega : ¬ c > d)]
    rw [a1, a2, b1, b2, c1, c2, d1, d2, e1, e2, A1, A2, B1, B2, C1, C2, D1, D2, E1, E2]
    simp only [Bool.not_true, cond_false, Bool.true_and]
    generalize itoaB a = A at *
    generalize itoaB b = B at *
    generalize itoaB c = C at *
    generalize itoaB d = D at *
    generalize itoaB e = E at *
    have key : v50_0 ([AV.str A, AV.str (ByteArray.mk #[97, 116]), AV.str B, AV.str (ByteArray.mk #[105, 110]), AV.str ((C ++ (ByteArray.mk #[46, 46])) ++ D), AV.str (ByteArray.mk #[115, 119, 97, 112, 115]), AV.str E]) (ByteArray.mk #[32]) = ((((((((A ++ (ByteArray.mk #[32, 97, 116, 32])) ++ B) ++ (ByteArray.mk #[32, 105, 110, 32])) ++ C) ++ (ByteArray.mk #[46, 46])) ++ D) ++ (ByteArray.mk #[32, 115, 119, 97, 112, 115, 32])) ++ E) := by
      apply ByteArray.ext
      simp only [v50_0, joinB, List.map_cons, List.map_nil, ByteArray.data_append]
      apply Array.toList_inj.1
      simp [Lib.join_cons, Lib.joinTail, fS, AV.cells, ByteArray.data_append]
    have k2 : joinB ([AV.str A, AV.str (ByteArray.mk #[97, 116]), AV.str B, AV.str (ByteArray.mk #[105, 110]), AV.str ((C ++ (ByteArray.mk #[46, 46])) ++ D), AV.str (ByteArray.mk #[115, 119, 97, 112, 115]), AV.str E]) (ByteArray.mk #[32]) = _ := key
    refine ⟨?_, ?_, key⟩
    · simp only [Bool.and_eq_true, decide_eq_true_eq, ByteArray.size_append, lit_size, List.length_cons, List.length_nil]
      omega
    · unfold q50
      rw [k2]
      simp only [Bool.and_eq_true, decide_eq_true_eq, ByteArray.size_append, lit_size, List.length_cons, List.length_nil]
      omega
  · obtain ⟨x1, x2⟩ := bad57 h
    obtain ⟨x3, x4⟩ := bad59 h
    exact ⟨x1, x3, x4.trans x2.symm⟩
def el (xs : List AV) (i : Int) (j : Nat) : Int := fI (xs.getD i.toNat .undef) j
def wC (xs : List AV) (i : Int) : ByteArray := v57_0 (el xs i 0) (el xs i 1) (el xs i 2) (el xs i 3) (el xs i 4)
def In5 (xs : List AV) : Prop := ∀ (i : Int) (j : Nat), j < 5 → In64 (el xs i j)
theorem at_eq (xs : List AV) (hv : In5 xs) (i : Int) : q57 (el xs i 0) (el xs i 1) (el xs i 2) (el xs i 3) (el xs i 4) = true ∧ q59 (el xs i 0) (el xs i 1) (el xs i 2) (el xs i 3) (el xs i 4) = true ∧ v59_0 (el xs i 0) (el xs i 1) (el xs i 2) (el xs i 3) (el xs i 4) = wC xs i :=
  charge_eq _ _ _ _ _ (hv i 0 (by decide)) (hv i 1 (by decide)) (hv i 2 (by decide)) (hv i 3 (by decide)) (hv i 4 (by decide))
theorem run26 (xs : List AV) (h : xs.length ≤ 1048576) (hv : In5 xs) : runW (R26_0 xs) (((xs.length : Int) - 0).toNat + 1) (0, ([] : List AV)) = some (foldF (gL (wC xs)) xs.length 0 []) :=
  runW_fold (f := R26_0 xs) (fun i (t : List AV) => (i, t)) xs.length (gL (wC xs)) (fun t => t) (fun i t => (t.length : Int) = i) (fun i t h0 hn hI => by
    refine ⟨?_, by unfold gL; rw [List.length_append]; simp only [List.length_cons, List.length_nil]; omega⟩
    have r1 : q57 (fI (xs.getD i.toNat .undef) 0) (fI (xs.getD i.toNat .undef) 1) (fI (xs.getD i.toNat .undef) 2) (fI (xs.getD i.toNat .undef) 3) (fI (xs.getD i.toNat .undef) 4) = true := (at_eq xs hv i).1
    have d0 : decide (i < (xs.length : Int)) = true := decide_eq_true hn
    have d2 : decide (0 ≤ i) = true := decide_eq_true h0
    unfold R26_0 F26_0 gL wC el
    rw [r1, d0, d2, wrap_in (a := i + 1) (by omega) (by omega)]
    have d3 : ∀ s, decide ((t.length + ([AV.str s]).length) * 16 ≤ 140737488355328) = true := fun s => decide_eq_true (by simp only [List.length_cons, List.length_nil]; omega)
    have d4 : ∀ s, decide ((t.length + ([AV.str s]).length) ≤ 140737488355328) = true := fun s => decide_eq_true (by simp only [List.length_cons, List.length_nil]; omega)
    rw [d3, d4]
    rfl) (fun t _ => by
    unfold R26_0 F26_0
    rw [decide_eq_false (Int.lt_irrefl _)]
    rfl) xs.length _ 0 [] (Int.le_refl 0) (by omega) (by omega) rfl
theorem run28 (xs : List AV) (h : xs.length ≤ 1048576) (hv : In5 xs) : runW (R28_0 xs xs.length) (((xs.length : Int) - 0).toNat + 1) (0, ([] : List AV)) = some (foldF (gL (wC xs)) xs.length 0 []) :=
  runW_fold (f := R28_0 xs xs.length) (fun i (t : List AV) => (i, t)) xs.length (gL (wC xs)) (fun t => t) (fun i t => (t.length : Int) = i) (fun i t h0 hn hI => by
    refine ⟨?_, by unfold gL; rw [List.length_append]; simp only [List.length_cons, List.length_nil]; omega⟩
    have r1 : q59 (fI (xs.getD i.toNat .undef) 0) (fI (xs.getD i.toNat .undef) 1) (fI (xs.getD i.toNat .undef) 2) (fI (xs.getD i.toNat .undef) 3) (fI (xs.getD i.toNat .undef) 4) = true := (at_eq xs hv i).2.1
    have r2 : v59_0 (fI (xs.getD i.toNat .undef) 0) (fI (xs.getD i.toNat .undef) 1) (fI (xs.getD i.toNat .undef) 2) (fI (xs.getD i.toNat .undef) 3) (fI (xs.getD i.toNat .undef) 4) = wC xs i := (at_eq xs hv i).2.2
    have d0 : decide (i < (xs.length : Int)) = true := decide_eq_true hn
    have d2 : decide (0 ≤ i) = true := decide_eq_true h0
    unfold R28_0 F28_0 gL
    rw [r1, r2, d0, d2, wrap_in (a := i + 1) (by omega) (by omega)]
    have d3 : ∀ s, decide ((t.length + ([AV.str s]).length) * 16 ≤ 140737488355328) = true := fun s => decide_eq_true (by simp only [List.length_cons, List.length_nil]; omega)
    have d4 : ∀ s, decide ((t.length + ([AV.str s]).length) ≤ 140737488355328) = true := fun s => decide_eq_true (by simp only [List.length_cons, List.length_nil]; omega)
    rw [d3, d4]
    rfl) (fun t _ => by
    unfold R28_0 F28_0
    rw [decide_eq_false (Int.lt_irrefl _)]
    rfl) xs.length _ 0 [] (Int.le_refl 0) (by omega) (by omega) rfl
theorem lines (xs : List AV) (h : xs.length ≤ 1048576) (hv : In5 xs) : q26 xs = true ∧ q28 xs = true ∧ v28_0 xs = v26_0 xs ∧ (v26_0 xs).length = xs.length := by
  unfold q26 q28 v26_0 v28_0
  rw [run26 xs h hv, run28 xs h hv]
  refine ⟨rfl, rfl, rfl, ?_⟩
  show (foldF (gL (wC xs)) xs.length 0 []).length = xs.length
  rw [gL_len]
  simp
/-! Marks of charges and of lines. -/
def mk31 (t : Int) : AV := AV.agg [AV.int .i64 t, AV.int .i64 (t + 1), AV.int .i64 (t + 2), AV.int .i64 (t + 3), AV.int .i64 (t + 4)]
theorem P31 (xs : List AV) (k : Int) (h : xs.length ≤ 1048576) (hk : 0 ≤ k) (hk' : k ≤ 1099511627776) : q31 k xs = true ∧ v31_0 k xs = k + 5 * xs.length := by
  have step : ∀ (t i : Int) (ys : List AV), 0 ≤ i → i < xs.length → ys.length = xs.length → 0 ≤ t → t + 5 ≤ 4398046511104 → R31_0 (t, i, ys) = .next (t + 5, i + 1, ys.set i.toNat (mk31 t)) := fun t i ys h0 hn hl ht hM => by
    have hl' : i < ys.length := by omega
    have hlN : i.toNat < ys.length := by omega
    have gs : ∀ v : AV, (ys.set i.toNat v).getD i.toNat AV.undef = v := fun v => getD_set hlN
    have t1 : IntKind.i64.wrap (t + 1) = t + 1 := wrap_in (by omega) (by omega)
    have t2 : IntKind.i64.wrap (t + 1 + 1) = t + 2 := by rw [wrap_in (by omega) (by omega)]; omega
    have t3 : IntKind.i64.wrap (t + 2 + 1) = t + 3 := by rw [wrap_in (by omega) (by omega)]; omega
    have t4 : IntKind.i64.wrap (t + 3 + 1) = t + 4 := by rw [wrap_in (by omega) (by omega)]; omega
    have t5 : IntKind.i64.wrap (t + 4 + 1) = t + 5 := by rw [wrap_in (by omega) (by omega)]; omega
    have u1 : w31_1 t i ys = ys.set i.toNat (AV.agg [AV.int .i64 t, AV.int .i64 (fI (ys.getD i.toNat AV.undef) 1), AV.int .i64 (fI (ys.getD i.toNat AV.undef) 2), AV.int .i64 (fI (ys.getD i.toNat AV.undef) 3), AV.int .i64 (fI (ys.getD i.toNat AV.undef) 4)]) := rfl
    have u2 : w31_2 t i ys = ys.set i.toNat (AV.agg [AV.int .i64 t, AV.int .i64 (t + 1), AV.int .i64 (fI (ys.getD i.toNat AV.undef) 2), AV.int .i64 (fI (ys.getD i.toNat AV.undef) 3), AV.int .i64 (fI (ys.getD i.toNat AV.undef) 4)]) := by
      unfold w31_2; rw [u1, List.set_set, gs, t1]; rfl
    have u3 : w31_3 t i ys = ys.set i.toNat (AV.agg [AV.int .i64 t, AV.int .i64 (t + 1), AV.int .i64 (t + 2), AV.int .i64 (fI (ys.getD i.toNat AV.undef) 3), AV.int .i64 (fI (ys.getD i.toNat AV.undef) 4)]) := by
      unfold w31_3; rw [u2, List.set_set, gs, t1, t2]; rfl
    have u4 : w31_4 t i ys = ys.set i.toNat (AV.agg [AV.int .i64 t, AV.int .i64 (t + 1), AV.int .i64 (t + 2), AV.int .i64 (t + 3), AV.int .i64 (fI (ys.getD i.toNat AV.undef) 4)]) := by
      unfold w31_4; rw [u3, List.set_set, gs, t1, t2, t3]; rfl
    have u5 : w31_5 t i ys = ys.set i.toNat (mk31 t) := by
      unfold w31_5; rw [u4, List.set_set, gs, t1, t2, t3, t4]; rfl
    simp only [R31_0, F31_0, u1, u2, u3, u4, u5, List.length_set, h0, hl', decide_true, Bool.and_self, cond_true, t1, t2, t3, t4, t5]
    rw [wrap_in (a := i + 1) (by omega) (by omega)]
  obtain ⟨ys, e1, e2, e3⟩ := runW_mark (f := R31_0) 5 mk31 xs k 4398046511104 (by omega) hk (by omega) step (fun t ys hl => by simp only [R31_0, F31_0, hl, Int.lt_irrefl, decide_false, cond_false])
  refine ⟨?_, ?_⟩
  · unfold q31; rw [e1]; rfl
  · unfold v31_0; rw [e1]; rfl
theorem mt_step (n : Int) (s : ByteArray) (h : 0 < n) (h1 : n ≤ 9223372036854775807) (hs : s.size ≤ 100) :
    R61_0 (n, s) = .next (Int.tdiv n 10, ⟨(UInt8.ofNat (48 + n.natAbs % 10) :: s.data.toList).toArray⟩) := by
  unfold R61_0 F61_0
  have d1 : decide ((10 : Nat) = 0) = false := rfl
  have d2 : ∀ x, decide ((bytesA [AV.int .u8 x]).size + s.size ≤ 4611686018427387904) = true := fun x => decide_eq_true (by rw [bytes_one_size]; omega)
  have e : (Int.tdiv n 10).natAbs = n.natAbs / 10 := by rw [Int.natAbs_tdiv]; rfl
  rw [wrap_in (a := Int.tdiv n 10) (by omega) (by omega)]
  have et : Int.tmod n 10 = ((n.natAbs % 10 : Nat) : Int) := by
    have : n = (n.natAbs : Int) := by omega
    conv => lhs; rw [this]
    rfl
  simp only [decide_eq_true (by omega : n > 0), d1, d2, Bool.not_false, cond_true, et]
  rw [bytes_one]
  obtain ⟨e1, e2⟩ := digit_wrap (n.natAbs % 10) (Nat.mod_lt _ (by decide))
  rw [e1, e2]
theorem mt_run : ∀ (f k : Nat) (n : Int) (s : ByteArray), n.natAbs < 10 ^ k → n.natAbs < f → s.size + k ≤ 100 → 0 ≤ n → n ≤ 9223372036854775807 → ∃ r, runW R61_0 f (n, s) = some r ∧ r.size ≤ 100
  | 0, _, _, _, _, h, _, _, _ => by omega
  | f + 1, k, n, s, hk, hf, hs, h0, h1 => by
    by_cases hz : n = 0
    · subst hz
      refine ⟨s, ?_, by omega⟩
      unfold runW R61_0 F61_0
      rfl
    · have e : (Int.tdiv n 10).natAbs = n.natAbs / 10 := by rw [Int.natAbs_tdiv]; rfl
      have e0 : 0 ≤ Int.tdiv n 10 := Int.tdiv_nonneg h0 (by decide)
      cases k with
      | zero => simp at hk; omega
      | succ k =>
        rw [Nat.pow_succ] at hk
        obtain ⟨r, h2, h3⟩ := mt_run f k (Int.tdiv n 10) ⟨(UInt8.ofNat (48 + n.natAbs % 10) :: s.data.toList).toArray⟩ (by rw [e]; omega) (by rw [e]; omega) (by
          show (_ :: s.data.toList).toArray.size + k ≤ 100
          rw [List.size_toArray, List.length_cons, Array.length_toList]
          have : s.data.size = s.size := rfl
          omega) e0 (by omega)
        refine ⟨r, ?_, h3⟩
        unfold runW
        rw [mt_step n s (by omega) h1 (by omega)]
        exact h2
theorem mt_ok (n : Int) (h0 : 0 ≤ n) (h1 : n ≤ 4398046511104) : q61 n = true := by
  unfold q61
  by_cases hz : n ≤ 0
  · rw [decide_eq_true hz]
    rfl
  · obtain ⟨r, h2, h3⟩ := mt_run ((n - 0).toNat + 1) 19 n ByteArray.empty (by omega) (by omega) (by decide) h0 (by omega)
    rw [decide_eq_false hz, h2]
    have o1 : (ByteArray.mk #[109]).size = 1 := rfl
    exact decide_eq_true (by omega)
def mk32 (t : Int) : AV := AV.agg [AV.str (v61_0 t)]
theorem P32 (xs : List AV) (k : Int) (h : xs.length ≤ 1048576) (hk : 0 ≤ k) (hk' : k ≤ 1099511627776) : ∃ ys, q32 k xs = true ∧ v32_0 k xs = k + 1 * xs.length ∧ v32_1 k xs = ys ∧ ys.length = xs.length ∧ ∀ i : Nat, i < xs.length → ys.getD i .undef = mk32 (k + 1 * i) := by
  have step : ∀ (t i : Int) (ys : List AV), 0 ≤ i → i < xs.length → ys.length = xs.length → 0 ≤ t → t + 1 ≤ 4398046511104 → R32_0 (t, i, ys) = .next (t + 1, i + 1, ys.set i.toNat (mk32 t)) := fun t i ys h0 hn hl ht hM => by
    have hl' : i < ys.length := by omega
    simp only [R32_0, F32_0, mt_ok t ht (by omega), h0, hl', decide_true, Bool.and_self, cond_true]
    rw [wrap_in (a := i + 1) (by omega) (by omega), wrap_in (a := t + 1) (by omega) (by omega)]
    rfl
  obtain ⟨ys, e1, e2, e3⟩ := runW_mark (f := R32_0) 1 mk32 xs k 4398046511104 (by omega) hk (by omega) step (fun t ys hl => by simp only [R32_0, F32_0, hl, Int.lt_irrefl, decide_false, cond_false])
  refine ⟨ys, ?_, ?_, ?_, e2, e3⟩
  · unfold q32; rw [e1]; rfl
  · unfold v32_0; rw [e1]; rfl
  · unfold v32_1; rw [e1]; rfl
theorem P33 (ys : List AV) (k : Int) (h : ys.length ≤ 1048576) (hk : 0 ≤ k) (hk' : k ≤ 1099511627776) (hy : ∀ i : Nat, i < ys.length → ys.getD i .undef = mk32 (k + 1 * i)) : q33 ys k = true ∧ v33_0 ys k = k + 1 * ys.length := by
  have hr := runW_held (f := R33_0 ys) 1 ys.length k 4398046511104 (by omega) hk (by omega) (fun i h0 hn ht hM => by
    have e := hy i.toNat (by omega)
    rw [show ((i.toNat : Nat) : Int) = i by omega] at e
    simp only [R33_0, F33_0, h0, hn, decide_true, Bool.and_self, cond_true]
    rw [e]
    generalize k + 1 * i = t at *
    have f0 : fS (mk32 t) 0 = v61_0 t := rfl
    rw [f0, mt_ok t ht (by omega), beq_self_eq_true, wrap_in (a := i + 1) (by omega) (by omega), wrap_in (a := t + 1) (by omega) (by omega)]
    simp [Int.add_assoc]) (fun t => by simp only [R33_0, F33_0, Int.lt_irrefl, decide_false, cond_false])
  unfold q33 v33_0
  rw [hr]
  exact ⟨rfl, rfl⟩
theorem getD_map (c : AV → AV) (xs : List AV) (i : Nat) (h : i < xs.length) : (xs.map c).getD i .undef = c (xs.getD i .undef) := by
  rw [List.getD_eq_getElem?_getD, List.getD_eq_getElem?_getD, List.getElem?_map, List.getElem?_eq_getElem h]
  rfl
theorem tw_in {x : AV} (h : TW (.int .i64) x) : ∃ n, x = .int .i64 n ∧ In64 n := by
  obtain ⟨n, rfl, hn⟩ := tw_int h
  exact ⟨n, rfl, of_decide_eq_true (Bool.and_eq_true_iff.1 hn).1, of_decide_eq_true (Bool.and_eq_true_iff.1 hn).2⟩
theorem in5 (xs : List AV) (hx : ∀ y ∈ xs, TWs [.int .i64, .int .i64, .int .i64, .int .i64, .int .i64] y.cells) : In5 (xs.map cp27) := fun i j hj => by
  unfold el
  by_cases hi : i.toNat < xs.length
  · rw [getD_map cp27 xs _ hi]
    have hm : xs.getD i.toNat .undef ∈ xs := by
      rw [List.getD_eq_getElem?_getD, List.getElem?_eq_getElem hi]
      exact List.getElem_mem hi
    obtain ⟨y0, ys, e1, z0, h2⟩ := tws_cons (hx _ hm)
    obtain ⟨y1, ys, rfl, z1, h2⟩ := tws_cons h2
    obtain ⟨y2, ys, rfl, z2, h2⟩ := tws_cons h2
    obtain ⟨y3, ys, rfl, z3, h2⟩ := tws_cons h2
    obtain ⟨y4, ys, rfl, z4, h2⟩ := tws_cons h2
    obtain ⟨n0, rfl, k0⟩ := tw_in z0
    obtain ⟨n1, rfl, k1⟩ := tw_in z1
    obtain ⟨n2, rfl, k2⟩ := tw_in z2
    obtain ⟨n3, rfl, k3⟩ := tw_in z3
    obtain ⟨n4, rfl, k4⟩ := tw_in z4
    have f : ∀ j, j < 5 → fI (cp27 (xs.getD i.toNat .undef)) j = fI (xs.getD i.toNat .undef) j := fun j hj => by
      match j, hj with
      | 0, _ => rfl
      | 1, _ => rfl
      | 2, _ => rfl
      | 3, _ => rfl
      | 4, _ => rfl
    rw [f j hj]
    unfold fI
    rw [e1]
    match j, hj with
    | 0, _ => exact k0
    | 1, _ => exact k1
    | 2, _ => exact k2
    | 3, _ => exact k3
    | 4, _ => exact k4
  · rw [List.getD_eq_getElem?_getD, List.getElem?_eq_none (by rw [List.length_map]; omega)]
    match j, hj with
    | 0, _ => exact ⟨by decide, by decide⟩
    | 1, _ => exact ⟨by decide, by decide⟩
    | 2, _ => exact ⟨by decide, by decide⟩
    | 3, _ => exact ⟨by decide, by decide⟩
    | 4, _ => exact ⟨by decide, by decide⟩
theorem raw7_true (xs : List AV) (a1 : xs.length ≤ 9223372036854775807) (hx : ∀ y ∈ xs, TWs [.int .i64, .int .i64, .int .i64, .int .i64, .int .i64] y.cells) : raw7 xs = some (.bool true) := by
  unfold raw7
  rw [P25 a1 (by omega) (by omega)]
  by_cases c2 : (1048576 : Int) < xs.length
  · rw [if_pos c2]
    rfl
  rw [if_neg c2, decide_eq_false (by omega : ¬ (1048576 : Int) - (xs.length : Int) < 0)]
  obtain ⟨t1, t2⟩ := P27 xs (by omega)
  have l1 : (xs.map cp27).length ≤ 1048576 := by rw [List.length_map]; omega
  have hv := in5 xs hx
  generalize xs.map cp27 = xs' at *
  obtain ⟨x1, x2, x3, x4⟩ := lines xs' l1 hv
  obtain ⟨i1, i2⟩ := P30 xs' l1
  obtain ⟨m1, m2⟩ := P31 xs' 1 l1 (by decide) (by decide)
  generalize hw : v26_0 xs' = w at *
  obtain ⟨j1, j2⟩ := P29 w (by omega)
  obtain ⟨ys, k1, k2, k3, k4, k5⟩ := P32 w 1 (by omega) (by decide) (by decide)
  obtain ⟨h1, h2⟩ := P33 ys 1 (by omega) (by decide) (by decide) (fun i hi => k5 i (by omega))
  have n1 : decide (v31_0 1 xs' < 0) = false := decide_eq_false (by omega)
  have n2 : decide (v33_0 ys 1 < 0) = false := decide_eq_false (by omega)
  have n3 : decide (v33_0 ys 1 = v32_0 1 w) = true := decide_eq_true (by omega)
  simp only [t1, t2, x1, x2, x3, hw, i1, i2, j1, j2, m1, n1, k1, k3, h1, n2, n3, Bool.not_true, cond_false, cond_true]
theorem law7 {x0 : AV} (t0 : TA Tryd.prog 46 x0) : m7 [x0] = some (true, .bool true) := by
  obtain ⟨xs, rfl, a1, hx⟩ := tw_sl (ta_one (ct := .sl [.int .i64, .int .i64, .int .i64, .int .i64, .int .i64]) t0 (by kernel_rfl) (by kernel_rfl))
  show (raw7 xs).map (fun r => (true, r)) = _
  rw [raw7_true xs a1 hx]
  rfl

end Go.Proofs.YtiokajbmckcklaaDoor
