/- numerals -/
import Derived.Test.YtiokajbmckcklaaDoorFW1
import Derived.Test.YtiokajbmckcklaaDoorVEz
namespace Go.Proofs.YtiokajbmckcklaaDoor
open Go Go.Proofs.VE
set_option linter.unusedVariables false
set_option linter.unusedSimpArgs false
theorem P20 {a0 : List AV} {a1 : Int} (h : a0.length ≤ 9223372036854775807) (h0 : 0 ≤ a1) (h1 : a1 ≤ 1048576) : v20_0 a0 a1 = if a1 < a0.length then -1 else a1 - a0.length := by
  unfold v20_0
  rw [wrap_in (a := a1 - a0.length) (by omega) (by omega)]
  by_cases hl : a1 < a0.length
  · have e : decide (a1 - (a0.length : Int) < 0) = true := decide_eq_true (by omega)
    rw [e, if_pos hl]
    rfl
  · have e : decide (a1 - (a0.length : Int) < 0) = false := decide_eq_false (by omega)
    rw [e, if_neg hl]
    rfl
def cp22 (x : AV) : AV := (AV.agg [AV.int .i64 (v53_0 (fI x 0) (fI x 1)), AV.int .i64 (v53_1 (fI x 0) (fI x 1))])
theorem P22 (xs : List AV) (h : xs.length ≤ 1048576) : q22 xs = true ∧ v22_0 xs = xs.map cp22 := by
  have hr : runW (R22_0 xs) (((xs.length : Int) - 0).toNat + 1) (0, List.replicate (Int.toNat (xs.length : Int)) (AV.agg [AV.int .i64 0, AV.int .i64 0])) = some (xs.map cp22) := by
    refine runW_copy (c := cp22) xs (fun i ys h0 hn hl => ?_) (fun ys => ?_)
    · simp only [R22_0, F22_0]
      have hl' : i < ys.length := by omega
      simp only [h0, hn, hl', decide_true, Bool.and_self, cond_true]
      rw [wrap_in (a := i + 1) (by omega) (by omega)]
      rfl
    · simp only [R22_0, F22_0, Int.lt_irrefl, decide_false, cond_false]
  unfold q22 v22_0
  rw [hr]
  refine ⟨?_, rfl⟩
  simp only [ro, Bool.and_true, Bool.and_eq_true, decide_eq_true_eq]
  omega
theorem P24 (xs : List AV) (h : xs.length ≤ 1048576) : q24 xs xs = true ∧ v24_0 xs xs = true := by
  have hr : runW (R24_0 xs xs) (((xs.length : Int) - 0).toNat + 1) 0 = some (ro (findF (fun _ => false) xs.length 0) (.inl ()) fun _ => .inr ()) := by
    refine runW_find (fun i => i) xs.length _ _ _ (fun i h0 hn => ?_) ?_ xs.length _ 0 (Int.le_refl 0) (by omega) (by omega)
    · simp only [R24_0, F24_0, h0, hn, decide_true, Bool.and_self, cond_true]
      rw [wrap_in (a := i + 1) (by omega) (by omega)]
      simp [v56_0]
    · simp only [R24_0, F24_0, Int.lt_irrefl, decide_false, cond_false]
  unfold q24 v24_0
  rw [hr, findF_none _ _ fun _ _ _ => rfl]
  simp [ro, sumE]
theorem v42 (a b c : Int) : v42_0 a b c = (decide (b ≤ a) && decide (a ≤ c)) := by
  unfold v42_0; cases h : decide (a ≥ b) <;> simp_all
theorem isR_eq (a b : Int) : v85_0 a b = v82_0 a b := by
  unfold v85_0 v82_0
  rw [v42, v42]
  by_cases h1 : -1000 ≤ a <;> by_cases h2 : a ≤ b <;> by_cases h3 : b ≤ 1000 <;> simp [h1, h2, h3] <;> omega

theorem run51 (xs : List AV) (h : xs.length ≤ 1048576) : runW (R51_0 xs) (((xs.length : Int) - 0).toNat + 1) 0 = some (ro (findF (fun i => !v82_0 (fI (xs.getD i.toNat .undef) 0) (fI (xs.getD i.toNat .undef) 1)) xs.length 0) (.inl ()) fun _ => .inr ()) := by
  refine runW_find (fun i => i) xs.length _ _ _ (fun i h0 hn => ?_) ?_ xs.length _ 0 (Int.le_refl 0) (by omega) (by omega)
  · simp only [R51_0, F51_0, h0, hn, decide_true, Bool.and_self, cond_true]
    rw [wrap_in (a := i + 1) (by omega) (by omega)]
  · simp only [R51_0, F51_0, Int.lt_irrefl, decide_false, cond_false]
theorem run103 (xs : List AV) (h : xs.length ≤ 1048576) : runW (R103_0 xs xs.length) (((xs.length : Int) - 0).toNat + 1) 0 = some (ro (findF (fun i => v84_0 (fI (xs.getD i.toNat .undef) 0) (fI (xs.getD i.toNat .undef) 1)) xs.length 0) (.inl ()) fun i => .inr i) := by
  refine runW_find (fun i => i) xs.length _ _ _ (fun i h0 hn => ?_) ?_ xs.length _ 0 (Int.le_refl 0) (by omega) (by omega)
  · simp only [R103_0, F103_0, h0, hn, decide_true, Bool.and_self, cond_true]
    rw [wrap_in (a := i + 1) (by omega) (by omega)]
  · simp only [R103_0, F103_0, Int.lt_irrefl, decide_false, cond_false]
theorem P51 (xs : List AV) (h : xs.length ≤ 1048576) : q51 xs = true ∧ v51_0 xs = ((findF (fun i => !v82_0 (fI (xs.getD i.toNat .undef) 0) (fI (xs.getD i.toNat .undef) 1)) xs.length 0).isNone && decide (xs.length ≤ 30)) := by
  unfold q51 v51_0
  rw [run51 xs h]
  cases findF (fun i => !v82_0 (fI (xs.getD i.toNat .undef) 0) (fI (xs.getD i.toNat .undef) 1)) xs.length 0 with
  | none => refine ⟨rfl, ?_⟩; simp only [ro, sumE, Option.isNone_none, Bool.true_and]; congr 1; simp only [eq_iff_iff]; omega
  | some j => exact ⟨rfl, rfl⟩
theorem P54 (xs : List AV) (h : xs.length ≤ 1048576) : q54 xs = true ∧ v54_0 xs = v51_0 xs := by
  rw [(P51 xs h).2]
  unfold q54 v54_0 v83_0 q83 q103 v103_0
  rw [run103 xs h]
  have e : (fun i : Int => v84_0 (fI (xs.getD i.toNat .undef) 0) (fI (xs.getD i.toNat .undef) 1)) = fun i => !v82_0 (fI (xs.getD i.toNat .undef) 0) (fI (xs.getD i.toNat .undef) 1) := by
    funext i
    unfold v84_0
    rw [isR_eq]
  rw [e]
  have e30 : decide ((xs.length : Int) ≤ 30) = decide (xs.length ≤ 30) := by congr 1; simp only [eq_iff_iff]; omega
  rw [e30]
  cases hf : findF (fun i => !v82_0 (fI (xs.getD i.toNat .undef) 0) (fI (xs.getD i.toNat .undef) 1)) xs.length 0 with
  | none => cases decide (xs.length ≤ 30) <;> exact ⟨rfl, rfl⟩
  | some j =>
    have := (findF_some _ _ hf).1
    cases decide (xs.length ≤ 30)
    · exact ⟨rfl, rfl⟩
    · refine ⟨rfl, ?_⟩
      simp [ro, sumE]
      omega
def In64 (n : Int) : Prop := -9223372036854775808 ≤ n ∧ n ≤ 9223372036854775807
/-! The numeral: spec.FormatInt's loop lays strconv's digits. -/
theorem u8_digit : ∀ d : Fin 10, IntKind.u8.wrap (48 + (d.val : Int)) = 48 + (d.val : Int) ∧ UInt8.ofNat (48 + (d.val : Int)).toNat = UInt8.ofNat (48 + d.val) := by decide +kernel
theorem digit_wrap (d : Nat) (h : d < 10) : IntKind.u8.wrap (IntKind.i64.wrap (48 + (d : Int))) = 48 + (d : Int) ∧ UInt8.ofNat (48 + (d : Int)).toNat = UInt8.ofNat (48 + d) := by
  rw [wrap_in (by omega) (by omega)]
  exact u8_digit ⟨d, h⟩
theorem bytes_one (x : Int) (s : ByteArray) : bytesA [AV.int .u8 x] ++ s = ⟨(UInt8.ofNat x.toNat :: s.data.toList).toArray⟩ := by
  have e : bytesA [AV.int .u8 x] = ⟨#[UInt8.ofNat x.toNat]⟩ := rfl
  rw [e]
  apply ByteArray.ext
  simp [ByteArray.data_append]
theorem bytes_one_size (x : Int) : (bytesA [AV.int .u8 x]).size = 1 := rfl
def digits (n : Int) : List UInt8 := if n = 0 then [] else Lib.decDigits n.natAbs
theorem digits_step (n : Int) (h : n ≠ 0) : digits n = digits (Int.tdiv n 10) ++ [UInt8.ofNat (48 + n.natAbs % 10)] := by
  have e : (Int.tdiv n 10).natAbs = n.natAbs / 10 := by rw [Int.natAbs_tdiv]; rfl
  unfold digits
  rw [if_neg h]
  by_cases h0 : n.natAbs < 10
  · have : Int.tdiv n 10 = 0 := Int.natAbs_eq_zero.1 (by rw [e]; omega)
    rw [if_pos this, Lib.decDigits, dif_pos h0, Nat.mod_eq_of_lt h0]
    rfl
  · have : Int.tdiv n 10 ≠ 0 := fun h2 => by rw [h2] at e; simp at e; omega
    rw [if_neg this, e]
    conv => lhs; rw [Lib.decDigits, dif_neg h0]
theorem fi_step (b : Bool) (n : Int) (s : ByteArray) (h : n ≠ 0) (h0 : -9223372036854775808 ≤ n) (h1 : n ≤ 9223372036854775807) (hs : s.size ≤ 100) :
    R43_0 b (n, s) = .next (Int.tdiv n 10, ⟨(UInt8.ofNat (48 + n.natAbs % 10) :: s.data.toList).toArray⟩) := by
  unfold R43_0 F43_0
  have d0 : decide (n = 0) = false := decide_eq_false h
  have d1 : decide ((10 : Nat) = 0) = false := rfl
  have d2 : ∀ x, decide ((bytesA [AV.int .u8 x]).size + s.size ≤ 4611686018427387904) = true := fun x => decide_eq_true (by rw [bytes_one_size]; omega)
  have ht : -9223372036854775808 ≤ Int.tdiv n 10 ∧ Int.tdiv n 10 ≤ 9223372036854775807 := by
    have e : (Int.tdiv n 10).natAbs = n.natAbs / 10 := by rw [Int.natAbs_tdiv]; rfl
    omega
  rw [wrap_in ht.1 ht.2]
  simp only [d0, d1, d2, Bool.not_false, cond_true]
  rcases Int.lt_or_le n 0 with hn | hn
  · have et : Int.tmod n 10 = -((n.natAbs % 10 : Nat) : Int) := by
      have : n = -(n.natAbs : Int) := by omega
      conv => lhs; rw [this, Int.neg_tmod]
      rfl
    rw [et]
    by_cases hz : n.natAbs % 10 = 0
    · rw [hz]
      have := digit_wrap 0 (by decide)
      simp only [Int.ofNat_zero, Int.neg_zero, Int.add_zero] at this ⊢
      rw [show decide ((0 : Int) < 0) = false from rfl]
      simp only [cond_false]
      rw [bytes_one, this.1]
      rfl
    · have d3 : decide (-((n.natAbs % 10 : Nat) : Int) < 0) = true := decide_eq_true (by omega)
      rw [d3]
      simp only [cond_true]
      rw [wrap_in (a := 0 - -((n.natAbs % 10 : Nat) : Int)) (by omega) (by omega), show 0 - -((n.natAbs % 10 : Nat) : Int) = ((n.natAbs % 10 : Nat) : Int) by omega, bytes_one]
      obtain ⟨e1, e2⟩ := digit_wrap (n.natAbs % 10) (Nat.mod_lt _ (by decide))
      rw [e1, e2]
  · have et : Int.tmod n 10 = ((n.natAbs % 10 : Nat) : Int) := by
      have : n = (n.natAbs : Int) := by omega
      conv => lhs; rw [this]
      rfl
    rw [et]
    have d3 : decide (((n.natAbs % 10 : Nat) : Int) < 0) = false := decide_eq_false (by omega)
    rw [d3]
    simp only [cond_false]
    rw [bytes_one]
    obtain ⟨e1, e2⟩ := digit_wrap (n.natAbs % 10) (Nat.mod_lt _ (by decide))
    rw [e1, e2]
theorem fi_run (b : Bool) : ∀ (f k : Nat) (n : Int) (s : ByteArray), n.natAbs < 10 ^ k → n.natAbs < f → s.size + k ≤ 100 → -9223372036854775808 ≤ n → n ≤ 9223372036854775807 →
    runW (R43_0 b) f (n, s) = some (⟨(digits n ++ s.data.toList).toArray⟩)
  | 0, _, _, _, _, h, _, _, _ => by omega
  | f + 1, k, n, s, hk, hf, hs, h0, h1 => by
    by_cases hz : n = 0
    · subst hz
      unfold runW R43_0 F43_0 digits
      simp only [decide_true, Bool.not_true, cond_false, Out.el, if_true, List.nil_append]
    · have e : (Int.tdiv n 10).natAbs = n.natAbs / 10 := by rw [Int.natAbs_tdiv]; rfl
      cases k with
      | zero => simp at hk; omega
      | succ k =>
        rw [Nat.pow_succ] at hk
        unfold runW
        rw [fi_step b n s hz h0 h1 (by omega)]
        simp only [Out.el]
        rw [fi_run b f k _ _ (by rw [e]; omega) (by rw [e]; omega) (by
          show (_ :: s.data.toList).toArray.size + k ≤ 100
          rw [List.size_toArray, List.length_cons, Array.length_toList]
          have : s.data.size = s.size := rfl
          omega) (by omega) (by omega), digits_step n hz]
        simp
theorem digits_len (n : Int) (h0 : -9223372036854775808 ≤ n) (h1 : n ≤ 9223372036854775807) : (Lib.decDigits n.natAbs).length ≤ 19 := by
  rw [Lib.decDigits_length]
  by_cases hz : n.natAbs = 0
  · rw [hz, Lib.nDigits_small (by decide)]; decide
  · obtain ⟨k, h2, h3, hk⟩ : ∃ k, 10 ^ k ≤ n.natAbs ∧ n.natAbs < 10 ^ (k + 1) ∧ k < 19 := by
      have : ∀ m, n.natAbs < 10 ^ m → ∃ k, 10 ^ k ≤ n.natAbs ∧ n.natAbs < 10 ^ (k + 1) ∧ k < m := by
        intro m
        induction m with
        | zero => intro h; rw [Nat.pow_zero] at h; omega
        | succ m ih =>
          intro h
          by_cases hm : 10 ^ m ≤ n.natAbs
          · exact ⟨m, hm, h, Nat.lt_succ_self m⟩
          · obtain ⟨k, a, b, c⟩ := ih (by omega)
            exact ⟨k, a, b, Nat.lt_succ_of_lt c⟩
      exact this 19 (by omega)
    rw [Lib.nDigits_unique k _ h2 h3]
    omega
theorem itoaB_len (n : Int) (h0 : -9223372036854775808 ≤ n) (h1 : n ≤ 9223372036854775807) : (itoaB n).size ≤ 20 := by
  have := digits_len n h0 h1
  have e : (itoaB n).size = (Lib.itoa n).length := by simp [itoaB, ByteArray.size]
  rw [e]
  unfold Lib.itoa
  split
  · simp only [List.length_cons]; omega
  · rename_i h
    rw [show n.toNat = n.natAbs by omega]
    omega
/-- spec.FormatInt is strconv.Itoa. -/
theorem fmtInt (n : Int) (h0 : -9223372036854775808 ≤ n) (h1 : n ≤ 9223372036854775807) : q43 n = true ∧ v43_0 n = itoaB n := by
  unfold q43 v43_0
  by_cases hz : n = 0
  · subst hz
    refine ⟨rfl, ?_⟩
    have : Lib.itoa 0 = [48] := by unfold Lib.itoa; rw [if_neg (by decide)]; exact Lib.decDigits_one (i := 0) (by decide)
    unfold itoaB
    rw [this]
    rfl
  · have hd : digits n = Lib.decDigits n.natAbs := by unfold digits; rw [if_neg hz]
    have hl := digits_len n h0 h1
    rw [decide_eq_false hz, fi_run _ _ 19 n ByteArray.empty (by omega) (Nat.lt_succ_self _) (by decide) h0 h1, hd]
    simp only [cond_false, ro]
    rcases Int.lt_or_le n 0 with hn | hn
    · rw [decide_eq_true hn]
      simp only [cond_true]
      refine ⟨decide_eq_true ?_, ?_⟩
      · simp [ByteArray.size]; omega
      · unfold itoaB Lib.itoa
        rw [if_pos hn]
        apply ByteArray.ext
        simp [ByteArray.data_append]
    · rw [decide_eq_false (by omega)]
      refine ⟨rfl, ?_⟩
      unfold itoaB Lib.itoa
      rw [if_neg (by omega), show n.toNat = n.natAbs by omega]
      simp
theorem fmtInt' (n : Int) (h0 : -9223372036854775808 ≤ n) (h1 : n ≤ 9223372036854775807) : q44 n = true ∧ v44_0 n = itoaB n :=
  ⟨by unfold q44 q78; rw [decide_eq_true h0, decide_eq_true h1]; rfl, rfl⟩

end Go.Proofs.YtiokajbmckcklaaDoor
