/- numerals, joined words -/
import Derived.Test.YtiokajbmckcklaaDoorPLg
namespace Go.Proofs.YtiokajbmckcklaaDoor
open Go Go.Proofs.VE
set_option linter.unusedVariables false
set_option linter.unusedSimpArgs false
def In64 (n : Int) : Prop := -9223372036854775808 ≤ n ∧ n ≤ 9223372036854775807
/-! The numeral: spec.FormatInt's loop lays strconv's digits. -/
theorem u8_digit : ∀ d : Fin 10, IntKind.u8.wrap (48 + (d.val : Int)) = 48 + (d.val : Int) ∧ UInt8.ofNat (48 + (d.val : Int)).toNat = UInt8.ofNat (48 + d.val) := by decide +kernel
theorem digit_wrap (d : Nat) (h : d < 10) : IntKind.u8.wrap (IntKind.i64.wrap (48 + (d : Int))) = 48 + (d : Int) ∧ UInt8.ofNat (48 + (d : Int)).toNat = UInt8.ofNat (48 + d) := by
  rw [wrap_in (by omega) (by omega)]
  exact u8_digit ⟨d, h⟩
theorem bytes_one (x : Int) (s : ByteArray) : bytesA [AV.int .u8 x] ++ s = ⟨(UInt8.ofNat x.toNat :: s.data.toList).toArray⟩ := by
  have e : bytesA [AV.int .u8 x] = ⟨#[UInt8.ofNat x.toNat]⟩ := rfl
  rw [e]
  apply ByteArray.ext
  simp [ByteArray.data_append]
theorem bytes_one_size (x : Int) : (bytesA [AV.int .u8 x]).size = 1 := rfl
def digits (n : Int) : List UInt8 := if n = 0 then [] else Lib.decDigits n.natAbs
theorem digits_step (n : Int) (h : n ≠ 0) : digits n = digits (Int.tdiv n 10) ++ [UInt8.ofNat (48 + n.natAbs % 10)] := by
  have e : (Int.tdiv n 10).natAbs = n.natAbs / 10 := by rw [Int.natAbs_tdiv]; rfl
  unfold digits
  rw [if_neg h]
  by_cases h0 : n.natAbs < 10
  · have : Int.tdiv n 10 = 0 := Int.natAbs_eq_zero.1 (by rw [e]; omega)
    rw [if_pos this, Lib.decDigits, dif_pos h0, Nat.mod_eq_of_lt h0]
    rfl
  · have : Int.tdiv n 10 ≠ 0 := fun h2 => by rw [h2] at e; simp at e; omega
    rw [if_neg this, e]
    conv => lhs; rw [Lib.decDigits, dif_neg h0]
theorem fi_step (b : Bool) (n : Int) (s : ByteArray) (h : n ≠ 0) (h0 : -9223372036854775808 ≤ n) (h1 : n ≤ 9223372036854775807) (hs : s.size ≤ 100) :
    R43_0 b (n, s) = .next (Int.tdiv n 10, ⟨(UInt8.ofNat (48 + n.natAbs % 10) :: s.data.toList).toArray⟩) := by
  unfold R43_0 F43_0
  have d0 : decide (n = 0) = false := decide_eq_false h
  have d1 : decide ((10 : Nat) = 0) = false := rfl
  have d2 : ∀ x, decide ((bytesA [AV.int .u8 x]).size + s.size ≤ 4611686018427387904) = true := fun x => decide_eq_true (by rw [bytes_one_size]; omega)
  have ht : -9223372036854775808 ≤ Int.tdiv n 10 ∧ Int.tdiv n 10 ≤ 9223372036854775807 := by
    have e : (Int.tdiv n 10).natAbs = n.natAbs / 10 := by rw [Int.natAbs_tdiv]; rfl
    omega
  rw [wrap_in ht.1 ht.2]
  simp only [d0, d1, d2, Bool.not_false, cond_true]
  rcases Int.lt_or_le n 0 with hn | hn
  · have et : Int.tmod n 10 = -((n.natAbs % 10 : Nat) : Int) := by
      have : n = -(n.natAbs : Int) := by omega
      conv => lhs; rw [this, Int.neg_tmod]
      rfl
    rw [et]
    by_cases hz : n.natAbs % 10 = 0
    · rw [hz]
      have := digit_wrap 0 (by decide)
      simp only [Int.ofNat_zero, Int.neg_zero, Int.add_zero] at this ⊢
      rw [show decide ((0 : Int) < 0) = false from rfl]
      simp only [cond_false]
      rw [bytes_one, this.1]
      rfl
    · have d3 : decide (-((n.natAbs % 10 : Nat) : Int) < 0) = true := decide_eq_true (by omega)
      rw [d3]
      simp only [cond_true]
      rw [wrap_in (a := 0 - -((n.natAbs % 10 : Nat) : Int)) (by omega) (by omega), show 0 - -((n.natAbs % 10 : Nat) : Int) = ((n.natAbs % 10 : Nat) : Int) by omega, bytes_one]
      obtain ⟨e1, e2⟩ := digit_wrap (n.natAbs % 10) (Nat.mod_lt _ (by decide))
      rw [e1, e2]
  · have et : Int.tmod n 10 = ((n.natAbs % 10 : Nat) : Int) := by
      have : n = (n.natAbs : Int) := by omega
      conv => lhs; rw [this]
      rfl
    rw [et]
    have d3 : decide (((n.natAbs % 10 : Nat) : Int) < 0) = false := decide_eq_false (by omega)
    rw [d3]
    simp only [cond_false]
    rw [bytes_one]
    obtain ⟨e1, e2⟩ := digit_wrap (n.natAbs % 10) (Nat.mod_lt _ (by decide))
    rw [e1, e2]
theorem fi_run (b : Bool) : ∀ (f k : Nat) (n : Int) (s : ByteArray), n.natAbs < 10 ^ k → n.natAbs < f → s.size + k ≤ 100 → -9223372036854775808 ≤ n → n ≤ 9223372036854775807 →
    runW (R43_0 b) f (n, s) = some (⟨(digits n ++ s.data.toList).toArray⟩)
  | 0, _, _, _, _, h, _, _, _ => by omega
  | f + 1, k, n, s, hk, hf, hs, h0, h1 => by
    by_cases hz : n = 0
    · subst hz
      unfold runW R43_0 F43_0 digits
      simp only [decide_true, Bool.not_true, cond_false, Out.el, if_true, List.nil_append]
    · have e : (Int.tdiv n 10).natAbs = n.natAbs / 10 := by rw [Int.natAbs_tdiv]; rfl
      cases k with
      | zero => simp at hk; omega
      | succ k =>
        rw [Nat.pow_succ] at hk
        unfold runW
        rw [fi_step b n s hz h0 h1 (by omega)]
        simp only [Out.el]
        rw [fi_run b f k _ _ (by rw [e]; omega) (by rw [e]; omega) (by
          show (_ :: s.data.toList).toArray.size + k ≤ 100
          rw [List.size_toArray, List.length_cons, Array.length_toList]
          have : s.data.size = s.size := rfl
          omega) (by omega) (by omega), digits_step n hz]
        simp
theorem digits_len (n : Int) (h0 : -9223372036854775808 ≤ n) (h1 : n ≤ 9223372036854775807) : (Lib.decDigits n.natAbs).length ≤ 19 := by
  rw [Lib.decDigits_length]
  by_cases hz : n.natAbs = 0
  · rw [hz, Lib.nDigits_small (by decide)]; decide
  · obtain ⟨k, h2, h3, hk⟩ : ∃ k, 10 ^ k ≤ n.natAbs ∧ n.natAbs < 10 ^ (k + 1) ∧ k < 19 := by
      have : ∀ m, n.natAbs < 10 ^ m → ∃ k, 10 ^ k ≤ n.natAbs ∧ n.natAbs < 10 ^ (k + 1) ∧ k < m := by
        intro m
        induction m with
        | zero => intro h; rw [Nat.pow_zero] at h; omega
        | succ m ih =>
          intro h
          by_cases hm : 10 ^ m ≤ n.natAbs
          · exact ⟨m, hm, h, Nat.lt_succ_self m⟩
          · obtain ⟨k, a, b, c⟩ := ih (by omega)
            exact ⟨k, a, b, Nat.lt_succ_of_lt c⟩
      exact this 19 (by omega)
    rw [Lib.nDigits_unique k _ h2 h3]
    omega
theorem itoaB_len (n : Int) (h0 : -9223372036854775808 ≤ n) (h1 : n ≤ 9223372036854775807) : (itoaB n).size ≤ 20 := by
  have := digits_len n h0 h1
  have e : (itoaB n).size = (Lib.itoa n).length := by simp [itoaB, ByteArray.size]
  rw [e]
  unfold Lib.itoa
  split
  · simp only [List.length_cons]; omega
  · rename_i h
    rw [show n.toNat = n.natAbs by omega]
    omega
/-- spec.FormatInt is strconv.Itoa. -/
theorem fmtInt (n : Int) (h0 : -9223372036854775808 ≤ n) (h1 : n ≤ 9223372036854775807) : q43 n = true ∧ v43_0 n = itoaB n := by
  unfold q43 v43_0
  by_cases hz : n = 0
  · subst hz
    refine ⟨rfl, ?_⟩
    have : Lib.itoa 0 = [48] := by unfold Lib.itoa; rw [if_neg (by decide)]; exact Lib.decDigits_one (i := 0) (by decide)
    unfold itoaB
    rw [this]
    rfl
  · have hd : digits n = Lib.decDigits n.natAbs := by unfold digits; rw [if_neg hz]
    have hl := digits_len n h0 h1
    rw [decide_eq_false hz, fi_run _ _ 19 n ByteArray.empty (by omega) (Nat.lt_succ_self _) (by decide) h0 h1, hd]
    simp only [cond_false, ro]
    rcases Int.lt_or_le n 0 with hn | hn
    · rw [decide_eq_true hn]
      simp only [cond_true]
      refine ⟨decide_eq_true ?_, ?_⟩
      · simp [ByteArray.size]; omega
      · unfold itoaB Lib.itoa
        rw [if_pos hn]
        apply ByteArray.ext
        simp [ByteArray.data_append]
    · rw [decide_eq_false (by omega)]
      refine ⟨rfl, ?_⟩
      unfold itoaB Lib.itoa
      rw [if_neg (by omega), show n.toNat = n.natAbs by omega]
      simp
theorem fmtInt' (n : Int) (h0 : -9223372036854775808 ≤ n) (h1 : n ≤ 9223372036854775807) : q44 n = true ∧ v44_0 n = itoaB n :=
  ⟨by unfold q44 q78; rw [decide_eq_true h0, decide_eq_true h1]; rfl, rfl⟩
/-! Joined words: what a loop with a separator lays. -/
theorem beq_empty (t : ByteArray) (h : 1 ≤ t.size) : (t.toList == ByteArray.empty.toList) = false := by
  rw [Lib.toList_data, Lib.toList_data]
  cases h2 : t.data.toList with
  | nil =>
    have : t.size = t.data.toList.length := by rw [Array.length_toList]; rfl
    rw [h2, List.length_nil] at this
    omega
  | cons _ _ => rfl
theorem joinB_snoc (l : List AV) (w sep : ByteArray) : joinB (l ++ [AV.str w]) sep = bif decide (l.length = 0) then w else (joinB l sep ++ sep) ++ w := by
  apply ByteArray.ext
  apply Array.toList_inj.1
  cases l with
  | nil => simp [joinB, Lib.join_one, fS, AV.cells]
  | cons x r =>
    simp [joinB, Lib.join_cons, Lib.joinTail, fS, AV.cells, ByteArray.data_append]
/-- A separator ahead of each word but the first. -/
def gJ (w : Int → ByteArray) (i : Int) (t : ByteArray) : ByteArray := bif decide (i > 0) then (t ++ ByteArray.mk #[32]) ++ w i else t ++ w i
def gL (w : Int → ByteArray) (i : Int) (l : List AV) : List AV := l ++ [AV.str (w i)]
theorem gL_len (w : Int → ByteArray) : ∀ (m : Nat) (i : Int) (l : List AV), (foldF (gL w) m i l).length = l.length + m
  | 0, _, _ => rfl
  | m + 1, i, l => by
    show (foldF (gL w) m (i + 1) (l ++ [AV.str (w i)])).length = _
    rw [gL_len w m, List.length_append]
    simp only [List.length_cons, List.length_nil]
    omega
theorem gJ_join (w : Int → ByteArray) : ∀ (m : Nat) (i : Int) (t : ByteArray) (l : List AV), (l.length : Int) = i → t = joinB l (ByteArray.mk #[32]) → foldF (gJ w) m i t = joinB (foldF (gL w) m i l) (ByteArray.mk #[32])
  | 0, _, _, _, _, h => h
  | m + 1, i, t, l, hi, h => by
    refine gJ_join w m (i + 1) (gJ w i t) (gL w i l) (by unfold gL; rw [List.length_append]; simp only [List.length_cons, List.length_nil]; omega) ?_
    unfold gJ gL
    rw [joinB_snoc, h]
    by_cases h0 : i > 0
    · rw [decide_eq_true h0, decide_eq_false (by omega : ¬ l.length = 0)]
      rfl
    · have : l = [] := List.eq_nil_of_length_eq_zero (by omega)
      subst this
      rw [decide_eq_false h0]
      apply ByteArray.ext
      simp [joinB, Lib.join_nil, ByteArray.data_append]
theorem gJ_size (w : Int → ByteArray) (K : Nat) (hw : ∀ i, (w i).size ≤ K) (i : Int) (t : ByteArray) : (gJ w i t).size ≤ t.size + (K + 1) ∧ t.size ≤ (gJ w i t).size ∧ (w i).size ≤ (gJ w i t).size := by
  have := hw i
  unfold gJ
  have o1 : (ByteArray.mk #[32]).size = 1 := rfl
  cases decide (i > 0)
  · simp only [cond_false, ByteArray.size_append]; omega
  · simp only [cond_true, ByteArray.size_append]; omega
theorem gJ_fold (w : Int → ByteArray) (K : Nat) (hw : ∀ i, (w i).size ≤ K) : ∀ (m : Nat) (i : Int) (t : ByteArray), (foldF (gJ w) m i t).size ≤ t.size + (K + 1) * m ∧ t.size ≤ (foldF (gJ w) m i t).size
  | 0, _, _ => ⟨Nat.le_refl _, Nat.le_refl _⟩
  | m + 1, i, t => by
    have h1 := gJ_fold w K hw m (i + 1) (gJ w i t)
    have h2 := gJ_size w K hw i t
    show (foldF (gJ w) m (i + 1) (gJ w i t)).size ≤ _ ∧ _ ≤ (foldF (gJ w) m (i + 1) (gJ w i t)).size
    rw [Nat.mul_succ]
    omega
theorem gJ_pos (w : Int → ByteArray) (K : Nat) (hw : ∀ i, (w i).size ≤ K) (h0 : 1 ≤ (w 0).size) (m : Nat) (hm : 1 ≤ m) : 1 ≤ (foldF (gJ w) m 0 ByteArray.empty).size := by
  obtain ⟨k, rfl⟩ : ∃ k, m = k + 1 := ⟨m - 1, by omega⟩
  have h1 := gJ_fold w K hw k (0 + 1) (gJ w 0 ByteArray.empty)
  have h2 := gJ_size w K hw 0 ByteArray.empty
  show 1 ≤ (foldF (gJ w) k (0 + 1) (gJ w 0 ByteArray.empty)).size
  omega
theorem itoaB_pos (n : Int) : 1 ≤ (itoaB n).size := by
  have e : (itoaB n).size = (Lib.itoa n).length := by simp [itoaB, ByteArray.size]
  rw [e]
  unfold Lib.itoa
  split
  · simp
  · rw [Lib.decDigits_length]; exact Lib.nDigits_pos _

end Go.Proofs.YtiokajbmckcklaaDoor
