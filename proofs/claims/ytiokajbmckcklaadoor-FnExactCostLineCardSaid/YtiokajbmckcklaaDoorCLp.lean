/- the law: CostLine -/
import Derived.Test.YtiokajbmckcklaaDoorCLh
namespace Go.Proofs.YtiokajbmckcklaaDoor
open Go Go.Proofs.VE
set_option linter.unusedVariables false
set_option linter.unusedSimpArgs false
/-! The line of costs. -/
def In64 (n : Int) : Prop := -9223372036854775808 ≤ n ∧ n ≤ 9223372036854775807
theorem in64_wrap (n : Int) : In64 (IntKind.i64.wrap n) := by unfold In64; rw [IntKind.wrap_i64]; omega
def gS (xs : List AV) (i t : Int) : Int := IntKind.i64.wrap (t + fI (xs.getD i.toNat .undef) 0)
theorem gS_in (xs : List AV) : ∀ (m : Nat) (i t : Int), In64 t → In64 (foldF (gS xs) m i t)
  | 0, _, _, h => h
  | m + 1, i, t, _ => gS_in xs m (i + 1) _ (in64_wrap _)
theorem sum46 (xs : List AV) (h : xs.length ≤ 1048576) : runW (R46_0 xs) (((xs.length : Int) - 0).toNat + 1) (0, 0) = some (foldF (gS xs) xs.length 0 0) :=
  runW_fold (f := R46_0 xs) (fun i (t : Int) => (t, i)) xs.length (gS xs) (fun t => t) (fun _ _ => True) (fun i t h0 hn _ => by
    refine ⟨?_, trivial⟩
    simp only [R46_0, F46_0, h0, hn, decide_true, Bool.and_self, cond_true]
    rw [wrap_in (a := i + 1) (by omega) (by omega)]
    rfl) (fun t _ => by simp only [R46_0, F46_0, Int.lt_irrefl, decide_false, cond_false]) xs.length _ 0 0 (Int.le_refl 0) (by omega) (by omega) trivial
theorem sum47 (xs : List AV) (h : xs.length ≤ 1048576) : runW (R47_0 xs xs.length) (((xs.length : Int) - 0).toNat + 1) (0, 0) = some (foldF (gS xs) xs.length 0 0) :=
  runW_fold (f := R47_0 xs xs.length) (fun i (t : Int) => (t, i)) xs.length (gS xs) (fun t => t) (fun _ _ => True) (fun i t h0 hn _ => by
    refine ⟨?_, trivial⟩
    simp only [R47_0, F47_0, h0, hn, decide_true, Bool.and_self, cond_true]
    rw [wrap_in (a := i + 1) (by omega) (by omega)]
    rfl) (fun t _ => by simp only [R47_0, F47_0, Int.lt_irrefl, decide_false, cond_false]) xs.length _ 0 0 (Int.le_refl 0) (by omega) (by omega) trivial
theorem sums (xs : List AV) (h : xs.length ≤ 1048576) : q46 xs = true ∧ q47 xs = true ∧ v47_0 xs = v46_0 xs ∧ In64 (v46_0 xs) := by
  unfold q46 q47 v46_0 v47_0
  rw [sum46 xs h, sum47 xs h]
  exact ⟨rfl, rfl, rfl, gS_in xs _ _ _ (by unfold In64; omega)⟩
def gC (xs : List AV) (i : Int) (t : ByteArray) : ByteArray := (t ++ itoaB (fI (xs.getD i.toNat .undef) 0)) ++ ByteArray.mk #[32]
theorem gC_size (xs : List AV) (hv : ∀ i : Int, In64 (fI (xs.getD i.toNat .undef) 0)) (i : Int) (t : ByteArray) : (gC xs i t).size ≤ t.size + 21 := by
  have := itoaB_len _ (hv i).1 (hv i).2
  unfold gC
  rw [ByteArray.size_append, ByteArray.size_append]
  have : (ByteArray.mk #[32]).size = 1 := rfl
  omega
theorem gC_fold (xs : List AV) (hv : ∀ i : Int, In64 (fI (xs.getD i.toNat .undef) 0)) : ∀ (m : Nat) (i : Int) (t : ByteArray), (foldF (gC xs) m i t).size ≤ t.size + 21 * m
  | 0, _, _ => Nat.le_refl _
  | m + 1, i, t => by
    have h1 := gC_fold xs hv m (i + 1) (gC xs i t)
    have h2 := gC_size xs hv i t
    show (foldF (gC xs) m (i + 1) (gC xs i t)).size ≤ _
    omega
theorem line13 (xs : List AV) (h : xs.length ≤ 1048576) (hv : ∀ i : Int, In64 (fI (xs.getD i.toNat .undef) 0)) : runW (R13_0 xs) (((xs.length : Int) - 0).toNat + 1) (ByteArray.empty, 0) = some (foldF (gC xs) (min xs.length 30) 0 ByteArray.empty) :=
  runW_fold (f := R13_0 xs) (fun i (t : ByteArray) => (t, i)) (min xs.length 30 : Nat) (gC xs) (fun t => t) (fun i t => (t.size : Int) ≤ 21 * i) (fun i t h0 hn hI => by
    have hs := gC_size xs hv i t
    have hl := itoaB_len _ (hv i).1 (hv i).2
    have o1 : (ByteArray.mk #[32]).size = 1 := rfl
    obtain ⟨f1, f2⟩ := fmtInt _ (hv i).1 (hv i).2
    refine ⟨?_, by omega⟩
    have d0 : decide (i < (xs.length : Int)) = true := decide_eq_true (by omega)
    have d1 : decide (i < 30) = true := decide_eq_true (by omega)
    have d2 : decide (0 ≤ i) = true := decide_eq_true h0
    have d3 : decide (t.size + (itoaB (fI (xs.getD i.toNat .undef) 0)).size ≤ 4611686018427387904) = true := decide_eq_true (by omega)
    have d4 : decide ((t ++ itoaB (fI (xs.getD i.toNat .undef) 0)).size + (ByteArray.mk #[32]).size ≤ 4611686018427387904) = true := decide_eq_true (by rw [ByteArray.size_append]; omega)
    unfold R13_0 F13_0
    rw [f1, f2, d0, d1, d2, d3, d4, wrap_in (a := i + 1) (by omega) (by omega)]
    rfl) (fun t _ => by
    unfold R13_0 F13_0
    by_cases hc : xs.length ≤ 30
    · rw [decide_eq_false (by omega : ¬ ((min xs.length 30 : Nat) : Int) < (xs.length : Int))]
      rfl
    · rw [decide_eq_true (by omega : ((min xs.length 30 : Nat) : Int) < (xs.length : Int)), decide_eq_false (by omega : ¬ ((min xs.length 30 : Nat) : Int) < 30)]
      rfl) (min xs.length 30) _ 0 ByteArray.empty (Int.le_refl 0) (by omega) (by omega) (by decide)
theorem take_getD (xs : List AV) (m : Nat) (i : Int) (h0 : 0 ≤ i) (h : i < m) : (xs.take m).getD i.toNat .undef = xs.getD i.toNat .undef := by
  rw [List.getD_eq_getElem?_getD, List.getD_eq_getElem?_getD, List.getElem?_take_of_lt (by omega)]
theorem line15 (xs ys : List AV) (m : Nat) (hm : m ≤ 30) (hl : ys.length = m) (hy : ∀ i : Int, 0 ≤ i → i < m → ys.getD i.toNat .undef = xs.getD i.toNat .undef) (hv : ∀ i : Int, In64 (fI (xs.getD i.toNat .undef) 0)) :
    runW (R15_0 xs ys ys.length) (((ys.length : Int) - 0).toNat + 1) (ByteArray.empty, 0) = some (foldF (gC xs) m 0 ByteArray.empty) :=
  runW_fold (f := R15_0 xs ys ys.length) (fun i (t : ByteArray) => (t, i)) (m : Int) (gC xs) (fun t => t) (fun i t => (t.size : Int) ≤ 21 * i) (fun i t h0 hn hI => by
    have hs := gC_size xs hv i t
    have hl' := itoaB_len _ (hv i).1 (hv i).2
    have o1 : (ByteArray.mk #[32]).size = 1 := rfl
    obtain ⟨f1, f2⟩ := fmtInt' _ (hv i).1 (hv i).2
    refine ⟨?_, by omega⟩
    have d0 : decide (i < (ys.length : Int)) = true := decide_eq_true (by omega)
    have d2 : decide (0 ≤ i) = true := decide_eq_true h0
    have d3 : decide ((itoaB (fI (xs.getD i.toNat .undef) 0)).size + (ByteArray.mk #[32]).size ≤ 4611686018427387904) = true := decide_eq_true (by omega)
    have d4 : decide (t.size + (itoaB (fI (xs.getD i.toNat .undef) 0) ++ ByteArray.mk #[32]).size ≤ 4611686018427387904) = true := decide_eq_true (by rw [ByteArray.size_append]; omega)
    unfold R15_0 F15_0
    rw [hy i h0 hn, f1, f2, d0, d2, d3, d4, wrap_in (a := i + 1) (by omega) (by omega)]
    unfold gC
    rw [ByteArray.append_assoc]
    rfl) (fun t _ => by
    unfold R15_0 F15_0
    rw [decide_eq_false (by omega : ¬ (m : Int) < (ys.length : Int))]
    rfl) m _ 0 ByteArray.empty (Int.le_refl 0) (by omega) (by omega) (by decide)
theorem cost (xs : List AV) (h : xs.length ≤ 1048576) (hv : ∀ i : Int, In64 (fI (xs.getD i.toNat .undef) 0)) : q13 xs = true ∧ q15 xs = true ∧ v15_0 xs = v13_0 xs := by
  obtain ⟨s1, s2, s3, s4⟩ := sums xs h
  have em : Int.toNat (if (xs.length : Int) < 30 then (xs.length : Int) else 30) = min xs.length 30 := by split <;> omega
  have hz := gC_fold xs hv (min xs.length 30) 0 ByteArray.empty
  have z0 : ByteArray.empty.size = 0 := rfl
  have o6 : (ByteArray.mk #[116, 111, 116, 97, 108, 32]).size = 6 := rfl
  have e : (xs.take (Int.toNat (if (xs.length : Int) < 30 then (xs.length : Int) else 30))).drop (Int.toNat 0) = xs.take (min xs.length 30) := by rw [em]; rfl
  have l15 := line15 xs (xs.take (min xs.length 30)) (min xs.length 30) (by omega) (by rw [List.length_take]; omega) (fun i h0 hn => take_getD xs _ i h0 hn) hv
  obtain ⟨f1, f2⟩ := fmtInt _ s4.1 s4.2
  obtain ⟨g1, g2⟩ := fmtInt' _ s4.1 s4.2
  have hl := itoaB_len _ s4.1 s4.2
  unfold q13 q15 v13_0 v15_0
  rw [e, l15, line13 xs h hv]
  simp only [ro]
  rw [s1, s2, s3, f1, f2, g1, g2]
  generalize foldF (gC xs) (min xs.length 30) 0 ByteArray.empty = t at *
  have d1 : decide (t.size + (ByteArray.mk #[116, 111, 116, 97, 108, 32]).size ≤ 4611686018427387904) = true := decide_eq_true (by omega)
  have d2 : decide ((t ++ ByteArray.mk #[116, 111, 116, 97, 108, 32]).size + (itoaB (v46_0 xs)).size ≤ 4611686018427387904) = true := decide_eq_true (by rw [ByteArray.size_append]; omega)
  have d3 : decide (0 ≤ (if (xs.length : Int) < 30 then (xs.length : Int) else 30)) = true := decide_eq_true (by split <;> omega)
  have d4 : decide ((if (xs.length : Int) < 30 then (xs.length : Int) else 30) ≤ (xs.length : Int)) = true := decide_eq_true (by split <;> omega)
  rw [d1, d2, d3, d4]
  exact ⟨rfl, rfl, rfl⟩
theorem getD_map (c : AV → AV) (xs : List AV) (i : Nat) (h : i < xs.length) : (xs.map c).getD i .undef = c (xs.getD i .undef) := by
  rw [List.getD_eq_getElem?_getD, List.getD_eq_getElem?_getD, List.getElem?_map, List.getElem?_eq_getElem h]
  rfl
theorem raw4_true (xs : List AV) (a1 : xs.length ≤ 9223372036854775807) (hx : ∀ y ∈ xs, TWs [.int .i64] y.cells) : raw4 xs = some (.bool true) := by
  unfold raw4
  by_cases c1 : (xs.length : Int) > 1048576
  · rw [decide_eq_true c1]
    rfl
  rw [decide_eq_false c1]
  obtain ⟨t1, t2⟩ := P14 xs (by omega)
  have l1 : (xs.map cp14).length ≤ 1048576 := by rw [List.length_map]; omega
  have hv : ∀ i : Int, In64 (fI ((xs.map cp14).getD i.toNat .undef) 0) := fun i => by
    by_cases hi : i.toNat < xs.length
    · rw [getD_map cp14 xs _ hi]
      have hm : xs.getD i.toNat .undef ∈ xs := by
        rw [List.getD_eq_getElem?_getD, List.getElem?_eq_getElem hi]
        exact List.getElem_mem hi
      obtain ⟨y, ys, e1, e2, _⟩ := tws_cons (hx _ hm)
      obtain ⟨n, rfl, hn⟩ := tw_int e2
      have : fI (cp14 (xs.getD i.toNat .undef)) 0 = n := by
        show fI (xs.getD i.toNat .undef) 0 = n
        unfold fI
        rw [e1]
        rfl
      rw [this]
      exact ⟨of_decide_eq_true (Bool.and_eq_true_iff.1 hn).1, of_decide_eq_true (Bool.and_eq_true_iff.1 hn).2⟩
    · rw [List.getD_eq_getElem?_getD, List.getElem?_eq_none (by rw [List.length_map]; omega)]
      exact ⟨by decide, by decide⟩
  generalize xs.map cp14 = xs' at *
  obtain ⟨x1, x2, x3⟩ := cost xs' l1 hv
  obtain ⟨i1, i2⟩ := P16 xs' l1
  simp only [t1, t2, x1, x2, x3, i1, i2, beq_self_eq_true, Bool.not_true, cond_false, cond_true]
theorem law4 {x0 : AV} (t0 : TA Tryd.prog 28 x0) : m4 [x0] = some (true, .bool true) := by
  obtain ⟨xs, rfl, a1, hx⟩ := tw_sl (ta_one (ct := .sl [.int .i64]) t0 (by kernel_rfl) (by kernel_rfl))
  show (raw4 xs).map (fun r => (true, r)) = _
  rw [raw4_true xs a1 hx]
  rfl

end Go.Proofs.YtiokajbmckcklaaDoor
