/- the law: FormatOutcome -/
import Derived.Test.YtiokajbmckcklaaDoorFOh
namespace Go.Proofs.YtiokajbmckcklaaDoor
open Go Go.Proofs.VE
set_option linter.unusedVariables false
set_option linter.unusedSimpArgs false
/-! The outcome's line. -/
theorem lit_size (l : List UInt8) : (ByteArray.mk l.toArray).size = l.length := by simp [ByteArray.size]
theorem ls0 : ByteArray.empty.size = 0 := rfl
theorem pol (a : Int) : q48 a = true ∧ q49 a = true ∧ v49_0 a = v48_0 a ∧ (v48_0 a).size ≤ 6 ∧ (((v48_0 a).toList == ByteArray.empty.toList) = true ∨ ((v48_0 a).toList == ByteArray.empty.toList) = false) := by
  refine ⟨?_, ?_, ?_, ?_, by cases (v48_0 a).toList == ByteArray.empty.toList <;> simp⟩
  all_goals
    rcases Int.lt_or_le a 0 with h | h
    · simp only [q48, q49, v48_0, v49_0, v42_0, decide_eq_true h, decide_eq_false (by omega : ¬ a ≥ 0), cond_false, cond_true, Bool.not_false, Bool.not_true] <;> decide
    · rcases Int.lt_or_le 2 a with h2 | h2
      · simp only [q48, q49, v48_0, v49_0, v42_0, decide_eq_false (by omega : ¬ a < 0), decide_eq_true (by omega : a ≥ 0), decide_eq_true (by omega : a > 2), decide_eq_false (by omega : ¬ a ≤ 2), cond_false, cond_true, Bool.not_false, Bool.not_true] <;> decide
      · obtain rfl | rfl | rfl : a = 0 ∨ a = 1 ∨ a = 2 := by omega
        all_goals first | rfl | decide
theorem outc (a b c d e : Int) (hb : In64 b) (hc : In64 c) (hd : In64 d) (he : In64 e) : q17 a b c d e = true ∧ q19 a b c d e = true ∧ v19_0 a b c d e = v17_0 a b c d e := by
  obtain ⟨p1, p2, p3, p4, p5⟩ := pol a
  obtain ⟨b1, b2⟩ := fmtInt b hb.1 hb.2
  obtain ⟨c1, c2⟩ := fmtInt c hc.1 hc.2
  obtain ⟨d1, d2⟩ := fmtInt d hd.1 hd.2
  obtain ⟨e1, e2⟩ := fmtInt e he.1 he.2
  obtain ⟨B1, B2⟩ := fmtInt' b hb.1 hb.2
  obtain ⟨C1, C2⟩ := fmtInt' c hc.1 hc.2
  obtain ⟨D1, D2⟩ := fmtInt' d hd.1 hd.2
  obtain ⟨E1, E2⟩ := fmtInt' e he.1 he.2
  have lb := itoaB_len b hb.1 hb.2
  have lc := itoaB_len c hc.1 hc.2
  have ld := itoaB_len d hd.1 hd.2
  have le := itoaB_len e he.1 he.2
  unfold q17 q19 v17_0 v19_0
  rw [p1, p2, p3, b1, b2, c1, c2, d1, d2, e1, e2, B1, B2, C1, C2, D1, D2, E1, E2]
  rcases p5 with h | h
  · rw [h]
    exact ⟨rfl, rfl, rfl⟩
  · rw [h]
    simp only [cond_false, Bool.true_and]
    generalize v48_0 a = p at *
    generalize itoaB b = B at *
    generalize itoaB c = C at *
    generalize itoaB d = D at *
    generalize itoaB e = E at *
    have key : v50_0 ([AV.str p, AV.str (ByteArray.mk #[115, 119, 97, 112, 115]), AV.str B, AV.str (ByteArray.mk #[119, 111, 114, 115, 116]), AV.str C, AV.str (ByteArray.mk #[112, 105, 101, 99, 101, 115]), AV.str D, AV.str (ByteArray.mk #[108, 97, 114, 103, 101, 115, 116]), AV.str E]) (ByteArray.mk #[32]) = ((((((((p ++ (ByteArray.mk #[32, 115, 119, 97, 112, 115, 32])) ++ B) ++ (ByteArray.mk #[32, 119, 111, 114, 115, 116, 32])) ++ C) ++ (ByteArray.mk #[32, 112, 105, 101, 99, 101, 115, 32])) ++ D) ++ (ByteArray.mk #[32, 108, 97, 114, 103, 101, 115, 116, 32])) ++ E) := by
      apply ByteArray.ext
      simp only [v50_0, joinB, List.map_cons, List.map_nil, ByteArray.data_append]
      apply Array.toList_inj.1
      simp [Lib.join_cons, Lib.joinTail, fS, AV.cells]
    refine ⟨?_, ?_, key⟩
    · simp only [Bool.and_eq_true, decide_eq_true_eq, ByteArray.size_append, lit_size, List.length_cons, List.length_nil]
      omega
    · unfold q50
      have k2 : joinB ([AV.str p, AV.str (ByteArray.mk #[115, 119, 97, 112, 115]), AV.str B, AV.str (ByteArray.mk #[119, 111, 114, 115, 116]), AV.str C, AV.str (ByteArray.mk #[112, 105, 101, 99, 101, 115]), AV.str D, AV.str (ByteArray.mk #[108, 97, 114, 103, 101, 115, 116]), AV.str E]) (ByteArray.mk #[32]) = _ := key
      rw [k2]
      simp only [Bool.and_eq_true, decide_eq_true_eq, ByteArray.size_append, lit_size, List.length_cons, List.length_nil]
      omega
theorem tw_in {x : AV} (h : TW (.int .i64) x) : ∃ n, x = .int .i64 n ∧ In64 n := by
  obtain ⟨n, rfl, hn⟩ := tw_int h
  exact ⟨n, rfl, of_decide_eq_true (Bool.and_eq_true_iff.1 hn).1, of_decide_eq_true (Bool.and_eq_true_iff.1 hn).2⟩
theorem raw5_true (a b c d e : Int) (hb : In64 b) (hc : In64 c) (hd : In64 d) (he : In64 e) : raw5 a b c d e = some (.bool true) := by
  obtain ⟨x1, x2, x3⟩ := outc a b c d e hb hc hd he
  unfold raw5
  simp only [v18_0, v18_1, v18_2, v18_3, v18_4, x1, x2, x3, beq_self_eq_true, Bool.not_true, cond_false, cond_true]
theorem law5 {x0 : AV} (t0 : TA Tryd.prog 34 x0) : m5 [x0] = some (true, .bool true) := by
  obtain ⟨cs, rfl, h⟩ := ta_agg (cts := [.int .i64, .int .i64, .int .i64, .int .i64, .int .i64]) t0 (by kernel_rfl) (by kernel_rfl)
  obtain ⟨_, _, rfl, y0, h⟩ := tws_cons h
  obtain ⟨_, _, rfl, y1, h⟩ := tws_cons h
  obtain ⟨_, _, rfl, y2, h⟩ := tws_cons h
  obtain ⟨_, _, rfl, y3, h⟩ := tws_cons h
  obtain ⟨_, _, rfl, y4, h⟩ := tws_cons h
  obtain rfl := tws_nil h
  obtain ⟨a, rfl, ha⟩ := tw_in y0
  obtain ⟨b, rfl, hb⟩ := tw_in y1
  obtain ⟨c, rfl, hc⟩ := tw_in y2
  obtain ⟨d, rfl, hd⟩ := tw_in y3
  obtain ⟨e, rfl, he⟩ := tw_in y4
  show (raw5 a b c d e).map (fun r => (true, r)) = _
  rw [raw5_true a b c d e hb hc hd he]
  rfl

end Go.Proofs.YtiokajbmckcklaaDoor
