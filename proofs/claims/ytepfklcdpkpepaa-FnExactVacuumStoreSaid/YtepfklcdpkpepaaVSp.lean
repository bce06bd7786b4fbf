/- the law -/
import Derived.Test.YtepfklcdpkpepaaVSd
namespace Go.Proofs.Ytepfklcdpkpepaa
open Go Go.Proofs.VE
set_option linter.unusedVariables false
set_option linter.unusedSimpArgs false

abbrev X24 := Int × Int × List AV × List AV × List AV × List AV
abbrev Y25 := (Int × List AV × Int × List AV × List AV × List AV × List AV × List AV × Int × List AV × Int) ⊕ (Int × List AV × List AV × Int × List AV × List AV × List AV × List AV × List AV × Int × List AV × Int)
abbrev Y25r := (List AV × Int × List AV × List AV × List AV × List AV × List AV × Int × List AV × Int) ⊕ (List AV × List AV × Int × List AV × List AV × List AV × List AV × List AV × Int × List AV × Int)
def inY (b : Bool) (s : List AV) (n : Int) (v r p : List AV) (k : Int) (acc V Rr P : List AV) : Y25 := bif b then .inl (k, s, n, v, r, p, V, Rr, 0, P, n) else .inr (k, acc, s, n, v, r, p, V, Rr, 0, P, n)
def inYr (b : Bool) (s : List AV) (n : Int) (v r p : List AV) (acc V Rr P : List AV) : Y25r := bif b then .inl (s, n, v, r, p, V, Rr, 0, P, n) else .inr (acc, s, n, v, r, p, V, Rr, 0, P, n)
structure VacI (s : List AV) (n : Int) (v r p : List AV) (x : X24) (y : Y25) : Prop where
  ey : ∃ b, (b = true → x.2.2.1 = []) ∧ y = inY b s n v r p x.2.1 x.2.2.1 x.2.2.2.1 x.2.2.2.2.1 x.2.2.2.2.2
  k0 : 0 ≤ x.2.1
  k1 : x.2.1 ≤ s.length
  c0 : 0 ≤ x.1
  c1 : x.1 + x.2.2.1.length = x.2.1
  lv : x.2.2.2.1.length ≤ 1048576
  lr : x.2.2.2.2.1.length ≤ 1048576
  lp : x.2.2.2.2.2.length ≤ 1048576
structure VacJ (s : List AV) (n : Int) (v r p : List AV) (x : Int × List AV × List AV × List AV × List AV) (y : Y25r) : Prop where
  ey : ∃ b, (b = true → x.2.1 = []) ∧ y = inYr b s n v r p x.2.1 x.2.2.1 x.2.2.2.1 x.2.2.2.2
  c0 : 0 ≤ x.1
  c1 : x.1 + x.2.1.length = s.length
  lv : x.2.2.1.length ≤ 1048576
  lr : x.2.2.2.1.length ≤ 1048576
  lp : x.2.2.2.2.length ≤ 1048576
theorem room_app (X : List AV) (a : AV) (h : X.length ≤ 1048576) : (decide ((X.length + [a].length) * 32 ≤ 140737488355328) && decide (X.length + [a].length ≤ 140737488355328)) = true := by
  simp only [List.length_singleton, Bool.and_eq_true, decide_eq_true_eq]
  omega
theorem room_one (a : AV) : (decide (([a].length) * 32 ≤ 140737488355328) && decide (([a].length) ≤ 140737488355328)) = true := by
  simp
theorem stepVac (old : Int) (s : List AV) (n : Int) (v r p : List AV) (v1 r1 p1 : List AV) (z n1 : Int) (hs : s.length ≤ 1048576) (x : X24) (y : Y25) (h : VacI s n v r p x y) :
    (∃ a b, R24_0 old s n v1 r1 p1 z n1 x = .next a ∧ R25_0 old s s.length y = .next b ∧ VacI s n v r p a b ∧ ((s.length : Int) - a.2.1).toNat < ((s.length : Int) - x.2.1).toNat) ∨ ∃ a b, R24_0 old s n v1 r1 p1 z n1 x = .stop a ∧ R25_0 old s s.length y = .stop b ∧ VacJ s n v r p a b := by
  obtain ⟨cnt, k, acc, V, Rr, P⟩ := x
  obtain ⟨⟨b, hb, rfl⟩, k0, k1, c0, c1, lv, lr, lp⟩ := h
  simp only at hb k0 k1 c0 c1 lv lr lp
  by_cases hk : k < s.length
  · have d1 : decide (k < (s.length : Int)) = true := decide_eq_true hk
    have d2 : decide (0 ≤ k) = true := decide_eq_true k0
    have wk : IntKind.i64.wrap (k + 1) = k + 1 := wrap_in (by omega) (by omega)
    have wc : IntKind.i64.wrap (cnt + 1) = cnt + 1 := wrap_in (by omega) (by omega)
    cases hkeep : decide (fI (s.getD k.toNat AV.undef) 3 = -1) || decide (fI (s.getD k.toNat AV.undef) 3 > old) with
    | true =>
      refine .inl ⟨(cnt, k + 1, acc ++ [AV.agg [AV.int .i64 (fI (s.getD k.toNat AV.undef) 0), AV.int .i64 (fI (s.getD k.toNat AV.undef) 1), AV.int .i64 (fI (s.getD k.toNat AV.undef) 2), AV.int .i64 (fI (s.getD k.toNat AV.undef) 3)]], V, Rr, P),
        inY false s n v r p (k + 1) (acc ++ [AV.agg [AV.int .i64 (fI (s.getD k.toNat AV.undef) 0), AV.int .i64 (fI (s.getD k.toNat AV.undef) 1), AV.int .i64 (fI (s.getD k.toNat AV.undef) 2), AV.int .i64 (fI (s.getD k.toNat AV.undef) 3)]]) V Rr P, ?_, ?_, ⟨⟨false, (fun h => by cases h), rfl⟩, by simp only; omega, by simp only; omega, c0, by simp only [List.length_append, List.length_singleton]; omega, lv, lr, lp⟩, by simp only; omega⟩
      · simp only [R24_0, F24_0, d1, d2, wk, room_app acc _ (by omega : acc.length ≤ 1048576), Bool.and_self, cond_true]
        cases h1 : decide (fI (s.getD k.toNat AV.undef) 3 = -1) with
        | true => rfl
        | false =>
          rw [h1, Bool.false_or] at hkeep
          rw [hkeep]
          rfl
      · cases b with
        | true =>
          rw [hb rfl]
          simp only [R25_0, inY, cond_true, cond_false, sumE, F25_0_s0, d1, d2, wk, room_one, Bool.and_self, List.nil_append]
          cases h1 : decide (fI (s.getD k.toNat AV.undef) 3 = -1) with
          | true => rfl
          | false =>
            rw [h1, Bool.false_or] at hkeep
            rw [hkeep]
            rfl
        | false =>
          simp only [R25_0, inY, cond_true, cond_false, sumE, F25_0_s1, d1, d2, wk, room_app acc _ (by omega : acc.length ≤ 1048576), Bool.and_self]
          cases h1 : decide (fI (s.getD k.toNat AV.undef) 3 = -1) with
          | true => rfl
          | false =>
            rw [h1, Bool.false_or] at hkeep
            rw [hkeep]
            rfl
    | false =>
      rw [Bool.or_eq_false_iff] at hkeep
      obtain ⟨e1, e2⟩ := hkeep
      obtain ⟨g1, g2, g3, g4, g5, _, g6, g7, g8⟩ := same80 V Rr P (fI (s.getD k.toNat AV.undef) 1) lv lr lp
      refine .inl ⟨(cnt + 1, k + 1, acc, v80_0 V Rr P (fI (s.getD k.toNat AV.undef) 1), v80_1 V Rr P (fI (s.getD k.toNat AV.undef) 1), v80_2 V Rr P (fI (s.getD k.toNat AV.undef) 1)),
        inY b s n v r p (k + 1) acc (v80_0 V Rr P (fI (s.getD k.toNat AV.undef) 1)) (v80_1 V Rr P (fI (s.getD k.toNat AV.undef) 1)) (v80_2 V Rr P (fI (s.getD k.toNat AV.undef) 1)), ?_, ?_, ⟨⟨b, hb, rfl⟩, by simp only; omega, by simp only; omega, by simp only; omega, by simp only; omega, g6, g7, g8⟩, by simp only; omega⟩
      · simp only [R24_0, F24_0, d1, d2, wk, wc, e1, e2, g1, Bool.and_self, cond_true, cond_false]
      · cases b with
        | true => simp only [R25_0, inY, cond_true, cond_false, sumE, F25_0_s0, d1, d2, wk, e1, e2, g2, g3, g4, g5, Bool.and_self]
        | false => simp only [R25_0, inY, cond_true, cond_false, sumE, F25_0_s1, d1, d2, wk, e1, e2, g2, g3, g4, g5, Bool.and_self]
  · have d1 : decide (k < (s.length : Int)) = false := decide_eq_false hk
    refine .inr ⟨(cnt, acc, V, Rr, P), inYr b s n v r p acc V Rr P, ?_, ?_, ⟨⟨b, hb, rfl⟩, c0, by simp only; omega, lv, lr, lp⟩⟩
    · simp only [R24_0, F24_0, d1, cond_false]
    · cases b with
      | true => simp only [R25_0, inY, inYr, cond_true, cond_false, sumE, F25_0_s0, d1]
      | false => simp only [R25_0, inY, inYr, cond_true, cond_false, sumE, F25_0_s1, d1]
theorem same24 (s : List AV) (n : Int) (v r p : List AV) (old : Int) (h0 : s.length ≤ 1048576) (h1 : v.length ≤ 1048576) (h2 : r.length ≤ 1048576) (h3 : p.length ≤ 1048576) :
    q24 s n v r p old = true ∧ q25 s n v r p old = true ∧ v25_0 s n v r p old = v24_0 s n v r p old ∧ v25_1 s n v r p old = v24_1 s n v r p old ∧ v25_2 s n v r p old = v24_2 s n v r p old ∧ v25_3 s n v r p old = v24_3 s n v r p old ∧ v25_4 s n v r p old = v24_4 s n v r p old ∧ v25_5 s n v r p old = v24_5 s n v r p old ∧
      (v24_0 s n v r p old).length ≤ 1048576 ∧ (v24_2 s n v r p old).length ≤ 1048576 ∧ (v24_3 s n v r p old).length ≤ 1048576 ∧ (v24_4 s n v r p old).length ≤ 1048576 := by
  obtain ⟨a, b, c, d, e, f⟩ := P74 s n v r p h0 h1 h2 h3
  obtain ⟨a', b', c', d', e', f'⟩ := P75 s n v r p h0 h1 h2 h3
  unfold q24 q25 v24_0 v24_1 v24_2 v24_3 v24_4 v24_5 v25_0 v25_1 v25_2 v25_3 v25_4 v25_5
  rw [a, b, c, d, e, f, a', b', c', d', e', f', (P16 s n v r p h0 h1 h2 h3).1, (P16 s n v r p h0 h1 h2 h3).2, (P18 s n v r p h0 h1 h2 h3).1, (P18 s n v r p h0 h1 h2 h3).2]
  cases hS : isS s n v r p with
  | false => exact ⟨rfl, rfl, rfl, rfl, rfl, rfl, rfl, rfl, h0, h1, h2, h3⟩
  | true =>
    obtain ⟨x, y, x1, y1, hj⟩ := runW_pair (VacI s n v r p) (VacJ s n v r p) (fun x => ((s.length : Int) - x.2.1).toNat) (stepVac old s n v r p v r p 0 n h0) (((s.length : Int) - 0).toNat + 1) (((s.length : Int) - 0).toNat + 1) (0, 0, [], v, r, p) (inY true s n v r p 0 [] v r p)
      ⟨⟨true, fun _ => rfl, rfl⟩, by simp, by simp, by simp, by simp, h1, h2, h3⟩ (by simp) (by simp)
    simp only [inY, cond_true] at y1
    rw [x1, y1]
    obtain ⟨cnt, acc, V, Rr, P⟩ := x
    obtain ⟨⟨b, hb, rfl⟩, c0, c1, lv, lr, lp⟩ := hj
    simp only at hb c0 c1 lv lr lp
    have hacc : acc.length ≤ 1048576 := by omega
    cases b with
    | true =>
      have hn := hb rfl
      subst hn
      have w : IntKind.i64.wrap ((s.length : Int) - 0) = cnt := by
        rw [wrap_in (by omega) (by omega)]
        simp only [List.length_nil] at c1
        omega
      simp only [ro, inYr, cond_true, cond_false, sumE, Bool.not_true, Bool.and_self, w, true_and]
      exact ⟨hacc, lv, lr, lp⟩
    | false =>
      have w : IntKind.i64.wrap ((s.length : Int) - (acc.length : Int)) = cnt := by
        rw [wrap_in (by omega) (by omega)]
        omega
      simp only [ro, inYr, cond_true, cond_false, sumE, Bool.not_true, Bool.and_self, w, true_and]
      exact ⟨hacc, lv, lr, lp⟩
theorem raw5_true (s : List AV) (n : Int) (v r p : List AV) (old : Int) (a1 : s.length ≤ 9223372036854775807) (a2 : v.length ≤ 9223372036854775807) (a3 : r.length ≤ 9223372036854775807) (a4 : p.length ≤ 9223372036854775807) : raw5 s n v r p old = some (.bool true) := by
  unfold raw5
  rw [P15 a1 a2 a3 a4 (by omega) (by omega)]
  by_cases c1 : 1048576 < (s.length : Int) + ((v.length : Int) + (r.length : Int) + (p.length : Int))
  · rw [if_pos c1]
    rfl
  rw [if_neg c1, decide_eq_false (by omega : ¬ (1048576 : Int) - ((s.length : Int) + ((v.length : Int) + (r.length : Int) + (p.length : Int))) < 0)]
  obtain ⟨t1, t2, t3, t4, t5, t6⟩ := P17 s n v r p (by omega) (by omega) (by omega) (by omega)
  have l1 : (s.map cp70).length ≤ 1048576 := by rw [List.length_map]; omega
  have l2 : (v.map cp30).length ≤ 1048576 := by rw [List.length_map]; omega
  have l3 : (r.map cp30).length ≤ 1048576 := by rw [List.length_map]; omega
  have l4 : (p.map cp93).length ≤ 1048576 := by rw [List.length_map]; omega
  generalize s.map cp70 = s' at *
  generalize v.map cp30 = v' at *
  generalize r.map cp30 = r' at *
  generalize p.map cp93 = p' at *
  obtain ⟨x1, w1, w2, w3, w4, w5, w6, w7, ld, lv, lr, lp⟩ := same24 s' n v' r' p' old l1 l2 l3 l4
  generalize u0 : v24_0 s' n v' r' p' old = d at *
  generalize u1 : v24_1 s' n v' r' p' old = m at *
  generalize u2 : v24_2 s' n v' r' p' old = dv at *
  generalize u3 : v24_3 s' n v' r' p' old = dr at *
  generalize u4 : v24_4 s' n v' r' p' old = dp at *
  generalize u5 : v24_5 s' n v' r' p' old = b at *
  obtain ⟨y1, y2⟩ := P19s s' n v' r' p' l1 l2 l3 l4
  obtain ⟨z1, z2⟩ := P19s d m dv dr dp ld lv lr lp
  obtain ⟨k1, k2, k3, k4, _⟩ := markheld s' n v' r' p' 1 l1 l2 l3 l4 (by omega) (by omega)
  obtain ⟨m1, m2, m3, m4, _⟩ := markheld d m dv dr dp 1 ld lv lr lp (by omega) (by omega)
  have n1 : decide (v22_0 n 1 s' v' r' p' < 0) = false := decide_eq_false (by omega)
  have n2 : decide (v22_0 m 1 d dv dr dp < 0) = false := decide_eq_false (by omega)
  simp only [t1, t2, t3, t4, t5, t6, x1, u0, u1, u2, u3, u4, u5, w1, w2, w3, w4, w5, w6, w7, y1, y2, z1, z2, k1, n1, m1, m2, m3, n2, beq_self_eq_true, decide_true, Bool.not_true, cond_false, cond_true]
theorem law5 {x0 x1 : AV} (t0 : TA Try.prog 28 x0) (t1 : TA Try.prog 3 x1) : m5 [x0, x1] = some (true, .bool true) := by
  obtain ⟨s, n, v, r, p, rfl, a1, a2, a3, a4⟩ := store_args t0 (by kernel_rfl) (by kernel_rfl)
  obtain ⟨row, rfl, _⟩ := tw_int (ta_one (ct := .int .i64) t1 (by kernel_rfl) (by kernel_rfl))
  show (raw5 s n v r p row).map (fun r => (true, r)) = _
  rw [raw5_true s n v r p row a1 a2 a3 a4]
  rfl

end Go.Proofs.Ytepfklcdpkpepaa
