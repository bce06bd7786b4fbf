/- the law: PivotLine -/
import Derived.Test.YtiokajbmckcklaaDoorPVn
namespace Go.Proofs.YtiokajbmckcklaaDoor
open Go Go.Proofs.VE
set_option linter.unusedVariables false
set_option linter.unusedSimpArgs false
/-! The pivots' line. -/
def wP (ps : List AV) (i : Int) : ByteArray := (itoaB (fI (ps.getD i.toNat .undef) 0) ++ ByteArray.mk #[64]) ++ itoaB (fI (ps.getD i.toNat .undef) 1)
theorem wP_size (ps : List AV) (hv : ∀ i : Int, In64 (fI (ps.getD i.toNat .undef) 0) ∧ In64 (fI (ps.getD i.toNat .undef) 1)) (i : Int) : (wP ps i).size ≤ 41 ∧ 1 ≤ (wP ps i).size := by
  have la := itoaB_len _ (hv i).1.1 (hv i).1.2
  have lb := itoaB_len _ (hv i).2.1 (hv i).2.2
  have o1 : (ByteArray.mk #[64]).size = 1 := rfl
  unfold wP
  rw [ByteArray.size_append, ByteArray.size_append]
  omega
theorem run35 (vs rs ps : List AV) (h : ps.length ≤ 1048576) (hv : ∀ i : Int, In64 (fI (ps.getD i.toNat .undef) 0) ∧ In64 (fI (ps.getD i.toNat .undef) 1)) :
    runW (R35_0 vs rs ps) (((ps.length : Int) - 0).toNat + 1) (ByteArray.empty, 0) = some (foldF (gJ (wP ps)) ps.length 0 ByteArray.empty) :=
  runW_fold (f := R35_0 vs rs ps) (fun i (t : ByteArray) => (t, i)) ps.length (gJ (wP ps)) (fun t => t) (fun i t => (t.size : Int) ≤ 42 * i) (fun i t h0 hn hI => by
    have hs : (gJ (wP ps) i t).size ≤ t.size + (41 + 1) := (gJ_size (wP ps) 41 (fun j => (wP_size ps hv j).1) i t).1
    refine ⟨?_, by omega⟩
    obtain ⟨a1, a2⟩ := fmtInt _ (hv i).1.1 (hv i).1.2
    obtain ⟨b1, b2⟩ := fmtInt _ (hv i).2.1 (hv i).2.2
    have la := itoaB_len _ (hv i).1.1 (hv i).1.2
    have lb := itoaB_len _ (hv i).2.1 (hv i).2.2
    have o1 : (ByteArray.mk #[32]).size = 1 := rfl
    have o2 : (ByteArray.mk #[64]).size = 1 := rfl
    have d0 : decide (i < (ps.length : Int)) = true := decide_eq_true hn
    have d2 : decide (0 ≤ i) = true := decide_eq_true h0
    unfold R35_0 F35_0 gJ wP
    rw [a1, a2, b1, b2, d0, d2, wrap_in (a := i + 1) (by omega) (by omega)]
    generalize itoaB (fI (ps.getD i.toNat .undef) 0) = A at *
    generalize itoaB (fI (ps.getD i.toNat .undef) 1) = B at *
    have d3 : decide (t.size + (ByteArray.mk #[32]).size ≤ 4611686018427387904) = true := decide_eq_true (by omega)
    have d4 : decide ((t ++ ByteArray.mk #[32]).size + A.size ≤ 4611686018427387904) = true := decide_eq_true (by rw [ByteArray.size_append]; omega)
    have d5 : decide (((t ++ ByteArray.mk #[32]) ++ A).size + (ByteArray.mk #[64]).size ≤ 4611686018427387904) = true := decide_eq_true (by rw [ByteArray.size_append, ByteArray.size_append]; omega)
    have d6 : decide ((((t ++ ByteArray.mk #[32]) ++ A) ++ ByteArray.mk #[64]).size + B.size ≤ 4611686018427387904) = true := decide_eq_true (by rw [ByteArray.size_append, ByteArray.size_append, ByteArray.size_append]; omega)
    have d7 : decide (t.size + A.size ≤ 4611686018427387904) = true := decide_eq_true (by omega)
    have d8 : decide ((t ++ A).size + (ByteArray.mk #[64]).size ≤ 4611686018427387904) = true := decide_eq_true (by rw [ByteArray.size_append]; omega)
    have d9 : decide (((t ++ A) ++ ByteArray.mk #[64]).size + B.size ≤ 4611686018427387904) = true := decide_eq_true (by rw [ByteArray.size_append, ByteArray.size_append]; omega)
    rw [d3, d4, d5, d6, d7, d8, d9]
    cases decide (i > 0)
    · simp only [cond_false, cond_true, Bool.and_self, ByteArray.append_assoc]
    · simp only [cond_true, Bool.and_self, ByteArray.append_assoc]) (fun t _ => by
    unfold R35_0 F35_0
    rw [decide_eq_false (Int.lt_irrefl _)]
    rfl) ps.length _ 0 ByteArray.empty (Int.le_refl 0) (by omega) (by omega) (by decide)
theorem run37 (ps : List AV) (h : ps.length ≤ 1048576) (hv : ∀ i : Int, In64 (fI (ps.getD i.toNat .undef) 0) ∧ In64 (fI (ps.getD i.toNat .undef) 1)) :
    runW (R37_0 ps ps.length) (((ps.length : Int) - 0).toNat + 1) (0, ([] : List AV)) = some (foldF (gL (wP ps)) ps.length 0 []) :=
  runW_fold (f := R37_0 ps ps.length) (fun i (t : List AV) => (i, t)) ps.length (gL (wP ps)) (fun t => t) (fun i t => (t.length : Int) = i) (fun i t h0 hn hI => by
    refine ⟨?_, by unfold gL; rw [List.length_append]; simp only [List.length_cons, List.length_nil]; omega⟩
    obtain ⟨a1, a2⟩ := fmtInt' _ (hv i).1.1 (hv i).1.2
    obtain ⟨b1, b2⟩ := fmtInt' _ (hv i).2.1 (hv i).2.2
    have la := itoaB_len _ (hv i).1.1 (hv i).1.2
    have lb := itoaB_len _ (hv i).2.1 (hv i).2.2
    have o2 : (ByteArray.mk #[64]).size = 1 := rfl
    have d0 : decide (i < (ps.length : Int)) = true := decide_eq_true hn
    have d2 : decide (0 ≤ i) = true := decide_eq_true h0
    unfold R37_0 F37_0 gL wP
    rw [a1, a2, b1, b2, d0, d2, wrap_in (a := i + 1) (by omega) (by omega)]
    generalize itoaB (fI (ps.getD i.toNat .undef) 0) = A at *
    generalize itoaB (fI (ps.getD i.toNat .undef) 1) = B at *
    have d3 : decide ((t.length + ([AV.str ((A ++ ByteArray.mk #[64]) ++ B)]).length) * 16 ≤ 140737488355328) = true := decide_eq_true (by simp only [List.length_cons, List.length_nil]; omega)
    have d4 : decide ((t.length + ([AV.str ((A ++ ByteArray.mk #[64]) ++ B)]).length) ≤ 140737488355328) = true := decide_eq_true (by simp only [List.length_cons, List.length_nil]; omega)
    have d5 : decide (A.size + (ByteArray.mk #[64]).size ≤ 4611686018427387904) = true := decide_eq_true (by omega)
    have d6 : decide ((A ++ ByteArray.mk #[64]).size + B.size ≤ 4611686018427387904) = true := decide_eq_true (by rw [ByteArray.size_append]; omega)
    rw [d3, d4, d5, d6]
    rfl) (fun t _ => by
    unfold R37_0 F37_0
    rw [decide_eq_false (Int.lt_irrefl _)]
    rfl) ps.length _ 0 [] (Int.le_refl 0) (by omega) (by omega) rfl
theorem pivl (vs rs ps : List AV) (h1 : vs.length ≤ 1048576) (h2 : rs.length ≤ 1048576) (h : ps.length ≤ 1048576) (hv : ∀ i : Int, In64 (fI (ps.getD i.toNat .undef) 0) ∧ In64 (fI (ps.getD i.toNat .undef) 1)) :
    q35 vs rs ps = true ∧ q37 vs rs ps = true ∧ v37_0 vs rs ps = v35_0 vs rs ps := by
  obtain ⟨s1, s2⟩ := P64 vs rs ps h1 h2 h
  obtain ⟨s3, s4⟩ := P66 vs rs ps h1 h2 h
  have hw : ∀ i, (wP ps i).size ≤ 41 := fun j => (wP_size ps hv j).1
  have hj : foldF (gJ (wP ps)) ps.length 0 ByteArray.empty = joinB (foldF (gL (wP ps)) ps.length 0 []) (ByteArray.mk #[32]) := gJ_join (wP ps) ps.length 0 ByteArray.empty [] rfl (by
    apply ByteArray.ext
    simp [joinB, Lib.join_nil])
  have hl : (foldF (gL (wP ps)) ps.length 0 []).length = ps.length := by rw [gL_len]; simp
  have hz := (gJ_fold (wP ps) 41 hw ps.length 0 ByteArray.empty).1
  have z0 : ByteArray.empty.size = 0 := rfl
  unfold q35 q37 v35_0 v37_0
  rw [s1, s2, s3, s4, run35 vs rs ps h hv, run37 ps h hv]
  cases hc : isC vs rs ps with
  | false => exact ⟨rfl, rfl, rfl⟩
  | true =>
    simp only [ro, Bool.not_true, cond_false, Bool.true_and]
    have k : q50 (foldF (gL (wP ps)) ps.length 0 []) (ByteArray.mk #[32]) = true := by
      unfold q50
      rw [hl, ← hj, decide_eq_true (by omega : ps.length ≤ 140737488355328), decide_eq_true (by omega)]
      rfl
    rw [k]
    by_cases hn : ps.length = 0
    · rw [decide_eq_true (by omega : ((foldF (gL (wP ps)) ps.length 0 []).length : Int) = 0), decide_eq_true (by omega : (ps.length : Int) = 0)]
      exact ⟨rfl, rfl, rfl⟩
    · rw [decide_eq_false (by omega : ¬ ((foldF (gL (wP ps)) ps.length 0 []).length : Int) = 0), decide_eq_false (by omega : ¬ (ps.length : Int) = 0)]
      exact ⟨rfl, rfl, hj.symm⟩
theorem getD_map (c : AV → AV) (xs : List AV) (i : Nat) (h : i < xs.length) : (xs.map c).getD i .undef = c (xs.getD i .undef) := by
  rw [List.getD_eq_getElem?_getD, List.getD_eq_getElem?_getD, List.getElem?_map, List.getElem?_eq_getElem h]
  rfl
theorem tw_in {x : AV} (h : TW (.int .i64) x) : ∃ n, x = .int .i64 n ∧ In64 n := by
  obtain ⟨n, rfl, hn⟩ := tw_int h
  exact ⟨n, rfl, of_decide_eq_true (Bool.and_eq_true_iff.1 hn).1, of_decide_eq_true (Bool.and_eq_true_iff.1 hn).2⟩
theorem raw8_true (v r p : List AV) (a2 : v.length ≤ 9223372036854775807) (a3 : r.length ≤ 9223372036854775807) (a4 : p.length ≤ 9223372036854775807) (hx : ∀ y ∈ p, TWs [.int .i64, .int .i64] y.cells) : raw8 v r p = some (.bool true) := by
  unfold raw8
  rw [P34 a2 a3 a4 (by omega) (by omega)]
  by_cases c1 : 1048576 < ((v.length : Int) + (r.length : Int) + (p.length : Int))
  · rw [if_pos c1]
    rfl
  rw [if_neg c1, decide_eq_false (by omega : ¬ (1048576 : Int) - ((v.length : Int) + (r.length : Int) + (p.length : Int)) < 0)]
  obtain ⟨t1, t2, t3, t4⟩ := P36 v r p (by omega) (by omega) (by omega)
  have l2 : (v.map cp14).length ≤ 1048576 := by rw [List.length_map]; omega
  have l3 : (r.map cp14).length ≤ 1048576 := by rw [List.length_map]; omega
  have l4 : (p.map cp65).length ≤ 1048576 := by rw [List.length_map]; omega
  have hv : ∀ i : Int, In64 (fI ((p.map cp65).getD i.toNat .undef) 0) ∧ In64 (fI ((p.map cp65).getD i.toNat .undef) 1) := fun i => by
    by_cases hi : i.toNat < p.length
    · rw [getD_map cp65 p _ hi]
      have hm : p.getD i.toNat .undef ∈ p := by
        rw [List.getD_eq_getElem?_getD, List.getElem?_eq_getElem hi]
        exact List.getElem_mem hi
      obtain ⟨y, ys, e1, e2, h2⟩ := tws_cons (hx _ hm)
      obtain ⟨z, zs, rfl, e3, _⟩ := tws_cons h2
      obtain ⟨n, rfl, hn⟩ := tw_in e2
      obtain ⟨k, rfl, hk⟩ := tw_in e3
      have f0 : fI (cp65 (p.getD i.toNat .undef)) 0 = n := by
        show fI (p.getD i.toNat .undef) 0 = n
        unfold fI
        rw [e1]
        rfl
      have f1 : fI (cp65 (p.getD i.toNat .undef)) 1 = k := by
        show fI (p.getD i.toNat .undef) 1 = k
        unfold fI
        rw [e1]
        rfl
      rw [f0, f1]
      exact ⟨hn, hk⟩
    · rw [List.getD_eq_getElem?_getD, List.getElem?_eq_none (by rw [List.length_map]; omega)]
      exact ⟨⟨by decide, by decide⟩, ⟨by decide, by decide⟩⟩
  generalize v.map cp14 = v' at *
  generalize r.map cp14 = r' at *
  generalize p.map cp65 = p' at *
  obtain ⟨x1, x2, x3⟩ := pivl v' r' p' l2 l3 l4 hv
  obtain ⟨z1, z2⟩ := P38s v' r' p' l2 l3 l4
  simp only [t1, t2, t3, t4, x1, x2, x3, z1, z2, beq_self_eq_true, Bool.not_true, cond_false, cond_true]
theorem col_args {t : Nat} {x : AV} (h : TA Tryd.prog t x) (ha : aggT Tryd.prog t = some true) (hc : ctsT Tryd.prog 7 t = [.sl [.int .i64], .sl [.int .i64], .sl [.int .i64, .int .i64]]) : ∃ v r p, x = .agg [.sl [.int .i64] v, .sl [.int .i64] r, .sl [.int .i64, .int .i64] p] ∧ v.length ≤ 9223372036854775807 ∧ r.length ≤ 9223372036854775807 ∧ p.length ≤ 9223372036854775807 ∧ ∀ y ∈ p, TWs [.int .i64, .int .i64] y.cells := by
  obtain ⟨cs, rfl, h1⟩ := ta_agg h ha hc
  obtain ⟨x2, _, rfl, g2, h4⟩ := tws_cons h1
  obtain ⟨x3, _, rfl, g3, h5⟩ := tws_cons h4
  obtain ⟨x4, _, rfl, g4, h6⟩ := tws_cons h5
  obtain rfl := tws_nil h6
  obtain ⟨v, rfl, a2, _⟩ := tw_sl g2
  obtain ⟨r, rfl, a3, _⟩ := tw_sl g3
  obtain ⟨p, rfl, a4, hx⟩ := tw_sl g4
  exact ⟨v, r, p, rfl, a2, a3, a4, hx⟩
theorem law8 {x0 : AV} (t0 : TA Tryd.prog 59 x0) : m8 [x0] = some (true, .bool true) := by
  obtain ⟨v, r, p, rfl, a2, a3, a4, hx⟩ := col_args t0 (by kernel_rfl) (by kernel_rfl)
  show (raw8 v r p).map (fun r => (true, r)) = _
  rw [raw8_true v r p a2 a3 a4 hx]
  rfl

end Go.Proofs.YtiokajbmckcklaaDoor
