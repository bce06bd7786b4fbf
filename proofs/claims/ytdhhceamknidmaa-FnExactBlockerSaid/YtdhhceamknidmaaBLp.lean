/- the law -/
import Derived.Test.YtdhhceamknidmaaBLs
namespace Go.Proofs.Ytdhhceamknidmaa
open Go Go.Proofs.VE
set_option linter.unusedVariables false
set_option linter.unusedSimpArgs false
theorem findF_congr {p q : Int → Bool} : ∀ (m : Nat) (i : Int), (∀ j, i ≤ j → j < i + m → p j = q j) → findF p m i = findF q m i
  | 0, _, _ => rfl
  | m + 1, i, h => by
    simp only [findF]
    rw [h i (by omega) (by omega), findF_congr m (i + 1) fun j h1 h2 => h j (by omega) (by omega)]
theorem isB_get {vs rs ps ws : List AV} {s : Int} (h1 : vs.length ≤ 1048576) (h2 : rs.length ≤ 1048576) (h3 : ps.length ≤ 1048576) (h4 : ws.length ≤ 1048576) (h5 : few20 ws) (h6 : okI ws) (h : v19_0 vs rs ps ws s = true) :
    Col vs rs ps ∧ 1 ≤ ws.length ∧ ws.length ≤ 3 ∧ ∀ k : Int, 0 ≤ k → k < ws.length → wkAt vs ps ws k = true := by
  rw [(P19 vs rs ps ws s h1 h2 h3 h4 h5 h6).2] at h
  unfold isBS at h
  simp only [Bool.and_eq_true, decide_eq_true_eq, noneB_iff] at h
  obtain ⟨k1, k2, k3, _, _, k4⟩ := h
  refine ⟨(isC_iff vs rs ps h1).1 k1, by omega, by omega, fun k k0 kn => ?_⟩
  have := k4 k k0 kn
  unfold pS at this
  rw [Bool.or_eq_false_iff, Bool.not_eq_false'] at this
  exact this.1
theorem wk_get {vs ps ws : List AV} {k : Int} (h : wkAt vs ps ws k = true) : 0 ≤ fI (ws.getD k.toNat .undef) 1 ∧ fI (ws.getD k.toNat .undef) 1 ≤ (fL (ws.getD k.toNat .undef) 0).length ∧
    ∀ j : Int, 0 ≤ j → j < (fL (ws.getD k.toNat .undef) 0).length → -1000 ≤ fI ((fL (ws.getD k.toNat .undef) 0).getD j.toNat .undef) 0 ∧ fI ((fL (ws.getD k.toNat .undef) 0).getD j.toNat .undef) 0 ≤ 1000 := by
  unfold wkAt wkB at h
  simp only [Bool.and_eq_true, decide_eq_true_eq, noneB_iff] at h
  obtain ⟨k1, _, k2, k3, _⟩ := h
  refine ⟨k2, k3, fun j j0 j1 => ?_⟩
  have := k1 j j0 j1
  rw [Bool.not_eq_false', v67, Bool.and_eq_true, decide_eq_true_eq, decide_eq_true_eq] at this
  exact this
theorem at_free {vs rs ps : List AV} (hc : Col vs rs ps) {v : Int} (hf : (findP ps v).isSome = false) : At ps (pA ps v) (pB vs ps v) := by
  have hpc := pc_of hc hf
  have pc := piece_of hc hpc
  refine ⟨pc.a0, pc.ab, fun h => ?_, pc.cut⟩
  have ht := hpc.t1
  have ht0 := hpc.t0
  unfold pA at h ⊢
  split at h
  · omega
  · rename_i hne
    rw [if_neg hne]
    exact ⟨_, by omega, by omega, rfl⟩
theorem ov_both {vs rs ps ws : List AV} (hc : Col vs rs ps) {a b m : Int} (A : At ps a b) (h : wkAt vs ps ws m = true) : ovS ws a b m = ovI ws a b m := by
  unfold wkAt at h
  unfold ovS ovI
  cases hr : fB (ws.getD m.toNat .undef) 2 with
  | false => rfl
  | true =>
    rw [hr] at h
    rw [ov69, ov72, Bool.true_and, decide_eq_decide]
    exact ov_eq A (at_of hc h)
theorem blk_both (vs rs ps ws : List AV) (s w : Int) (h1 : vs.length ≤ 1048576) (h2 : rs.length ≤ 1048576) (h3 : ps.length ≤ 1048576) (h4 : ws.length ≤ 1048576) (h5 : few20 ws) (h6 : okI ws) :
    q23 vs rs ps ws s w = true ∧ q24 vs rs ps ws s w = true ∧ v24_0 vs rs ps ws s w = v23_0 vs rs ps ws s w := by
  obtain ⟨b0, b1, b2⟩ := isB_both vs rs ps ws s h1 h2 h3 h4 h5 h6
  have get := fun h => isB_get (s := s) h1 h2 h3 h4 h5 h6 h
  unfold q23 q24 v23_0 v24_0
  rw [b0, b1, b2]
  cases hb : v19_0 vs rs ps ws s with
  | false => exact ⟨rfl, rfl, rfl⟩
  | true =>
    obtain ⟨hc, l1, l2, hw⟩ := get hb
    rw [wrap_in (a := (ws.length : Int) - 1) (by omega) (by omega), v67, dlt w 0, show decide (w ≥ (ws.length : Int)) = !decide (w < ws.length) by rw [dlt, Bool.not_not], show decide (w ≤ (ws.length : Int) - 1) = decide (w < ws.length) by rw [decide_eq_decide]; omega]
    by_cases w0 : 0 ≤ w
    · by_cases w1 : w < ws.length
      · rw [decide_eq_true w0, decide_eq_true w1]
        obtain ⟨n0, n1, nb⟩ := wk_get (hw w w0 w1)
        cases hr : fB (ws.getD w.toNat .undef) 2 with
        | true => exact ⟨rfl, rfl, rfl⟩
        | false =>
          by_cases hn : fI (ws.getD w.toNat .undef) 1 = (fL (ws.getD w.toNat .undef) 0).length
          · rw [decide_eq_true hn]; exact ⟨rfl, rfl, rfl⟩
          · rw [decide_eq_false hn, decide_eq_true n0, decide_eq_true (by omega : fI (ws.getD w.toNat .undef) 1 < ((fL (ws.getD w.toNat .undef) 0).length : Int))]
            obtain ⟨v0, v1⟩ := nb _ n0 (by omega)
            obtain ⟨a1, _, a3⟩ := P75 vs rs ps (fI ((fL (ws.getD w.toNat .undef) 0).getD (fI (ws.getD w.toNat .undef) 1).toNat .undef) 0) h3
            obtain ⟨c1, c3⟩ := P77 vs rs ps (fI ((fL (ws.getD w.toNat .undef) 0).getD (fI (ws.getD w.toNat .undef) 1).toNat .undef) 0) h3
            obtain ⟨d1, d2⟩ := P76b hc h3 v0 v1
            rw [a1, a3, c1, c3, d1]
            cases hf : (findP ps (fI ((fL (ws.getD w.toNat .undef) 0).getD (fI (ws.getD w.toNat .undef) 1).toNat .undef) 0)).isSome with
            | true => exact ⟨rfl, rfl, rfl⟩
            | false =>
              obtain ⟨d3, d4⟩ := d2 hf
              have hpc := pc_of hc hf
              obtain ⟨e1, e2, e3⟩ := P116 hpc h3
              have A := at_free hc hf
              unfold q78 v78_0
              rw [decide_eq_true w0, decide_eq_true w1, decide_eq_true n0, decide_eq_true (by omega : fI (ws.getD w.toNat .undef) 1 < ((fL (ws.getD w.toNat .undef) 0).length : Int)), e1, d3, d4]
              generalize fI ((fL (ws.getD w.toNat .undef) 0).getD (fI (ws.getD w.toNat .undef) 1).toNat .undef) 0 = v at *
              change v116_0 vs rs ps v = pA ps v at e2
              change v116_1 vs rs ps v = pB vs ps v at e3
              rw [e2, e3]
              generalize pA ps v = a at *
              generalize pB vs ps v = b at *
              have r1 : runW (R23_0 w a b vs rs ps ws s) (((ws.length : Int) - 0).toNat + 1) 0 = some (ro (findF (fun k => !decide (k = w) && ovS ws a b k) ws.length 0) (.inl ()) fun i => .inr i) := by
                refine runW_find (fun i => i) ws.length _ _ _ (fun k k0 kn => ?_) ?_ ws.length _ 0 (Int.le_refl 0) (by omega) (by omega)
                · have x1 : decide (k < (ws.length : Int)) = true := decide_eq_true kn
                  have x2 : decide (0 ≤ k) = true := decide_eq_true k0
                  simp only [R23_0, F23_0, x1, x2, Bool.and_self, cond_true, ovS]
                  rw [wrap_in (a := k + 1) (by omega) (by omega)]
                  cases decide (k = w) <;> rfl
                · simp only [R23_0, F23_0, Int.lt_irrefl, decide_false, cond_false]
              have r2 : runW (R78_0 w a b ws ws.length) (((ws.length : Int) - 0).toNat + 1) 0 = some (ro (findF (fun k => !decide (k = w) && ovI ws a b k) ws.length 0) (.inl ()) fun i => .inr (i, pay9 (ws.getD i.toNat .undef))) := by
                refine runW_find (fun i => i) ws.length _ _ _ (fun k k0 kn => ?_) ?_ ws.length _ 0 (Int.le_refl 0) (by omega) (by omega)
                · have x1 : decide (k < (ws.length : Int)) = true := decide_eq_true kn
                  have x2 : decide (0 ≤ k) = true := decide_eq_true k0
                  simp only [R78_0, F78_0, x1, x2, Bool.and_self, cond_true, ovI]
                  rw [wrap_in (a := k + 1) (by omega) (by omega)]
                  cases decide (k = w) with
                  | true => rfl
                  | false =>
                    cases hB : fB (ws.getD k.toNat .undef) 2 with
                    | false => rfl
                    | true => unfold pay9; rw [hB]; rfl
                · simp only [R78_0, F78_0, Int.lt_irrefl, decide_false, cond_false]
              have e : findF (fun k => !decide (k = w) && ovS ws a b k) ws.length 0 = findF (fun k => !decide (k = w) && ovI ws a b k) ws.length 0 := findF_congr _ _ fun k k0 kn => by
                show (!decide (k = w) && ovS ws a b k) = (!decide (k = w) && ovI ws a b k)
                rw [ov_both hc A (hw k k0 (by omega))]
              rw [r1, r2, e]
              cases findF (fun k => !decide (k = w) && ovI ws a b k) ws.length 0 <;> exact ⟨rfl, rfl, rfl⟩
      · rw [decide_eq_true w0, decide_eq_false w1]; exact ⟨rfl, rfl, rfl⟩
    · rw [decide_eq_false w0]; exact ⟨rfl, rfl, rfl⟩
theorem raw6_true (v r p ws : List AV) (s w : Int) (a1 : v.length ≤ 9223372036854775807) (a2 : r.length ≤ 9223372036854775807) (a3 : p.length ≤ 9223372036854775807) (a4 : ws.length ≤ 9223372036854775807) (a5 : ∀ x ∈ ws, (fL x 0).length ≤ 9223372036854775807) (a6 : okI ws) : raw6 v r p ws s w = some (.bool true) := by
  unfold raw6
  obtain ⟨c1, c2⟩ := P14 (s := s) (a := 1048576) a1 a2 a3 a4 a5 (by omega) (by omega)
  rw [c1]
  rcases c2 with c2 | ⟨c2, c3, l1, l2, l3, l4, l5⟩
  · rw [c2]; rfl
  rw [decide_eq_false (by omega : ¬ v14_0 v r p ws s 1048576 < 0)]
  obtain ⟨e1, e2, e3, e4, e5, e6⟩ := P16 v r p ws s l1 l2 l3 l4 l5
  have n1 : (v.map cp27).length ≤ 1048576 := by rw [List.length_map]; omega
  have n2 : (r.map cp27).length ≤ 1048576 := by rw [List.length_map]; omega
  have n3 : (p.map cp89).length ≤ 1048576 := by rw [List.length_map]; omega
  have n4 : (ws.map cpW).length ≤ 1048576 := by rw [List.length_map]; omega
  have n5 := few20_cp l5
  have n6 := okI_cp a6
  rw [e1, e2, e3, e4, e5, e6]
  generalize v.map cp27 = v1 at *
  generalize r.map cp27 = r1 at *
  generalize p.map cp89 = p1 at *
  generalize ws.map cpW = ws1 at *
  obtain ⟨g1, g2, g3⟩ := blk_both v1 r1 p1 ws1 s w n1 n2 n3 n4 n5 n6
  obtain ⟨i1, i2⟩ := P18 v1 r1 p1 ws1 s v1 r1 p1 ws1 s n1 n2 n3 n4 n5
  rw [g1, g2, g3, i1, i2, eqB_self]
  simp only [decide_true, Bool.not_true, cond_true, cond_false]
theorem law6 {x0 x1 : AV} (t0 : TA Try.prog 28 x0) (t1 : TA Try.prog 3 x1) : m6 [x0, x1] = some (true, .bool true) := by
  obtain ⟨v, r, p, ws, s, rfl, a1, a2, a3, a4, a5, a6⟩ := board_args2 t0 (by kernel_rfl) (by kernel_rfl)
  obtain ⟨w, rfl, _⟩ := tw_int (ta_one (ct := .int .i64) t1 (by kernel_rfl) (by kernel_rfl))
  show (raw6 v r p ws s w).map (fun r => (true, r)) = _
  rw [raw6_true v r p ws s w a1 a2 a3 a4 a5 a6]
  rfl

end Go.Proofs.Ytdhhceamknidmaa
