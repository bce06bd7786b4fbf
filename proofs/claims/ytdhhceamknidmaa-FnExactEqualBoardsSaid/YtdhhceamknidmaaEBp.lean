/- the law -/
import Derived.Test.YtdhhceamknidmaaEBq
namespace Go.Proofs.Ytdhhceamknidmaa
open Go Go.Proofs.VE
set_option linter.unusedVariables false
set_option linter.unusedSimpArgs false
def payW (xs ys : List AV) (i : Int) : (List AV) × Int × Bool × Int × Int × Int × Int × Int × Int × (List AV) × Int × Bool × Int × Int × Int × Int × Int × Int :=
  (fL (xs.getD i.toNat .undef) 0, fI (xs.getD i.toNat .undef) 1, fB (xs.getD i.toNat .undef) 2, fI (xs.getD i.toNat .undef) 3, fI (xs.getD i.toNat .undef) 4, fI (xs.getD i.toNat .undef) 5, fI (xs.getD i.toNat .undef) 6, fI (xs.getD i.toNat .undef) 7, fI (xs.getD i.toNat .undef) 8, fL (ys.getD i.toNat .undef) 0, fI (ys.getD i.toNat .undef) 1, fB (ys.getD i.toNat .undef) 2, fI (ys.getD i.toNat .undef) 3, fI (ys.getD i.toNat .undef) 4, fI (ys.getD i.toNat .undef) 5, fI (ys.getD i.toNat .undef) 6, fI (ys.getD i.toNat .undef) 7, fI (ys.getD i.toNat .undef) 8)
theorem P58 (v r p v' r' p' : List AV) (h1 : v.length ≤ 1048576) (h2 : r.length ≤ 1048576) (h3 : p.length ≤ 1048576) : q58 v r p v' r' p' = true ∧ v58_0 v r p v' r' p' = (eqL ee1 v v' && (eqL ee1 r r' && eqL ee2 p p')) := by
  unfold q58 v58_0
  rw [(P59 v v' h1).1, (P59 v v' h1).2, (P59 r r' h2).1, (P59 r r' h2).2, (P106 p p' h3).1, (P106 p p' h3).2]
  simp only [band]
  cases eqL ee1 v v' <;> cases eqL ee1 r r' <;> first | exact ⟨rfl, rfl⟩ | exact ⟨trivial, rfl⟩ | simp
theorem P61 (v r p v' r' p' : List AV) (h1 : v.length ≤ 1048576) (h2 : r.length ≤ 1048576) (h3 : p.length ≤ 1048576) : q61 v r p v' r' p' = true ∧ v61_0 v r p v' r' p' = (eqL ee1 v v' && (eqL ee1 r r' && eqL ee2 p p')) := by
  unfold q61 v61_0
  rw [(P64 v v' h1).1, (P64 v v' h1).2, (P64 r r' h2).1, (P64 r r' h2).2, (P108 p p' h3).1, (P108 p p' h3).2]
  simp only [band]
  cases eqL ee1 v v' <;> cases eqL ee1 r r' <;> first | exact ⟨rfl, rfl⟩ | exact ⟨trivial, rfl⟩ | simp
theorem P62 (xs ys : List AV) (h : xs.length ≤ 1048576) (hf : few20 xs) : q62 xs ys = true ∧ v62_0 xs ys = eqL eeW xs ys := by
  have hr : (xs.length : Int) = ys.length → runW (R62_0 ys xs xs.length) (((xs.length : Int) - 0).toNat + 1) 0 = some (ro (findF (fun i => !eeW (xs.getD i.toNat .undef) (ys.getD i.toNat .undef)) xs.length 0) (.inl ()) fun i => .inr (payW xs ys i)) := fun hl => by
    refine runW_find (fun i => i) xs.length _ _ _ (fun i h0 hn => ?_) ?_ xs.length _ 0 (Int.le_refl 0) (by omega) (by omega)
    · have hn' : i < ys.length := by omega
      obtain ⟨a1, a2⟩ := P64 (fL (xs.getD i.toNat .undef) 0) (fL (ys.getD i.toNat .undef) 0) (hf i h0 hn)
      simp only [R62_0, F62_0, q63, v63_0, a1, a2, h0, hn, hn', decide_true, Bool.and_self, cond_true, band]
      rw [wrap_in (a := i + 1) (by omega) (by omega)]
      rfl
    · simp only [R62_0, F62_0, Int.lt_irrefl, decide_false, cond_false]
  unfold q62 v62_0 eqL
  by_cases hl : (xs.length : Int) = ys.length
  · rw [decide_eq_true hl, hr hl]
    cases findF (fun i => !eeW (xs.getD i.toNat .undef) (ys.getD i.toNat .undef)) xs.length 0 <;> first | exact ⟨rfl, rfl⟩ | exact ⟨trivial, rfl⟩ | simp
  · rw [decide_eq_false hl]
    exact ⟨rfl, rfl⟩
theorem P15 (v r p ws : List AV) (s : Int) (v' r' p' ws' : List AV) (s' : Int) (h1 : v.length ≤ 1048576) (h2 : r.length ≤ 1048576) (h3 : p.length ≤ 1048576) (h4 : ws.length ≤ 1048576) (h5 : few20 ws) :
    q15 v r p ws s v' r' p' ws' s' = true ∧ v15_0 v r p ws s v' r' p' ws' s' = eqB v r p ws s v' r' p' ws' s' := by
  have hr : (ws.length : Int) = ws'.length → runW (R15_0 v r p ws s v' r' p' ws' s') (((ws.length : Int) - 0).toNat + 1) 0 = some (ro (findF (fun i => !eeW (ws.getD i.toNat .undef) (ws'.getD i.toNat .undef)) ws.length 0) (.inl ()) fun i => .inr (payW ws ws' i)) := fun hl => by
    refine runW_find (fun i => i) ws.length _ _ _ (fun i h0 hn => ?_) ?_ ws.length _ 0 (Int.le_refl 0) (by omega) (by omega)
    · have hn' : i < ws'.length := by omega
      obtain ⟨a1, a2⟩ := P59 (fL (ws.getD i.toNat .undef) 0) (fL (ws'.getD i.toNat .undef) 0) (h5 i h0 hn)
      simp only [R15_0, F15_0, a1, a2, h0, hn, hn', decide_true, Bool.and_self, cond_true, bst]
      rw [wrap_in (a := i + 1) (by omega) (by omega)]
      rfl
    · simp only [R15_0, F15_0, Int.lt_irrefl, decide_false, cond_false]
  unfold q15 v15_0 eqB
  rw [(P58 v r p v' r' p' h1 h2 h3).1, (P58 v r p v' r' p' h1 h2 h3).2]
  generalize (eqL ee1 v v' && (eqL ee1 r r' && eqL ee2 p p')) = a
  unfold eqL
  by_cases hl : (ws.length : Int) = ws'.length
  · rw [decide_eq_true hl, hr hl]
    cases a <;> cases decide (s = s') <;> cases findF (fun i => !eeW (ws.getD i.toNat .undef) (ws'.getD i.toNat .undef)) ws.length 0 <;> first | exact ⟨rfl, rfl⟩ | exact ⟨trivial, rfl⟩ | simp
  · rw [decide_eq_false hl]
    cases a <;> cases decide (s = s') <;> first | exact ⟨rfl, rfl⟩ | exact ⟨trivial, rfl⟩ | simp
theorem P17 (v r p ws : List AV) (s : Int) (v' r' p' ws' : List AV) (s' : Int) (h1 : v.length ≤ 1048576) (h2 : r.length ≤ 1048576) (h3 : p.length ≤ 1048576) (h4 : ws.length ≤ 1048576) (h5 : few20 ws) :
    q17 v r p ws s v' r' p' ws' s' = true ∧ v17_0 v r p ws s v' r' p' ws' s' = eqB v r p ws s v' r' p' ws' s' := by
  unfold q17 v17_0 eqB
  rw [(P61 v r p v' r' p' h1 h2 h3).1, (P61 v r p v' r' p' h1 h2 h3).2, (P62 ws ws' h4 h5).1, (P62 ws ws' h4 h5).2]
  simp only [band]
  generalize (eqL ee1 v v' && (eqL ee1 r r' && eqL ee2 p p')) = a
  cases a <;> cases decide (s = s') <;> first | exact ⟨rfl, rfl⟩ | exact ⟨trivial, rfl⟩ | simp
theorem raw3_true (v r p ws : List AV) (s : Int) (v' r' p' ws' : List AV) (s' : Int) (a1 : v.length ≤ 9223372036854775807) (a2 : r.length ≤ 9223372036854775807) (a3 : p.length ≤ 9223372036854775807) (a4 : ws.length ≤ 9223372036854775807) (a5 : ∀ x ∈ ws, (fL x 0).length ≤ 9223372036854775807)
    (b1 : v'.length ≤ 9223372036854775807) (b2 : r'.length ≤ 9223372036854775807) (b3 : p'.length ≤ 9223372036854775807) (b4 : ws'.length ≤ 9223372036854775807) (b5 : ∀ x ∈ ws', (fL x 0).length ≤ 9223372036854775807) : raw3 v r p ws s v' r' p' ws' s' = some (.bool true) := by
  unfold raw3
  obtain ⟨c1, c2⟩ := P14 (s := s) (a := 1048576) a1 a2 a3 a4 a5 (by omega) (by omega)
  rw [c1]
  rcases c2 with c2 | ⟨c2, c3, l1, l2, l3, l4, l5⟩
  · rw [c2]; rfl
  rw [decide_eq_false (by omega : ¬ v14_0 v r p ws s 1048576 < 0)]
  obtain ⟨d1, d2⟩ := P14 (s := s') (a := v14_0 v r p ws s 1048576) b1 b2 b3 b4 b5 c2 (by omega)
  rw [d1]
  rcases d2 with d2 | ⟨d2, d3, m1, m2, m3, m4, m5⟩
  · rw [d2]; rfl
  rw [decide_eq_false (by omega : ¬ v14_0 v' r' p' ws' s' (v14_0 v r p ws s 1048576) < 0)]
  obtain ⟨e1, e2, e3, e4, e5, e6⟩ := P16 v r p ws s l1 l2 l3 l4 l5
  obtain ⟨f1, f2, f3, f4, f5, f6⟩ := P16 v' r' p' ws' s' m1 m2 m3 m4 m5
  have n1 : (v.map cp27).length ≤ 1048576 := by rw [List.length_map]; omega
  have n2 : (r.map cp27).length ≤ 1048576 := by rw [List.length_map]; omega
  have n3 : (p.map cp89).length ≤ 1048576 := by rw [List.length_map]; omega
  have n4 : (ws.map cpW).length ≤ 1048576 := by rw [List.length_map]; omega
  have n5 := few20_cp l5
  have o1 : (v'.map cp27).length ≤ 1048576 := by rw [List.length_map]; omega
  have o2 : (r'.map cp27).length ≤ 1048576 := by rw [List.length_map]; omega
  have o3 : (p'.map cp89).length ≤ 1048576 := by rw [List.length_map]; omega
  have o4 : (ws'.map cpW).length ≤ 1048576 := by rw [List.length_map]; omega
  have o5 := few20_cp m5
  rw [e1, e2, e3, e4, e5, e6, f1, f2, f3, f4, f5, f6]
  generalize v.map cp27 = v1 at *
  generalize r.map cp27 = r1 at *
  generalize p.map cp89 = p1 at *
  generalize ws.map cpW = ws1 at *
  generalize v'.map cp27 = v2 at *
  generalize r'.map cp27 = r2 at *
  generalize p'.map cp89 = p2 at *
  generalize ws'.map cpW = ws2 at *
  obtain ⟨g1, g2⟩ := P15 v1 r1 p1 ws1 s v2 r2 p2 ws2 s' n1 n2 n3 n4 n5
  obtain ⟨h1, h2⟩ := P17 v1 r1 p1 ws1 s v2 r2 p2 ws2 s' n1 n2 n3 n4 n5
  obtain ⟨i1, i2⟩ := P18 v1 r1 p1 ws1 s v1 r1 p1 ws1 s n1 n2 n3 n4 n5
  obtain ⟨j1, j2⟩ := P18 v2 r2 p2 ws2 s' v2 r2 p2 ws2 s' o1 o2 o3 o4 o5
  rw [g1, g2, h1, h2, i1, i2, j1, j2, eqB_self, eqB_self]
  simp only [beq_self_eq_true, Bool.not_true, cond_true, cond_false]
theorem law3 {x0 x1 : AV} (t0 : TA Try.prog 28 x0) (t1 : TA Try.prog 28 x1) : m3 [x0, x1] = some (true, .bool true) := by
  obtain ⟨v, r, p, ws, s, rfl, a1, a2, a3, a4, a5⟩ := board_args t0 (by kernel_rfl) (by kernel_rfl)
  obtain ⟨v', r', p', ws', s', rfl, b1, b2, b3, b4, b5⟩ := board_args t1 (by kernel_rfl) (by kernel_rfl)
  show (raw3 v r p ws s v' r' p' ws' s').map (fun r => (true, r)) = _
  rw [raw3_true v r p ws s v' r' p' ws' s' a1 a2 a3 a4 a5 b1 b2 b3 b4 b5]
  rfl

end Go.Proofs.Ytdhhceamknidmaa
