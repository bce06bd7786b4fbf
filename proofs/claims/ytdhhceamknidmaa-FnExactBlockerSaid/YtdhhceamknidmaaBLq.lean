/- boards -/
import Derived.Test.YtdhhceamknidmaaBLm
namespace Go.Proofs.Ytdhhceamknidmaa
open Go Go.Proofs.VE
set_option linter.unusedVariables false
set_option linter.unusedSimpArgs false
/-! ### boards: sizes, copies, comparing -/
/-- Each worker's targets are few. -/
def few20 (ws : List AV) : Prop := ∀ i : Int, 0 ≤ i → i < ws.length → (fL (ws.getD i.toNat .undef) 0).length ≤ 1048576
theorem getD_in (ws : List AV) (i : Int) (h0 : 0 ≤ i) (h1 : i < ws.length) : ws.getD i.toNat .undef ∈ ws := by
  rw [List.getD_eq_getElem?_getD, List.getElem?_eq_getElem (by omega)]
  exact List.getElem_mem _
theorem P57 {ws : List AV} {a : Int} (hw : ws.length ≤ 9223372036854775807) (ht : ∀ x ∈ ws, (fL x 0).length ≤ 9223372036854775807) (h0 : 0 ≤ a) (h1 : a ≤ 1048576) :
    q57 ws a = true ∧ (v57_0 ws a = -1 ∨ (0 ≤ v57_0 ws a ∧ v57_0 ws a ≤ a ∧ ws.length ≤ 1048576 ∧ few20 ws)) := by
  unfold q57 v57_0
  rw [wrap_in (a := a - ws.length) (by omega) (by omega)]
  by_cases hl : a < ws.length
  · rw [decide_eq_true (by omega : a - (ws.length : Int) < 0)]
    exact ⟨rfl, .inl rfl⟩
  rw [decide_eq_false (by omega : ¬ a - (ws.length : Int) < 0)]
  obtain ⟨r, h2, h3⟩ := runW_ends (f := R57_0 ws) (fun s : Int × Int => 0 ≤ s.2 ∧ s.2 ≤ ws.length ∧ 0 ≤ s.1 ∧ s.1 ≤ a ∧ ∀ i : Int, 0 ≤ i → i < s.2 → (fL (ws.getD i.toNat .undef) 0).length ≤ 1048576)
    (fun r : Int ⊕ Unit => match r with | .inl p => 0 ≤ p ∧ p ≤ a ∧ few20 ws | .inr _ => True) (fun s => ((ws.length : Int) - s.2).toNat) (fun s hI => by
      obtain ⟨t, i⟩ := s
      obtain ⟨i0, i1, t0, t1, hI⟩ := hI
      simp only at i0 i1 t0 t1 hI
      by_cases hi : i < ws.length
      · have d1 : decide (i < (ws.length : Int)) = true := decide_eq_true hi
        have d2 : decide (0 ≤ i) = true := decide_eq_true i0
        have hm := ht _ (getD_in ws i i0 hi)
        have e := P79 (a0 := fL (ws.getD i.toNat .undef) 0) (a1 := t) hm t0 (by omega)
        by_cases hlt : t < (fL (ws.getD i.toNat .undef) 0).length
        · rw [if_pos hlt] at e
          refine .inr ⟨.inr (), ?_, trivial⟩
          simp only [R57_0, F57_0, d1, d2, Bool.and_self, cond_true, v105_0, e]
          rfl
        · rw [if_neg hlt] at e
          have d3 : decide (t - ((fL (ws.getD i.toNat .undef) 0).length : Int) < 0) = false := decide_eq_false (by omega)
          refine .inl ⟨(t - ((fL (ws.getD i.toNat .undef) 0).length : Int), i + 1), ?_, ⟨by simp only; omega, by simp only; omega, by simp only; omega, by simp only; omega, fun j j0 j1 => ?_⟩, by simp only; omega⟩
          · simp only [R57_0, F57_0, d1, d2, Bool.and_self, cond_true, v105_0, e, d3, cond_false]
            rw [wrap_in (a := i + 1) (by omega) (by omega)]
          · simp only at j1
            by_cases hj : j = i
            · rw [hj]; omega
            · exact hI j j0 (by omega)
      · have d1 : decide (i < (ws.length : Int)) = false := decide_eq_false hi
        refine .inr ⟨.inl t, by simp only [R57_0, F57_0, d1, cond_false], t0, t1, fun j j0 j1 => hI j j0 (by omega)⟩) (((ws.length : Int) - 0).toNat + 1) (a - ws.length, 0)
      ⟨Int.le_refl _, by simp only; omega, by simp only; omega, by simp only; omega, fun j j0 j1 => by simp only at j1; omega⟩ (by simp only; omega)
  rw [h2]
  cases r with
  | inl p =>
    obtain ⟨k1, k2, k3⟩ := h3
    exact ⟨rfl, .inr ⟨k1, k2, by omega, k3⟩⟩
  | inr _ => exact ⟨rfl, .inl rfl⟩
theorem P14 {v r p ws : List AV} {s a : Int} (hv : v.length ≤ 9223372036854775807) (hr : r.length ≤ 9223372036854775807) (hp : p.length ≤ 9223372036854775807) (hw : ws.length ≤ 9223372036854775807)
    (ht : ∀ x ∈ ws, (fL x 0).length ≤ 9223372036854775807) (h0 : 0 ≤ a) (h1 : a ≤ 1048576) :
    q14 v r p ws s a = true ∧ (v14_0 v r p ws s a = -1 ∨ (0 ≤ v14_0 v r p ws s a ∧ v14_0 v r p ws s a ≤ a ∧ v.length ≤ 1048576 ∧ r.length ≤ 1048576 ∧ p.length ≤ 1048576 ∧ ws.length ≤ 1048576 ∧ few20 ws)) := by
  unfold q14 v14_0
  have e := P36 hv hr hp h0 h1
  by_cases hl : a < (v.length : Int) + r.length + p.length
  · rw [if_pos hl] at e
    rw [e]
    exact ⟨rfl, .inl rfl⟩
  · rw [if_neg hl] at e
    rw [e, decide_eq_false (by omega : ¬ a - ((v.length : Int) + r.length + p.length) < 0)]
    obtain ⟨k1, k2⟩ := P57 (a := a - ((v.length : Int) + r.length + p.length)) hw ht (by omega) (by omega)
    rw [k1]
    refine ⟨rfl, ?_⟩
    rcases k2 with k2 | ⟨k2, k3, k4, k5⟩
    · rw [k2]; exact .inl rfl
    · rw [decide_eq_false (by omega : ¬ v57_0 ws (a - ((v.length : Int) + r.length + p.length)) < 0)]
      simp only [cond_false]
      exact .inr ⟨k2, by omega, by omega, by omega, by omega, k4, k5⟩
/-- A worker that shares no memory. -/
def cpW (x : AV) : AV := AV.agg [AV.sl [.int .i64] ((fL x 0).map cp27), AV.int .i64 (fI x 1), AV.bool (fB x 2), AV.int .i64 (fI x 3), AV.int .i64 (fI x 4), AV.int .i64 (fI x 5), AV.int .i64 (fI x 6), AV.int .i64 (fI x 7), AV.int .i64 (fI x 8)]
theorem P60 (ws : List AV) (h : ws.length ≤ 1048576) (hf : few20 ws) : q60 ws = true ∧ v60_0 ws = ws.map cpW := by
  have hr : runW (R60_0 ws) (((ws.length : Int) - 0).toNat + 1) (0, List.replicate (Int.toNat (ws.length : Int)) (AV.agg [AV.sl [.int .i64] ([] : List AV), AV.int .i64 0, AV.bool false, AV.int .i64 0, AV.int .i64 0, AV.int .i64 0, AV.int .i64 0, AV.int .i64 0, AV.int .i64 0])) = some (ws.map cpW) := by
    refine runW_copy (c := cpW) ws (fun i ys h0 hn hl => ?_) (fun ys => ?_)
    · have hl' : i < ys.length := by omega
      obtain ⟨a1, a2⟩ := P27 _ (hf i h0 hn)
      simp only [R60_0, F60_0, q107, v107_0, v107_1, v107_2, v107_3, v107_4, v107_5, v107_6, v107_7, v107_8, a1, a2, h0, hn, hl', decide_true, Bool.and_self, cond_true]
      rw [wrap_in (a := i + 1) (by omega) (by omega)]
      rfl
    · simp only [R60_0, F60_0, Int.lt_irrefl, decide_false, cond_false]
  unfold q60 v60_0
  rw [hr]
  refine ⟨?_, rfl⟩
  simp only [ro, Bool.and_true, Bool.and_eq_true, decide_eq_true_eq]
  omega
theorem few20_cp {ws : List AV} (h : few20 ws) : few20 (ws.map cpW) := fun i h0 h1 => by
  rw [List.length_map] at h1
  have e : (ws.map cpW).getD i.toNat .undef = cpW (ws.getD i.toNat .undef) := by
    simp only [List.getD_eq_getElem?_getD, List.getElem?_map, List.getElem?_eq_getElem (show i.toNat < ws.length by omega), Option.map_some, Option.getD_some]
  rw [e]
  show ((fL (ws.getD i.toNat .undef) 0).map cp27).length ≤ _
  rw [List.length_map]
  exact h i h0 h1
theorem P16 (v r p ws : List AV) (s : Int) (h1 : v.length ≤ 1048576) (h2 : r.length ≤ 1048576) (h3 : p.length ≤ 1048576) (h4 : ws.length ≤ 1048576) (h5 : few20 ws) :
    q16 v r p ws s = true ∧ v16_0 v r p ws s = v.map cp27 ∧ v16_1 v r p ws s = r.map cp27 ∧ v16_2 v r p ws s = p.map cp89 ∧ v16_3 v r p ws s = ws.map cpW ∧ v16_4 v r p ws s = s := by
  unfold q16 v16_0 v16_1 v16_2 v16_3 v16_4 q38 v38_0 v38_1 v38_2
  rw [(P27 v h1).1, (P27 r h2).1, (P89 p h3).1, (P60 ws h4 h5).1, (P27 v h1).2, (P27 r h2).2, (P89 p h3).2, (P60 ws h4 h5).2]
  exact ⟨rfl, rfl, rfl, rfl, rfl, rfl⟩
theorem bst {α : Type} (a b : Bool) (s n : α) : (bif !a then s else bif !b then s else n) = bif !(a && b) then s else n := by cases a <;> rfl
theorem band (a b : Bool) : (bif a then b else false) = (a && b) := by cases a <;> rfl
theorem bnf (a b : Bool) : (bif !a then false else b) = (a && b) := by cases a <;> rfl
theorem bt (a : Bool) : (bif a then true else true) = true := by cases a <;> rfl
/-- Two workers are alike. -/
def eeW (x y : AV) : Bool := eqL ee1 (fL x 0) (fL y 0) && (decide (fI x 1 = fI y 1) && ((fB x 2 == fB y 2) && (decide (fI x 3 = fI y 3) && (decide (fI x 4 = fI y 4) && (decide (fI x 5 = fI y 5) && (decide (fI x 6 = fI y 6) && (decide (fI x 7 = fI y 7) && decide (fI x 8 = fI y 8))))))))
theorem eeW_self (x : AV) : eeW x x = true := by
  unfold eeW
  rw [eqL_self ee1_self]
  simp
theorem P65 (xs ys : List AV) (h : xs.length ≤ 1048576) (hf : few20 xs) : q65 xs ys = true ∧ v65_0 xs ys = eqL eeW xs ys := by
  have hr : (xs.length : Int) = ys.length → runW (R65_0 xs ys) (((xs.length : Int) - 0).toNat + 1) 0 = some (ro (findF (fun i => !eeW (xs.getD i.toNat .undef) (ys.getD i.toNat .undef)) xs.length 0) (.inl ()) fun _ => .inr ()) := fun hl => by
    refine runW_find (fun i => i) xs.length _ _ _ (fun i h0 hn => ?_) ?_ xs.length _ 0 (Int.le_refl 0) (by omega) (by omega)
    · have hn' : i < ys.length := by omega
      obtain ⟨a1, a2⟩ := P30 (fL (xs.getD i.toNat .undef) 0) (fL (ys.getD i.toNat .undef) 0) (hf i h0 hn)
      simp only [R65_0, F65_0, q109, v109_0, a1, a2, h0, hn, hn', decide_true, Bool.and_self, cond_true, bnf, Bool.and_true]
      rw [wrap_in (a := i + 1) (by omega) (by omega)]
      rfl
    · simp only [R65_0, F65_0, Int.lt_irrefl, decide_false, cond_false]
  unfold q65 v65_0 eqL
  by_cases hl : (xs.length : Int) = ys.length
  · rw [decide_eq_true hl, hr hl]
    cases findF (fun i => !eeW (xs.getD i.toNat .undef) (ys.getD i.toNat .undef)) xs.length 0 <;> first | exact ⟨rfl, rfl⟩ | exact ⟨trivial, rfl⟩ | simp
  · rw [decide_eq_false hl]
    exact ⟨rfl, rfl⟩
theorem P40b (v r p v' r' p' : List AV) (h1 : v.length ≤ 1048576) (h2 : r.length ≤ 1048576) (h3 : p.length ≤ 1048576) : q40 v r p v' r' p' = true ∧ v40_0 v r p v' r' p' = (eqL ee1 v v' && (eqL ee1 r r' && eqL ee2 p p')) := by
  unfold q40 v40_0
  rw [(P30 v v' h1).1, (P30 v v' h1).2, (P30 r r' h2).1, (P30 r r' h2).2, (P90 p p' h3).1, (P90 p p' h3).2]
  simp only [bnf, Bool.and_true]
  cases eqL ee1 v v' <;> cases eqL ee1 r r' <;> first | exact ⟨rfl, rfl⟩ | exact ⟨trivial, rfl⟩ | simp
/-- Two boards are alike. -/
def eqB (v r p ws : List AV) (s : Int) (v' r' p' ws' : List AV) (s' : Int) : Bool := (eqL ee1 v v' && (eqL ee1 r r' && eqL ee2 p p')) && (decide (s = s') && eqL eeW ws ws')
theorem eqB_self (v r p ws : List AV) (s : Int) : eqB v r p ws s v r p ws s = true := by
  unfold eqB
  rw [eqL_self ee1_self, eqL_self ee1_self, eqL_self ee2_self, eqL_self eeW_self]
  simp
theorem P18 (v r p ws : List AV) (s : Int) (v' r' p' ws' : List AV) (s' : Int) (h1 : v.length ≤ 1048576) (h2 : r.length ≤ 1048576) (h3 : p.length ≤ 1048576) (h4 : ws.length ≤ 1048576) (h5 : few20 ws) :
    q18 v r p ws s v' r' p' ws' s' = true ∧ v18_0 v r p ws s v' r' p' ws' s' = eqB v r p ws s v' r' p' ws' s' := by
  unfold q18 v18_0 eqB
  rw [(P40b v r p v' r' p' h1 h2 h3).1, (P40b v r p v' r' p' h1 h2 h3).2, (P65 ws ws' h4 h5).1, (P65 ws ws' h4 h5).2]
  simp only [bnf, Bool.and_true]
  generalize (eqL ee1 v v' && (eqL ee1 r r' && eqL ee2 p p')) = a
  cases a <;> cases eqL eeW ws ws' <;> cases decide (s = s') <;> first | exact ⟨rfl, rfl⟩ | exact ⟨trivial, rfl⟩ | simp
theorem board_args {t : Nat} {x : AV} (h : TA Try.prog t x) (ha : aggT Try.prog t = some true) (hc : ctsT Try.prog 7 t = [.sl [.int .i64], .sl [.int .i64], .sl [.int .i64, .int .i64], .sl [.sl [.int .i64], .int .i64, .bool, .int .i64, .int .i64, .int .i64, .int .i64, .int .i64, .int .i64], .int .i64]) :
    ∃ v r p ws s, x = .agg [.sl [.int .i64] v, .sl [.int .i64] r, .sl [.int .i64, .int .i64] p, .sl [.sl [.int .i64], .int .i64, .bool, .int .i64, .int .i64, .int .i64, .int .i64, .int .i64, .int .i64] ws, .int .i64 s] ∧
      v.length ≤ 9223372036854775807 ∧ r.length ≤ 9223372036854775807 ∧ p.length ≤ 9223372036854775807 ∧ ws.length ≤ 9223372036854775807 ∧ ∀ x ∈ ws, (fL x 0).length ≤ 9223372036854775807 := by
  obtain ⟨cs, rfl, h1⟩ := ta_agg h ha hc
  obtain ⟨x2, _, rfl, g2, h4⟩ := tws_cons h1
  obtain ⟨x3, _, rfl, g3, h5⟩ := tws_cons h4
  obtain ⟨x4, _, rfl, g4, h6⟩ := tws_cons h5
  obtain ⟨x5, _, rfl, g5, h7⟩ := tws_cons h6
  obtain ⟨x6, _, rfl, g6, h8⟩ := tws_cons h7
  obtain rfl := tws_nil h8
  obtain ⟨v, rfl, l2, _⟩ := tw_sl g2
  obtain ⟨r, rfl, l3, _⟩ := tw_sl g3
  obtain ⟨p, rfl, l4, _⟩ := tw_sl g4
  obtain ⟨ws, rfl, l5, hw⟩ := tw_sl g5
  obtain ⟨s, rfl, _⟩ := tw_int g6
  refine ⟨v, r, p, ws, s, rfl, l2, l3, l4, l5, fun x hx => ?_⟩
  obtain ⟨y, ys, hy, k1, _⟩ := tws_cons (hw x hx)
  obtain ⟨z, rfl, k2, _⟩ := tw_sl k1
  have : fL x 0 = z := by unfold fL; rw [hy]; rfl
  rw [this]
  exact k2

end Go.Proofs.Ytdhhceamknidmaa
