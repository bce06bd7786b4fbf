/- heat -/
import Derived.Test.YtepfklcdpkpepaaHRs
namespace Go.Proofs.Ytepfklcdpkpepaa
open Go Go.Proofs.VE
set_option linter.unusedVariables false
set_option linter.unusedSimpArgs false
/-! ### heat -/
theorem same86 (rs : List AV) (v : Int) (h : rs.length ≤ 1048576) : q86 rs v = true ∧ q138 rs v = true ∧ v138_0 rs v = v86_0 rs v ∧ (v86_0 rs v).length ≤ 1048576 := by
  obtain ⟨b1, b2⟩ := P86 rs v h
  obtain ⟨c1, c2⟩ := P138 rs v h
  refine ⟨b1, c1, c2.trans b2.symm, ?_⟩
  rw [b2]
  cases v135_0 rs
  · simp
  · exact Nat.le_trans (appF_len _ _ _) (by simpa using h)
/-- How many queries a value meets. -/
def hN (rs : List AV) (v : Int) : Int := ((v86_0 rs v).length : Int)
def dH (xs rs : List AV) (i : Int) : AV := .int .i64 ((v86_0 rs (fI (xs.getD i.toNat .undef) 0)).length : Int)
theorem room8 (X : List AV) (a : AV) (h : X.length ≤ 1048577) : (decide ((X.length + [a].length) * 8 ≤ 140737488355328) && decide (X.length + [a].length ≤ 140737488355328)) = true := by
  simp only [List.length_singleton, Bool.and_eq_true, decide_eq_true_eq]
  omega
theorem run87 (xs rs : List AV) (h : xs.length ≤ 1048576) (h' : rs.length ≤ 1048576) : runW (R87_0 rs xs xs.length) (((xs.length : Int) - 0).toNat + 1) (0, []) = some (appF allT (dH xs rs) xs.length 0 []) := by
  refine runW_appK (fun i ys => (i, ys)) (fun ys => ys) xs.length allT (dH xs rs) (fun i ys h0 hn hl => ?_) (fun ys => ?_)
  · have d1 : decide (i < (xs.length : Int)) = true := decide_eq_true hn
    have d2 : decide (0 ≤ i) = true := decide_eq_true h0
    simp only [R87_0, F87_0, d1, d2, (same86 rs _ h').2.1, (same86 rs _ h').2.2.1, room8 ys _ (by omega), Bool.and_self, cond_true, allT]
    rw [wrap_in (a := i + 1) (by omega) (by omega)]
    rfl
  · simp only [R87_0, F87_0, Int.lt_irrefl, decide_false, cond_false]
theorem appF_all (c : Int → AV) : ∀ (m : Nat) (i : Int) (ys : List AV), appF allT c m i ys = ys ++ (List.range m).map fun j : Nat => c (i + j)
  | 0, i, ys => by simp [appF, foldF]
  | m + 1, i, ys => by
    have e : appF allT c (m + 1) i ys = appF allT c m (i + 1) (ys ++ [c i]) := rfl
    rw [e, appF_all c m, List.range_succ_eq_map, List.map_cons, List.map_map, List.append_assoc]
    congr 1
    simp only [Int.natCast_zero, Int.add_zero, List.singleton_append, List.cons.injEq, true_and]
    refine List.map_congr_left fun j _ => ?_
    simp only [Function.comp]
    congr 1
    omega
def heat (xs rs : List AV) : List AV := appF allT (dH xs rs) xs.length 0 []
theorem heat_len (xs rs : List AV) : (heat xs rs).length = xs.length := by unfold heat; rw [appF_all]; simp
theorem heat_el (xs rs : List AV) (k : Int) (h0 : 0 ≤ k) (h1 : k < xs.length) : el (heat xs rs) k = hN rs (el xs k) := by
  unfold el heat
  rw [appF_all, List.nil_append, List.getD_eq_getElem?_getD, List.getElem?_map, List.getElem?_range (by omega)]
  simp only [Option.map_some, Option.getD_some]
  unfold dH
  show ((v86_0 rs (fI (xs.getD (0 + (k.toNat : Int)).toNat .undef) 0)).length : Int) = _
  rw [show (0 + (k.toNat : Int)).toNat = k.toNat by omega]
  rfl
theorem P87 (xs rs : List AV) (h : xs.length ≤ 1048576) (h' : rs.length ≤ 1048576) : q87 xs rs = true ∧ v87_0 xs rs = bif v103_0 xs && v135_0 rs then heat xs rs else [] := by
  unfold q87 v87_0
  rw [(P105 xs h).1, (P105 xs h).2, (P137 rs h').1, (P137 rs h').2, run87 xs rs h h']
  unfold heat
  cases v103_0 xs <;> cases v135_0 rs <;> exact ⟨rfl, rfl⟩
theorem P85 (xs rs : List AV) (h : xs.length ≤ 1048576) (h' : rs.length ≤ 1048576) : q85 xs rs = true ∧ v85_0 xs rs = (v103_0 xs && v135_0 rs) := by
  unfold q85 v85_0
  rw [(P103 xs h).1, (P135 rs h').1]
  cases v103_0 xs <;> simp
/-- The greatest of some numbers. -/
theorem P88 (xs : List AV) (h : xs.length ≤ 1048576) (hn : 0 < xs.length) : q88 xs = true ∧ (∀ k : Int, 0 ≤ k → k < xs.length → el xs k ≤ v88_0 xs) ∧ ∃ k : Int, 0 ≤ k ∧ k < xs.length ∧ el xs k = v88_0 xs := by
  obtain ⟨r, h1, h2, h3⟩ := runW_ends (f := R88_0 xs) (fun s : Int × Int => 1 ≤ s.2 ∧ s.2 ≤ xs.length ∧ (∀ k : Int, 0 ≤ k → k < s.2 → el xs k ≤ s.1) ∧ ∃ k : Int, 0 ≤ k ∧ k < xs.length ∧ el xs k = s.1) (fun r => (∀ k : Int, 0 ≤ k → k < xs.length → el xs k ≤ r) ∧ ∃ k : Int, 0 ≤ k ∧ k < xs.length ∧ el xs k = r) (fun s => ((xs.length : Int) - s.2).toNat) (fun s hI => by
      obtain ⟨m, i⟩ := s
      obtain ⟨i0, i1, hm, he⟩ := hI
      simp only at i0 i1 hm he
      by_cases hi : i < xs.length
      · have d1 : decide (i < (xs.length : Int)) = true := decide_eq_true hi
        have d2 : decide (0 ≤ i) = true := decide_eq_true (by omega)
        have wi : IntKind.i64.wrap (i + 1) = i + 1 := wrap_in (by omega) (by omega)
        have f1 : fI (xs.getD i.toNat AV.undef) 0 = el xs i := rfl
        refine .inl ⟨(if el xs i > m then el xs i else m, i + 1), by simp only [R88_0, F88_0, d1, d2, f1, wi, Bool.and_self, cond_true], ⟨by simp only; omega, by simp only; omega, fun k k0 k1 => ?_, ?_⟩, by simp only; omega⟩
        · simp only at k1 ⊢
          by_cases e : k = i
          · subst e; split <;> omega
          · have := hm k k0 (by omega)
            split <;> omega
        · simp only
          split
          · exact ⟨i, by omega, hi, rfl⟩
          · exact he
      · have d1 : decide (i < (xs.length : Int)) = false := decide_eq_false hi
        exact .inr ⟨m, by simp only [R88_0, F88_0, d1, cond_false], fun k k0 k1 => hm k k0 (by omega), he⟩) (((xs.length : Int) - 1).toNat + 1) (el xs 0, 1) ⟨Int.le_refl _, by simp only; omega, fun k k0 k1 => by simp only at k1 ⊢; rw [show k = 0 by omega]; exact Int.le_refl _, 0, Int.le_refl _, by omega, rfl⟩ (by simp only; omega)
  have e0 : fI (xs.getD (0 : Int).toNat AV.undef) 0 = el xs 0 := rfl
  unfold q88 v88_0
  rw [e0, h1, decide_eq_false (show ¬ (xs.length : Int) < 1 by omega), decide_eq_true (show (0 : Int) < xs.length by omega)]
  exact ⟨rfl, h2, h3⟩
theorem P90 (xs : List AV) (v : Int) (h : xs.length ≤ 1048576) (hv : ∃ j : Int, 0 ≤ j ∧ j < xs.length ∧ el xs j = v) : q90 xs v = true ∧ 0 ≤ v90_0 xs v ∧ v90_0 xs v < xs.length ∧ el xs (v90_0 xs v) = v := by
  have hr : runW (R90_0 xs v xs.length) (((xs.length : Int) - 0).toNat + 1) 0 = some (ro (findF (fun i => decide (v = fI (xs.getD i.toNat .undef) 0)) xs.length 0) (.inl ()) fun i => .inr i) := by
    refine runW_find (fun i => i) xs.length _ _ _ (fun i h0 hn => ?_) ?_ xs.length _ 0 (Int.le_refl 0) (by omega) (by omega)
    · simp only [R90_0, F90_0, h0, hn, decide_true, Bool.and_self, cond_true]
      rw [wrap_in (a := i + 1) (by omega) (by omega)]
    · simp only [R90_0, F90_0, Int.lt_irrefl, decide_false, cond_false]
  unfold q90 v90_0
  rw [hr]
  cases hf : findF (fun i => decide (v = fI (xs.getD i.toNat .undef) 0)) xs.length 0 with
  | none =>
    exfalso
    obtain ⟨j, j0, j1, e⟩ := hv
    have : (findF (fun i => decide (v = fI (xs.getD i.toNat .undef) 0)) xs.length 0).isNone = true := by rw [hf]; rfl
    have := (findF_isNone _ _).1 this j j0 (by omega)
    exact of_decide_eq_false this e.symm
  | some j =>
    obtain ⟨a, b, c⟩ := findF_some _ _ hf
    exact ⟨rfl, a, by simp only [ro, sumE]; omega, (of_decide_eq_true c).symm⟩
/-! ### the hottest range -/
theorem run29 (ls rs : List AV) (h : ls.length ≤ 1048576) (h' : rs.length ≤ 1048576) (hn : 0 < ls.length) (x y : Int) : ∃ r : Int × Int, runW (R29_0 rs x y ls) (((ls.length : Int) - 0).toNat + 1) (0, -1, 0) = some r ∧
    (0 ≤ r.1 ∧ r.1 < ls.length ∧ r.2 = hN rs (el ls r.1)) ∧ (∀ k : Int, 0 ≤ k → k < ls.length → hN rs (el ls k) ≤ r.2) ∧ ∀ k : Int, 0 ≤ k → k < r.1 → hN rs (el ls k) < r.2 := by
  refine runW_ends (f := R29_0 rs x y ls) (fun s : Int × Int × Int => 0 ≤ s.2.2 ∧ s.2.2 ≤ ls.length ∧ ((s.2.2 = 0 ∧ s.1 = 0 ∧ s.2.1 = -1) ∨ (0 ≤ s.1 ∧ s.1 < s.2.2 ∧ s.2.1 = hN rs (el ls s.1))) ∧ (∀ k : Int, 0 ≤ k → k < s.2.2 → hN rs (el ls k) ≤ s.2.1) ∧ ∀ k : Int, 0 ≤ k → k < s.1 → hN rs (el ls k) < s.2.1) _ (fun s => ((ls.length : Int) - s.2.2).toNat) (fun s hI => ?_) _ (0, -1, 0)
    ⟨Int.le_refl _, by simp, .inl ⟨rfl, rfl, rfl⟩, fun k k0 k1 => by simp only at k1; omega, fun k k0 k1 => by simp only at k1; omega⟩ (by simp)
  obtain ⟨f, m, i⟩ := s
  obtain ⟨i0, i1, hf, hm, hl⟩ := hI
  simp only at i0 i1 hf hm hl
  by_cases hi : i < ls.length
  · have d1 : decide (i < (ls.length : Int)) = true := decide_eq_true hi
    have d2 : decide (0 ≤ i) = true := decide_eq_true i0
    have wi : IntKind.i64.wrap (i + 1) = i + 1 := wrap_in (by omega) (by omega)
    have f1 : fI (ls.getD i.toNat AV.undef) 0 = el ls i := rfl
    have f2 : ((v86_0 rs (el ls i)).length : Int) = hN rs (el ls i) := rfl
    by_cases hg : hN rs (el ls i) > m
    · have d3 : decide (hN rs (el ls i) > m) = true := decide_eq_true hg
      refine .inl ⟨(i, hN rs (el ls i), i + 1), by simp only [R29_0, F29_0, d1, d2, f1, f2, d3, wi, (same86 rs _ h').1, Bool.and_self, cond_true], ⟨by simp only; omega, by simp only; omega, .inr ⟨i0, by simp only; omega, rfl⟩, fun k k0 k1 => ?_, fun k k0 k1 => ?_⟩, by simp only; omega⟩
      · simp only at k1 ⊢
        by_cases e : k = i
        · rw [e]; exact Int.le_refl _
        · have := hm k k0 (by omega); omega
      · simp only at k1 ⊢
        have := hm k k0 (by omega)
        omega
    · have d3 : decide (hN rs (el ls i) > m) = false := decide_eq_false hg
      refine .inl ⟨(f, m, i + 1), by simp only [R29_0, F29_0, d1, d2, f1, f2, d3, wi, (same86 rs _ h').1, Bool.and_self, cond_true, cond_false], ⟨by simp only; omega, by simp only; omega, ?_, fun k k0 k1 => ?_, hl⟩, by simp only; omega⟩
      · rcases hf with ⟨e1, e2, e3⟩ | ⟨e1, e2, e3⟩
        · exfalso
          have : (0 : Int) ≤ hN rs (el ls i) := by unfold hN; omega
          omega
        · exact .inr ⟨e1, by simp only; omega, e3⟩
      · simp only at k1 ⊢
        by_cases e : k = i
        · rw [e]; omega
        · exact hm k k0 (by omega)
  · have d1 : decide (i < (ls.length : Int)) = false := decide_eq_false hi
    refine .inr ⟨(f, m), by simp only [R29_0, F29_0, d1, cond_false], ?_, fun k k0 k1 => hm k k0 (by omega), hl⟩
    rcases hf with ⟨e1, e2, e3⟩ | ⟨e1, e2, e3⟩
    · omega
    · exact ⟨e1, by simp only; omega, e3⟩
theorem run29l (ls rs : List AV) (h : ls.length ≤ 1048576) (h' : rs.length ≤ 1048576) (f m x y : Int) (f0 : 0 ≤ f) (f1 : f < ls.length) (hm : m = hN rs (el ls f)) : ∃ r : (Int × List AV) ⊕ Int, runW (R29_2 rs f m x y ls) (((ls.length : Int) - (f + 1)).toNat + 1) f = some r ∧
    ∃ l : Int, (f ≤ l ∧ l < ls.length) ∧ (∀ k : Int, f ≤ k → k ≤ l → hN rs (el ls k) = m) ∧ (l + 1 < ls.length → hN rs (el ls (l + 1)) ≠ m) ∧ ((∃ z, r = .inl (l, z)) ∨ r = .inr l) := by
  refine runW_ends (f := R29_2 rs f m x y ls) (fun s : Int => f ≤ s ∧ s < ls.length ∧ ∀ k : Int, f ≤ k → k ≤ s → hN rs (el ls k) = m) _ (fun s => ((ls.length : Int) - (s + 1)).toNat) (fun i hI => ?_) _ f ⟨Int.le_refl _, f1, fun k k0 k1 => by rw [show k = f by omega]; exact hm.symm⟩ (by omega)
  obtain ⟨i0, i1, hk⟩ := hI
  have wi : IntKind.i64.wrap (i + 1) = i + 1 := wrap_in (by omega) (by omega)
  by_cases hi : i + 1 < ls.length
  · have d1 : decide (i + 1 < (ls.length : Int)) = true := decide_eq_true hi
    have d2 : decide (0 ≤ i + 1) = true := decide_eq_true (by omega)
    have g1 : fI (ls.getD (i + 1).toNat AV.undef) 0 = el ls (i + 1) := rfl
    have g2 : ((v86_0 rs (el ls (i + 1))).length : Int) = hN rs (el ls (i + 1)) := rfl
    by_cases hg : hN rs (el ls (i + 1)) = m
    · have d3 : decide (hN rs (el ls (i + 1)) = m) = true := decide_eq_true hg
      refine .inl ⟨i + 1, by simp only [R29_2, F29_2, wi, d1, d2, g1, g2, d3, (same86 rs _ h').1, Bool.and_self, cond_true], ⟨by omega, by omega, fun k k0 k1 => ?_⟩, by omega⟩
      by_cases e : k = i + 1
      · rw [e]; exact hg
      · exact hk k k0 (by omega)
    · have d3 : decide (hN rs (el ls (i + 1)) = m) = false := decide_eq_false hg
      exact .inr ⟨_, by simp only [R29_2, F29_2, wi, d1, d2, g1, g2, d3, (same86 rs _ h').1, Bool.and_self, cond_true, cond_false] <;> rfl, i, ⟨i0, i1⟩, hk, fun _ => hg, .inl ⟨_, rfl⟩⟩
  · have d1 : decide (i + 1 < (ls.length : Int)) = false := decide_eq_false hi
    exact .inr ⟨_, by simp only [R29_2, F29_2, wi, d1, cond_false] <;> rfl, i, ⟨i0, i1⟩, hk, fun e => absurd e hi, .inr rfl⟩
theorem run32 (xs rs : List AV) (h : xs.length ≤ 1048576) (hv : ∀ k : Int, 0 ≤ k → k < xs.length → el xs k ≤ 999) (hot x y : Int) (he : ∃ k : Int, 0 ≤ k ∧ k < xs.length ∧ hN rs (el xs k) = hot) : ∃ low : Int, runW (R32_0 xs hot xs xs.length x y (heat xs rs)) (((xs.length : Int) - 0).toNat + 1) (1000, 0) = some low ∧
    (∀ k : Int, 0 ≤ k → k < xs.length → hN rs (el xs k) = hot → low ≤ el xs k) ∧ ∃ k : Int, 0 ≤ k ∧ k < xs.length ∧ hN rs (el xs k) = hot ∧ el xs k = low := by
  have hl := heat_len xs rs
  obtain ⟨r, h1, h2, h3⟩ := runW_ends (f := R32_0 xs hot xs xs.length x y (heat xs rs)) (fun s : Int × Int => 0 ≤ s.2 ∧ s.2 ≤ xs.length ∧ (∀ k : Int, 0 ≤ k → k < s.2 → hN rs (el xs k) = hot → s.1 ≤ el xs k) ∧ (s.1 = 1000 ∨ ∃ k : Int, 0 ≤ k ∧ k < xs.length ∧ hN rs (el xs k) = hot ∧ el xs k = s.1)) (fun r => (∀ k : Int, 0 ≤ k → k < xs.length → hN rs (el xs k) = hot → r ≤ el xs k) ∧ (r = 1000 ∨ ∃ k : Int, 0 ≤ k ∧ k < xs.length ∧ hN rs (el xs k) = hot ∧ el xs k = r)) (fun s => ((xs.length : Int) - s.2).toNat) (fun s hI => by
      obtain ⟨m, i⟩ := s
      obtain ⟨i0, i1, hm, hx⟩ := hI
      simp only at i0 i1 hm hx
      by_cases hi : i < xs.length
      · have d1 : decide (i < (xs.length : Int)) = true := decide_eq_true hi
        have d2 : decide (0 ≤ i) = true := decide_eq_true i0
        have d3 : decide (i < ((heat xs rs).length : Int)) = true := decide_eq_true (by omega)
        have wi : IntKind.i64.wrap (i + 1) = i + 1 := wrap_in (by omega) (by omega)
        have g1 : fI (xs.getD i.toNat AV.undef) 0 = el xs i := rfl
        have g2 : fI ((heat xs rs).getD i.toNat AV.undef) 0 = hN rs (el xs i) := heat_el xs rs i i0 hi
        by_cases hg : hN rs (el xs i) = hot
        · have d4 : decide (hN rs (el xs i) = hot) = true := decide_eq_true hg
          refine .inl ⟨(if el xs i < m then el xs i else m, i + 1), by simp only [R32_0, F32_0, d1, d2, d3, g1, g2, d4, wi, Bool.and_self, cond_true], ⟨by simp only; omega, by simp only; omega, fun k k0 k1 e => ?_, ?_⟩, by simp only; omega⟩
          · simp only at k1 ⊢
            by_cases e' : k = i
            · subst e'; split <;> omega
            · have := hm k k0 (by omega) e
              split <;> omega
          · simp only
            split
            · exact .inr ⟨i, i0, hi, hg, rfl⟩
            · exact hx
        · have d4 : decide (hN rs (el xs i) = hot) = false := decide_eq_false hg
          refine .inl ⟨(m, i + 1), by simp only [R32_0, F32_0, d1, d2, d3, g1, g2, d4, wi, Bool.and_self, cond_true, cond_false], ⟨by simp only; omega, by simp only; omega, fun k k0 k1 e => ?_, hx⟩, by simp only; omega⟩
          simp only at k1 ⊢
          exact hm k k0 (by by_cases e' : k = i; · subst e'; exact absurd e hg
                            · omega) e
      · have d1 : decide (i < (xs.length : Int)) = false := decide_eq_false hi
        exact .inr ⟨m, by simp only [R32_0, F32_0, d1, cond_false], fun k k0 k1 => hm k k0 (by omega), hx⟩) (((xs.length : Int) - 0).toNat + 1) (1000, 0) ⟨Int.le_refl _, by simp, fun k k0 k1 => by simp only at k1; omega, .inl rfl⟩ (by simp)
  refine ⟨r, h1, h2, ?_⟩
  rcases h3 with h3 | h3
  · exfalso
    obtain ⟨k, k0, k1, k2⟩ := he
    have := h2 k k0 k1 k2
    have := hv k k0 k1
    omega
  · exact h3
theorem run32l (xs rs ls : List AV) (h : xs.length ≤ 1048576) (h' : rs.length ≤ 1048576) (hs : ints ls = srt xs) (hll : ls.length = xs.length) (hot x y f l : Int) (f0 : 0 ≤ f) (fl : f ≤ l) (l1 : l < ls.length) (hb : ∀ k : Int, 0 ≤ k → k < f → el ls k < el ls f) (hk : ∀ k : Int, f ≤ k → k ≤ l → hN rs (el ls k) = hot) (he : l + 1 < ls.length → hN rs (el ls (l + 1)) ≠ hot) :
    runW (R32_2 xs hot (el ls f) ls.length x y (heat xs rs) ls) (((ls.length : Int) - 0).toNat + 1) (el ls f, 0) = some (el ls l) := by
  have ha := asc_of hs
  have hin := (srt_in hs).1
  have hhl := heat_len xs rs
  obtain ⟨r, h1, h2⟩ := runW_ends (f := R32_2 xs hot (el ls f) ls.length x y (heat xs rs) ls) (fun s : Int × Int => 0 ≤ s.2 ∧ s.2 ≤ l + 1 ∧ s.1 = if s.2 ≤ f then el ls f else el ls (s.2 - 1)) (fun r => r = el ls l) (fun s => ((ls.length : Int) - s.2).toNat) (fun s hI => by
      obtain ⟨hi_, i⟩ := s
      obtain ⟨i0, i1, e⟩ := hI
      simp only at i0 i1 e
      by_cases hi : i < ls.length
      · have d1 : decide (i < (ls.length : Int)) = true := decide_eq_true hi
        have d2 : decide (0 ≤ i) = true := decide_eq_true i0
        have wi : IntKind.i64.wrap (i + 1) = i + 1 := wrap_in (by omega) (by omega)
        have g1 : fI (ls.getD i.toNat AV.undef) 0 = el ls i := rfl
        by_cases hf : i < f
        · have d3 : decide (el ls i < el ls f) = true := decide_eq_true (hb i i0 hf)
          refine .inl ⟨(hi_, i + 1), by simp only [R32_2, F32_2, d1, d2, g1, d3, wi, Bool.and_self, cond_true], ⟨by simp only; omega, by simp only; omega, ?_⟩, by simp only; omega⟩
          simp only
          rw [e, if_pos (by omega), if_pos (by omega)]
        · have hge : el ls f ≤ el ls i := by
            by_cases e1 : i = f
            · rw [e1]; exact Int.le_refl _
            · exact ha f i f0 (by omega) hi
          have d3 : decide (el ls i < el ls f) = false := decide_eq_false (by omega)
          obtain ⟨p1, p2, p3, p4⟩ := P90 xs (el ls i) h (hin i i0 hi)
          have d4 : decide (0 ≤ v90_0 xs (el ls i)) = true := decide_eq_true p2
          have d5 : decide (v90_0 xs (el ls i) < ((heat xs rs).length : Int)) = true := decide_eq_true (by omega)
          have g2 : fI ((heat xs rs).getD (v90_0 xs (el ls i)).toNat AV.undef) 0 = hN rs (el ls i) := by
            have := heat_el xs rs (v90_0 xs (el ls i)) p2 p3
            rw [p4] at this
            exact this
          by_cases hil : i ≤ l
          · have d6 : decide (hN rs (el ls i) = hot) = true := decide_eq_true (hk i (by omega) hil)
            refine .inl ⟨(el ls i, i + 1), by simp only [R32_2, F32_2, d1, d2, g1, d3, p1, d4, d5, g2, d6, wi, Bool.and_self, Bool.not_true, cond_true, cond_false], ⟨by simp only; omega, by simp only; omega, ?_⟩, by simp only; omega⟩
            simp only
            rw [if_neg (by omega), show i + 1 - 1 = i by omega]
          · have d6 : decide (hN rs (el ls i) = hot) = false := decide_eq_false (by rw [show i = l + 1 by omega]; exact he (by omega))
            refine .inr ⟨hi_, by simp only [R32_2, F32_2, d1, d2, g1, d3, p1, d4, d5, g2, d6, Bool.and_self, Bool.not_false, cond_true, cond_false], ?_⟩
            rw [e, if_neg (by omega), show i - 1 = l by omega]
      · have d1 : decide (i < (ls.length : Int)) = false := decide_eq_false hi
        refine .inr ⟨hi_, by simp only [R32_2, F32_2, d1, cond_false], ?_⟩
        rw [e, if_neg (by omega), show i - 1 = l by omega]) (((ls.length : Int) - 0).toNat + 1) (el ls f, 0) ⟨Int.le_refl _, by simp only; omega, by simp only; rw [if_pos f0]⟩ (by simp)
  rw [h1, h2]
/-- HottestRange, both. -/
theorem same29 (xs rs : List AV) (h : xs.length ≤ 1048576) (h' : rs.length ≤ 1048576) :
    q29 xs rs = true ∧ q32 xs rs = true ∧ v32_0 xs rs = v29_0 xs rs ∧ v32_1 xs rs = v29_1 xs rs ∧ v32_2 xs rs = v29_2 xs rs := by
  obtain ⟨a1, a2, a3⟩ := P84 xs h
  obtain ⟨b1, b2, b3⟩ := P89 xs h
  obtain ⟨c1, c2⟩ := P87 xs rs h h'
  obtain ⟨d1, d2⟩ := P85 xs rs h h'
  unfold q29 q32 v29_0 v29_1 v29_2 v32_0 v32_1 v32_2
  rw [a1, b1, c1, c2, d1, d2]
  have hv103 := (P103 xs h).2
  cases hv : v103_0 xs with
  | false =>
    simp only [Bool.false_and, Bool.not_false, cond_true, cond_false, List.length_nil, Bool.and_self]
    refine ⟨?_, ?_, ?_, ?_, ?_⟩ <;> first | trivial | rfl
  | true =>
    cases hr : v135_0 rs with
    | false =>
      simp only [Bool.and_false, Bool.not_false, cond_true, cond_false, List.length_nil, Bool.and_self]
      refine ⟨?_, ?_, ?_, ?_, ?_⟩ <;> first | trivial | rfl
    | true =>
      have hhl := heat_len xs rs
      simp only [Bool.and_self, Bool.not_true, cond_true, cond_false, hhl]
      by_cases hz : (xs.length : Int) = 0
      · rw [decide_eq_true hz]
        simp only [cond_true, Bool.and_self]
        refine ⟨?_, ?_, ?_, ?_, ?_⟩ <;> first | trivial | rfl
      · rw [decide_eq_false hz]
        simp only [cond_false]
        have hn : 0 < xs.length := by omega
        -- the values
        rw [hv] at hv103
        have hv103 := hv103.symm
        rw [Bool.and_eq_true, findF_isNone] at hv103
        have hval : ∀ k : Int, 0 ≤ k → k < xs.length → el xs k ≤ 999 := fun k k0 k1 => by
          have := hv103.1 k k0 (by omega)
          simp only [v68, Bool.not_eq_false', Bool.and_eq_true, decide_eq_true_eq] at this
          exact this.2
        have e12 : ints (v84_0 xs) = ints (v89_0 xs) := a3.trans b3.symm
        obtain ⟨⟨f, m⟩, g1, ⟨g2, g3, g4⟩, g5, g6⟩ := run29 (v84_0 xs) rs (by omega) h' (by omega) 0 0
        simp only at g2 g3 g4 g5 g6
        obtain ⟨r, i1, l, ⟨i2, i3⟩, i4, i5, i6⟩ := run29l (v84_0 xs) rs (by omega) h' f m 0 0 g2 g3 g4
        obtain ⟨j1, j2, j3⟩ := P88 (heat xs rs) (by omega) (by omega)
        generalize hhot : v88_0 (heat xs rs) = hot at j2 j3
        have in1 := srt_in a3
        have hotm : hot = m := by
          obtain ⟨k, k0, k1, e⟩ := j3
          rw [heat_el xs rs k k0 (by omega)] at e
          obtain ⟨j, j0, j1', e'⟩ := in1.2 k k0 (by omega)
          have u1 := g5 j j0 (by omega)
          rw [e', e] at u1
          obtain ⟨p, p0, p1, e''⟩ := in1.1 f g2 (by omega)
          have u2 := j2 p p0 (by omega)
          rw [heat_el xs rs p p0 p1, e'', ← g4] at u2
          omega
        subst hotm
        obtain ⟨low, k1, k2, k3⟩ := run32 xs rs h hval hot 0 0 (by
          obtain ⟨k, k0, k1, e⟩ := j3
          rw [heat_el xs rs k k0 (by omega)] at e
          exact ⟨k, k0, by omega, e⟩)
        have hlow : low = el (v84_0 xs) f := by
          obtain ⟨k, q0, q1, q2, q3⟩ := k3
          obtain ⟨j, j0, j1', e'⟩ := in1.2 k q0 q1
          have ha := asc_of a3
          have hjf : f ≤ j := by
            rcases Int.lt_or_le j f with w | w
            · have := g6 j j0 w; rw [e', q2] at this; omega
            · exact w
          have u1 : el (v84_0 xs) f ≤ low := by
            rw [← q3, ← e']
            by_cases w : j = f
            · rw [w]; exact Int.le_refl _
            · exact ha f j g2 (by omega) j1'
          obtain ⟨p, p0, p1, e''⟩ := in1.1 f g2 (by omega)
          have u2 := k2 p p0 p1 (by rw [e'', ← g4])
          omega
        have eS : ∀ k : Int, 0 ≤ k → k < xs.length → el (v89_0 xs) k = el (v84_0 xs) k := fun k k0 k1 => (el_ints e12 k k0 (by omega)).symm
        have hb : ∀ k : Int, 0 ≤ k → k < f → el (v84_0 xs) k < el (v84_0 xs) f := fun k k0 k1 => by
          have ha := asc_of a3 k f k0 k1 (by omega)
          have u := g6 k k0 k1
          rcases Int.lt_or_eq_of_le ha with w | w
          · exact w
          · rw [w, ← g4] at u; omega
        have key := run32l xs rs (v89_0 xs) h h' b3 b2 hot 0 0 f l g2 i2 (by omega) (fun k k0 k1 => by rw [eS k k0 (by omega), eS f g2 (by omega)]; exact hb k k0 k1) (fun k k0 k1 => by rw [eS k (by omega) (by omega)]; exact i4 k k0 k1) (fun e => by rw [eS (l + 1) (by omega) (by omega)]; exact i5 (by omega))
        rw [eS f g2 (by omega), eS l (by omega) (by omega)] at key
        rw [g1]
        simp only [ro, hhot, j1]
        rw [k1]
        simp only [hlow, wrap_in (a := f + 1) (by omega) (by omega)]
        rw [i1, key]
        have c0 : decide (0 ≤ f) = true := decide_eq_true g2
        have c1' : decide (f < ((v84_0 xs).length : Int)) = true := decide_eq_true g3
        have c2' : decide (0 ≤ l) = true := decide_eq_true (by omega)
        have c3' : decide (l < ((v84_0 xs).length : Int)) = true := decide_eq_true i3
        rcases i6 with ⟨z, rfl⟩ | rfl
        · simp only [sumE, c0, c1', c2', c3', Bool.and_self]
          refine ⟨?_, ?_, ?_, ?_, ?_⟩ <;> first | trivial | rfl
        · simp only [sumE, c0, c1', c2', c3', Bool.and_self]
          refine ⟨?_, ?_, ?_, ?_, ?_⟩ <;> first | trivial | rfl

end Go.Proofs.Ytepfklcdpkpepaa
