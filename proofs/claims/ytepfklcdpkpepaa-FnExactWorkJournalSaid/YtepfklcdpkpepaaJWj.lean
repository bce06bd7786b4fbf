/- work -/
import Derived.Test.YtepfklcdpkpepaaJWi
namespace Go.Proofs.Ytepfklcdpkpepaa
open Go Go.Proofs.VE
set_option linter.unusedVariables false
set_option linter.unusedSimpArgs false
/-! ### histories -/
theorem P104 (xs : List AV) (h : xs.length ≤ 1048576) : q104 xs = true ∧ v104_0 xs = (noneB (fun i => !v68_0 (fI (xs.getD i.toNat .undef) 0) (-1000) 1000) xs.length && decide (xs.length ≤ 60)) := by
  have hr : runW (R104_0 xs) (((xs.length : Int) - 0).toNat + 1) 0 = some (ro (findF (fun i => !v68_0 (fI (xs.getD i.toNat .undef) 0) (-1000) 1000) xs.length 0) (.inl ()) fun _ => .inr ()) := by
    refine runW_find (fun i => i) xs.length _ _ _ (fun i h0 hn => ?_) ?_ xs.length _ 0 (Int.le_refl 0) (by omega) (by omega)
    · simp only [R104_0, F104_0, h0, hn, decide_true, Bool.and_self, cond_true]
      rw [wrap_in (a := i + 1) (by omega) (by omega)]
    · simp only [R104_0, F104_0, Int.lt_irrefl, decide_false, cond_false]
  unfold q104 v104_0 noneB
  rw [hr]
  cases findF (fun i => !v68_0 (fI (xs.getD i.toNat .undef) 0) (-1000) 1000) xs.length 0 with
  | none => refine ⟨rfl, ?_⟩; simp only [ro, sumE, Option.isNone_none, Bool.true_and]; congr 1; simp only [eq_iff_iff]; omega
  | some j => exact ⟨rfl, rfl⟩
theorem P106 (xs : List AV) (h : xs.length ≤ 1048576) : q106 xs = true ∧ v106_0 xs = v104_0 xs := by
  rw [(P104 xs h).2]
  unfold q106 v106_0 noneB
  rw [(P124 xs _ _ h).1, (P124 xs _ _ h).2]
  have e60 : decide ((xs.length : Int) ≤ 60) = decide (xs.length ≤ 60) := by congr 1; simp only [eq_iff_iff]; omega
  rw [e60]
  cases decide (xs.length ≤ 60) <;> simp
theorem hist {xs : List AV} (hl : xs.length ≤ 1048576) (h : v104_0 xs = true) : xs.length ≤ 60 ∧ ∀ k : Int, 0 ≤ k → k < xs.length → -1000 ≤ fI (xs.getD k.toNat .undef) 0 ∧ fI (xs.getD k.toNat .undef) 0 ≤ 1000 := by
  rw [(P104 xs hl).2, Bool.and_eq_true, noneB_iff, decide_eq_true_eq] at h
  refine ⟨h.2, fun k k0 k1 => ?_⟩
  have := h.1 k k0 k1
  simp only [v68, Bool.not_eq_false', Bool.and_eq_true, decide_eq_true_eq] at this
  exact this
/-! ### work -/
theorem roomN (X Y : List AV) (h : X.length ≤ 1048576) (h' : Y.length ≤ 1048576) : (decide ((X.length + Y.length) * 32 ≤ 140737488355328) && decide (X.length + Y.length ≤ 140737488355328)) = true := by
  simp only [Bool.and_eq_true, decide_eq_true_eq]
  omega
abbrev WS := Int × List AV × List AV × List AV × List AV
/-- One round, both: dividing a valid column leaves it valid. -/
theorem round {vs rs ps : List AV} (h : Col vs rs ps) (hN : N2 ps) {v : Int} (hv : -1000 ≤ v ∧ v ≤ 1000) :
    q41 vs rs ps v = true ∧ q99 vs rs ps v = true ∧ v99_0 vs rs ps v = v41_0 vs rs ps v ∧ q96 vs rs ps v = true ∧ q108 vs rs ps v = true ∧ v108_0 vs rs ps v = v96_0 vs rs ps v ∧ v108_1 vs rs ps v = v96_1 vs rs ps v ∧ v108_2 vs rs ps v = v96_2 vs rs ps v ∧
      (v41_0 vs rs ps v).length ≤ 66 ∧ Col (v96_0 vs rs ps v) (v96_1 vs rs ps v) (v96_2 vs rs ps v) ∧ N2 (v96_2 vs rs ps v) := by
  cases hf : (findP ps v).isSome with
  | true =>
    obtain ⟨⟨a1, a2⟩, b1, b2⟩ := journal_old h hv hf
    obtain ⟨⟨c0, c1, c2, c3, c4, c5⟩, d0, d1, d2, d3, d4⟩ := crack_old h hv hf
    rw [a1, a2, b1, b2, c0, c1, c2, c3, d0, d1, d2, d3]
    exact ⟨rfl, rfl, rfl, rfl, rfl, rfl, rfl, rfl, by simp, h, hN⟩
  | false =>
    obtain ⟨a, b, at_, ss, hcr⟩ := crack_new h hN hv hf
    obtain ⟨t, ⟨a1, a2⟩, b1, b2⟩ := journal_new h hv hf hcr
    obtain ⟨c0, c1, c2, c3, c4, c5⟩ := hcr.c
    obtain ⟨d0, d1, d2, d3, d4⟩ := hcr.c'
    rw [a1, a2, b1, b2, c0, c1, c2, c3, d0, d1, d2, d3]
    refine ⟨rfl, rfl, rfl, rfl, rfl, rfl, rfl, rfl, ?_, hcr.ok, hcr.n2⟩
    have := jr_len v a b t ss
    have := hcr.s64
    omega
structure WorkI (ts : List AV) (s s' : WS) : Prop where
  e : s' = s
  k0 : 0 ≤ s.1
  k1 : s.1 ≤ ts.length
  c : Col s.2.1 s.2.2.1 s.2.2.2.1
  n : N2 s.2.2.2.1
  l : (s.2.2.2.2.length : Int) ≤ 66 * s.1
theorem run47 (ts vs rs ps : List AV) (hl : ts.length ≤ 60) (hv : ∀ k : Int, 0 ≤ k → k < ts.length → -1000 ≤ fI (ts.getD k.toNat .undef) 0 ∧ fI (ts.getD k.toNat .undef) 0 ≤ 1000) (hc : Col vs rs ps) (hN : N2 ps) :
    ∃ r, runW (R47_0 ts) (((ts.length : Int) - 0).toNat + 1) (0, vs, rs, ps, []) = some r ∧ runW (R48_0 ts ts.length) (((ts.length : Int) - 0).toNat + 1) (0, vs, rs, ps, []) = some r ∧ Col r.1 r.2.1 r.2.2.1 ∧ r.2.2.2.length ≤ 4000 := by
  obtain ⟨r, r', h1, h2, h3, h4, h5⟩ := runW_pair (f := R47_0 ts) (g := R48_0 ts ts.length) (WorkI ts) (fun (r r' : List AV × List AV × List AV × List AV) => r' = r ∧ Col r.1 r.2.1 r.2.2.1 ∧ r.2.2.2.length ≤ 4000) (fun s => ((ts.length : Int) - s.1).toNat) (fun s s' hI => by
    obtain ⟨rfl, k0, k1, c, n, l⟩ := hI
    obtain ⟨k, x, y, z, acc⟩ := s'
    simp only at k0 k1 c n l
    by_cases hk : k < ts.length
    · have d1 : decide (k < (ts.length : Int)) = true := decide_eq_true hk
      have d2 : decide (0 ≤ k) = true := decide_eq_true k0
      obtain ⟨u1, u2, u3, u4, u5, u6, u7, u8, u9, u10, u11⟩ := round c n (hv k k0 hk)
      have rm := roomN acc (v41_0 x y z (fI (ts.getD k.toNat AV.undef) 0)) (by omega) (by omega)
      have wk : IntKind.i64.wrap (k + 1) = k + 1 := wrap_in (by omega) (by omega)
      refine .inl ⟨(k + 1, v96_0 x y z (fI (ts.getD k.toNat AV.undef) 0), v96_1 x y z (fI (ts.getD k.toNat AV.undef) 0), v96_2 x y z (fI (ts.getD k.toNat AV.undef) 0), acc ++ v41_0 x y z (fI (ts.getD k.toNat AV.undef) 0)), (k + 1, v96_0 x y z (fI (ts.getD k.toNat AV.undef) 0), v96_1 x y z (fI (ts.getD k.toNat AV.undef) 0), v96_2 x y z (fI (ts.getD k.toNat AV.undef) 0), acc ++ v41_0 x y z (fI (ts.getD k.toNat AV.undef) 0)), ?_, ?_, ⟨rfl, ?_, ?_, u10, u11, ?_⟩, ?_⟩
      · simp only [R47_0, F47_0, d1, d2, u1, u4, rm, wk, Bool.and_self, cond_true]
      · simp only [R48_0, F48_0, d1, d2, u2, u3, u5, u6, u7, u8, rm, wk, Bool.and_self, cond_true]
      · simp only; omega
      · simp only; omega
      · simp only [List.length_append]; omega
      · simp only; omega
    · have d1 : decide (k < (ts.length : Int)) = false := decide_eq_false hk
      refine .inr ⟨(x, y, z, acc), (x, y, z, acc), ?_, ?_, rfl, c, by simp only; omega⟩
      · simp only [R47_0, F47_0, d1, cond_false]
      · simp only [R48_0, F48_0, d1, cond_false]) (((ts.length : Int) - 0).toNat + 1) (((ts.length : Int) - 0).toNat + 1) (0, vs, rs, ps, []) (0, vs, rs, ps, []) ⟨rfl, by simp, by simp, hc, hN, by simp⟩ (by simp) (by simp)
  subst h3
  exact ⟨r', h1, h2, h4, h5⟩
/-- WorkJournal, both. -/
theorem same47 (xs ts : List AV) (h1 : xs.length ≤ 1048576) (h2 : ts.length ≤ 1048576) :
    q47 xs ts = true ∧ q48 xs ts = true ∧ v48_0 xs ts = v47_0 xs ts ∧ v48_1 xs ts = v47_1 xs ts ∧ v48_2 xs ts = v47_2 xs ts ∧ v48_3 xs ts = v47_3 xs ts ∧ v48_4 xs ts = v47_4 xs ts ∧
      (v47_0 xs ts).length ≤ 1048576 ∧ (v47_1 xs ts).length ≤ 1048576 ∧ (v47_2 xs ts).length ≤ 1048576 ∧ (v47_3 xs ts).length ≤ 1048576 := by
  obtain ⟨a1, a2, a3, a4⟩ := P102 xs h1
  obtain ⟨b1, b2, b3, b4⟩ := P107 xs h1
  unfold q47 q48 v47_0 v47_1 v47_2 v47_3 v47_4 v48_0 v48_1 v48_2 v48_3 v48_4
  rw [a1, a2, a3, a4, b1, b2, b3, b4, (P103 xs h1).1, (P105 xs h1).1, (P105 xs h1).2, (P104 ts h2).1, (P106 ts h2).1, (P106 ts h2).2]
  cases hv : v103_0 xs with
  | false =>
    simp only [Bool.not_false, cond_true, cond_false, Bool.and_self]
    (refine ⟨?_, ?_, ?_, ?_, ?_, ?_, ?_, ?_, ?_, ?_, ?_⟩ <;> first | trivial | rfl | simp)
  | true =>
    cases ht : v104_0 ts with
    | false =>
      simp only [Bool.not_false, Bool.not_true, cond_true, cond_false, Bool.and_self]
      (refine ⟨?_, ?_, ?_, ?_, ?_, ?_, ?_, ?_, ?_, ?_, ?_⟩ <;> first | trivial | rfl | simp)
    | true =>
      obtain ⟨g1, g2⟩ := hist h2 ht
      obtain ⟨r, k1, k2, k3, k4⟩ := run47 ts xs (rows xs) [] g1 g2 (Col_new xs h1 hv) N2_nil
      have n1 := k3.n64
      have n2 := k3.len
      have n3 := col_few k3
      simp only [cond_true]
      rw [k1, k2]
      refine ⟨?_, ?_, ?_, ?_, ?_, ?_, ?_, ?_, ?_, ?_, ?_⟩ <;> first | trivial | rfl | (simp only [ro, Bool.not_true, cond_false]; omega)

end Go.Proofs.Ytepfklcdpkpepaa
