/- the law -/
import Derived.Test.YtdhhceamknidmaaCMj
namespace Go.Proofs.Ytdhhceamknidmaa
open Go Go.Proofs.VE
set_option linter.unusedVariables false
set_option linter.unusedSimpArgs false
theorem count_inner (v r p v' r' p' : List AV) (i t : Int) (i0 : 0 ≤ i) (i1 : i < v.length) (t0 : 0 ≤ t) (t1 : t ≤ 1048576) (h4 : v'.length ≤ 1048576) :
    runW (R37_2 i v r p v' r' p') (((v'.length : Int) - 0).toNat + 1) (t, 0) = some (t + ((jn ((els v r).getD i.toNat .undef) (els v' r')).length : Int)) := by
  have key := runW_fold (f := R37_2 i v r p v' r' p') (fun j t => (t, j)) v'.length (fun j t => t + ((jn1 ((els v r).getD i.toNat .undef) ((els v' r').getD j.toNat .undef)).length : Int)) id (fun j u => t ≤ u ∧ u ≤ t + j)
    (fun j u j0 jn hu => by
      have hj := jn1_len ((els v r).getD i.toNat .undef) ((els v' r').getD j.toNat .undef)
      refine ⟨?_, by omega⟩
      have d1 : decide (j < (v'.length : Int)) = true := decide_eq_true jn
      have d2 : decide (0 ≤ j) = true := decide_eq_true j0
      have d3 : decide (0 ≤ i) = true := decide_eq_true i0
      have d4 : decide (i < (v.length : Int)) = true := decide_eq_true i1
      have wj : IntKind.i64.wrap (j + 1) = j + 1 := wrap_in (by omega) (by omega)
      have wu : IntKind.i64.wrap (u + 1) = u + 1 := wrap_in (by omega) (by omega)
      rw [els_get v r i i0 i1, els_get v' r' j j0 jn]
      simp only [R37_2, F37_2, d1, d2, d3, d4, wj, wu, Bool.and_self, cond_true]
      unfold jn1
      rw [avP0, avP0]
      show (bif decide (el v i = el v' j) then _ else _) = _
      cases decide (el v i = el v' j)
      · simp
      · simp)
    (fun u _ => by simp only [R37_2, F37_2, Int.lt_irrefl, decide_false, cond_false]; rfl) v'.length (((v'.length : Int) - 0).toNat + 1) 0 t (Int.le_refl 0) (by omega) (by omega) ⟨Int.le_refl _, by omega⟩
  rw [key]
  have := foldF_list (els v' r') (fun t y => t + ((jn1 ((els v r).getD i.toNat .undef) y).length : Int)) v'.length 0 t (Int.le_refl 0) (by rw [els_len]; omega)
  rw [this, foldl_cnt]
  rfl
theorem P37 (v r p v' r' p' : List AV) (h1 : v.length ≤ 1048576) (h2 : r.length ≤ 1048576) (h3 : p.length ≤ 1048576) (h4 : v'.length ≤ 1048576) (h5 : r'.length ≤ 1048576) (h6 : p'.length ≤ 1048576) :
    q37 v r p v' r' p' = true ∧ v37_0 v r p v' r' p' = bif isC v r p && isC v' r' p' then ((jns (els v r) (els v' r')).length : Int) else 0 := by
  obtain ⟨a1, a2⟩ := P66 v r p h1 h2 h3
  obtain ⟨a3, a4⟩ := P66 v' r' p' h4 h5 h6
  have key : runW (R37_0 v r p v' r' p') (((v.length : Int) - 0).toNat + 1) (0, 0) = some (bif isC v r p && isC v' r' p' then ((jns (els v r) (els v' r')).length : Int) else 0) := by
    cases hc : isC v r p && isC v' r' p' with
    | false =>
      show (R37_0 v r p v' r' p' (0, 0)).el _ _ _ = _
      by_cases hn : 0 < v.length
      · have d1 : decide ((0 : Int) < (v.length : Int)) = true := decide_eq_true (by omega)
        simp only [R37_0, F37_0, d1, a1, a2, a3, a4, cond_true]
        cases c1 : isC v r p
        · rfl
        · rw [c1] at hc
          rw [show isC v' r' p' = false from hc]
          rfl
      · have d1 : decide ((0 : Int) < (v.length : Int)) = false := decide_eq_false (by omega)
        simp only [R37_0, F37_0, d1, cond_false]
        rfl
    | true =>
      rw [Bool.and_eq_true] at hc
      obtain ⟨c1, c2⟩ := hc
      obtain ⟨l1, l2⟩ := isC_len h1 c1
      obtain ⟨l3, l4⟩ := isC_len h4 c2
      have k2 := runW_fold (f := R37_0 v r p v' r' p') (fun i t => (t, i)) v.length (fun i t => t + ((jn ((els v r).getD i.toNat .undef) (els v' r')).length : Int)) id (fun i u => 0 ≤ u ∧ u ≤ 64 * i)
        (fun i u i0 hi hu => by
          have hj := jn_len ((els v r).getD i.toNat .undef) (els v' r')
          rw [els_len] at hj
          refine ⟨?_, by omega⟩
          have d1 : decide (i < (v.length : Int)) = true := decide_eq_true hi
          have wi : IntKind.i64.wrap (i + 1) = i + 1 := wrap_in (by omega) (by omega)
          have inner := count_inner v r p v' r' p' i u i0 hi hu.1 (by omega) h4
          simp only [R37_0, F37_0, d1, a1, a2, a3, a4, c1, c2, inner, ro, wi, cond_true])
        (fun u _ => by simp only [R37_0, F37_0, Int.lt_irrefl, decide_false, cond_false]; rfl) v.length (((v.length : Int) - 0).toNat + 1) 0 0 (Int.le_refl 0) (by omega) (by omega) ⟨Int.le_refl _, by omega⟩
      rw [k2]
      have := foldF_list (els v r) (fun t x => t + ((jn x (els v' r')).length : Int)) v.length 0 0 (Int.le_refl 0) (by rw [els_len]; omega)
      rw [this, foldl_cnt (fun x => jn x (els v' r')), cond_true]
      show some (0 + _) = _
      rw [Int.zero_add]
      rfl
  unfold q37 v37_0
  rw [key]
  exact ⟨rfl, rfl⟩
theorem P39 (v r p v' r' p' : List AV) (h1 : v.length ≤ 1048576) (h2 : r.length ≤ 1048576) (h3 : p.length ≤ 1048576) (h4 : v'.length ≤ 1048576) (h5 : r'.length ≤ 1048576) (h6 : p'.length ≤ 1048576) :
    q39 v r p v' r' p' = true ∧ v39_0 v r p v' r' p' = v37_0 v r p v' r' p' := by
  obtain ⟨e1, e2⟩ := P47 v r p v' r' p' (-1000) 1000 h1 h2 h3 h4 h5 h6
  unfold q39 v39_0
  rw [e1, e2, (P37 v r p v' r' p' h1 h2 h3 h4 h5 h6).2]
  refine ⟨rfl, ?_⟩
  cases hc : isC v r p && isC v' r' p' with
  | false => rfl
  | true =>
    rw [Bool.and_eq_true] at hc
    rw [cond_true, cond_true, sortPL_len]
    unfold scanJ
    rw [keep_all ((isC_iff v r p h1).1 hc.1), keep_all ((isC_iff v' r' p' h4).1 hc.2)]
theorem raw8_true (v r p v' r' p' : List AV) (a1 : v.length ≤ 9223372036854775807) (a2 : r.length ≤ 9223372036854775807) (a3 : p.length ≤ 9223372036854775807)
    (b1 : v'.length ≤ 9223372036854775807) (b2 : r'.length ≤ 9223372036854775807) (b3 : p'.length ≤ 9223372036854775807) : raw8 v r p v' r' p' = some (.bool true) := by
  unfold raw8
  rw [P36 a1 a2 a3 (by omega) (by omega)]
  by_cases c1 : 1048576 < ((v.length : Int) + (r.length : Int) + (p.length : Int))
  · rw [if_pos c1]
    rfl
  rw [if_neg c1, decide_eq_false (by omega : ¬ (1048576 : Int) - ((v.length : Int) + (r.length : Int) + (p.length : Int)) < 0)]
  rw [P36 b1 b2 b3 (by omega) (by omega)]
  by_cases c2 : (1048576 : Int) - ((v.length : Int) + (r.length : Int) + (p.length : Int)) < ((v'.length : Int) + (r'.length : Int) + (p'.length : Int))
  · rw [if_pos c2]
    rfl
  rw [if_neg c2, decide_eq_false (by omega : ¬ (1048576 : Int) - ((v.length : Int) + (r.length : Int) + (p.length : Int)) - ((v'.length : Int) + (r'.length : Int) + (p'.length : Int)) < 0)]
  obtain ⟨s1, s2, s3, s4⟩ := P38 v r p (by omega) (by omega) (by omega)
  obtain ⟨t1, t2, t3, t4⟩ := P38 v' r' p' (by omega) (by omega) (by omega)
  have l1 : (v.map cp27).length ≤ 1048576 := by rw [List.length_map]; omega
  have l2 : (r.map cp27).length ≤ 1048576 := by rw [List.length_map]; omega
  have l3 : (p.map cp89).length ≤ 1048576 := by rw [List.length_map]; omega
  have m1 : (v'.map cp27).length ≤ 1048576 := by rw [List.length_map]; omega
  have m2 : (r'.map cp27).length ≤ 1048576 := by rw [List.length_map]; omega
  have m3 : (p'.map cp89).length ≤ 1048576 := by rw [List.length_map]; omega
  rw [s1, s2, s3, s4, t1, t2, t3, t4]
  generalize v.map cp27 = v1 at *
  generalize r.map cp27 = r1 at *
  generalize p.map cp89 = p1 at *
  generalize v'.map cp27 = v2 at *
  generalize r'.map cp27 = r2 at *
  generalize p'.map cp89 = p2 at *
  obtain ⟨x1, x2⟩ := P37 v1 r1 p1 v2 r2 p2 l1 l2 l3 m1 m2 m3
  obtain ⟨y1, y2⟩ := P39 v1 r1 p1 v2 r2 p2 l1 l2 l3 m1 m2 m3
  obtain ⟨z1, z2⟩ := P40s v1 r1 p1 l1 l2 l3
  obtain ⟨w1, w2⟩ := P40s v2 r2 p2 m1 m2 m3
  rw [x1, y1, y2, z1, z2, w1, w2]
  simp only [decide_true, Bool.not_true, cond_true, cond_false]
theorem law8 {x0 x1 : AV} (t0 : TA Try.prog 25 x0) (t1 : TA Try.prog 25 x1) : m8 [x0, x1] = some (true, .bool true) := by
  obtain ⟨v, r, p, rfl, a1, a2, a3⟩ := crack_args t0 (by kernel_rfl) (by kernel_rfl)
  obtain ⟨v', r', p', rfl, b1, b2, b3⟩ := crack_args t1 (by kernel_rfl) (by kernel_rfl)
  show (raw8 v r p v' r' p').map (fun r => (true, r)) = _
  rw [raw8_true v r p v' r' p' a1 a2 a3 b1 b2 b3]
  rfl

end Go.Proofs.Ytdhhceamknidmaa
