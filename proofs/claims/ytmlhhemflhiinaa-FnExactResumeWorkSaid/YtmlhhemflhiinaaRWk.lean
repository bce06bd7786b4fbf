/- replaying -/
import Derived.Test.YtmlhhemflhiinaaRWm
namespace Go.Proofs.Ytmlhhemflhiinaa
open Go Go.Proofs.VE
set_option linter.unusedVariables false
set_option linter.unusedSimpArgs false
/-! ### one swap; undoing -/
theorem q35_1 (vs rs ps : List AV) (A B : Int) (hv : vs.length ≤ 1048576) (hp : ps.length ≤ 1048576) (hl : (rs.length : Int) = vs.length) : q35 vs rs ps [AV.agg [AV.int .i64 A, AV.int .i64 B]] = true := by
  by_cases h : 0 ≤ A ∧ A < vs.length ∧ 0 ≤ B ∧ B < vs.length
  · exact (P35 vs rs ps [AV.agg [AV.int .i64 A, AV.int .i64 B]] hv hp hl (by simp) (fun s hs => by rw [List.mem_singleton.1 hs]; exact h)).1
  · obtain ⟨c0, c1, c2, c3⟩ := P31 vs rs ps hv (by omega) hp
    have wl : IntKind.i64.wrap ((vs.length : Int) - 1) = (vs.length : Int) - 1 := wrap_in (by omega) (by omega)
    have hs : R35_0 [AV.agg [AV.int .i64 A, AV.int .i64 B]] vs rs ps ps (0, vs, rs) = .stop (.inr (vs, rs, vs, rs, ps)) := by
      have e1 : decide ((0 : Int) < ([AV.agg [AV.int .i64 A, AV.int .i64 B]].length : Int)) = true := rfl
      have e2 : fI ([AV.agg [AV.int .i64 A, AV.int .i64 B]].getD (0 : Int).toNat AV.undef) 0 = A := rfl
      have e3 : fI ([AV.agg [AV.int .i64 A, AV.int .i64 B]].getD (0 : Int).toNat AV.undef) 1 = B := rfl
      have e4 : decide ((0 : Int) ≤ 0) = true := rfl
      simp only [R35_0, F35_0, e1, e2, e3, e4, wl, c0, c1, c2, c3, v28, Bool.and_self, cond_true]
      by_cases g1 : 0 ≤ A
      · by_cases g2 : A ≤ (vs.length : Int) - 1
        · rw [decide_eq_true g1, decide_eq_true g2]
          by_cases g3 : 0 ≤ B
          · rw [decide_eq_true g3, decide_eq_false (show ¬ B ≤ (vs.length : Int) - 1 by omega)]; rfl
          · rw [decide_eq_false g3]; rfl
        · rw [decide_eq_true g1, decide_eq_false g2]; rfl
      · rw [decide_eq_false g1]; rfl
    have hr : ∀ m, runW (R35_0 [AV.agg [AV.int .i64 A, AV.int .i64 B]] vs rs ps ps) (m + 1) (0, vs, rs) = some (.inr (vs, rs, vs, rs, ps)) := fun m => by
      show (R35_0 _ vs rs ps ps (0, vs, rs)).el none _ some = _
      rw [hs]
      rfl
    unfold q35
    rw [c0, c1, c2, c3, hr]
    cases decide ((rs.length : Int) = vs.length) <;> rfl
theorem drop_at {xs : List AV} {k : Int} (h0 : 0 ≤ k) (h1 : k < xs.length) : xs.drop k.toNat = xs.getD k.toNat .undef :: xs.drop (k + 1).toNat := by
  rw [show (k + 1).toNat = k.toNat + 1 by omega, List.getD_eq_getElem?_getD, List.getElem?_eq_getElem (by omega)]
  exact List.drop_eq_getElem_cons (by omega)
theorem inS_rev {a b : Int} {ss : List AV} (h : inS a b ss) : inS a b ss.reverse := fun s hs => h s (List.mem_reverse.1 hs)
theorem P48 (vs rs ps ss : List AV) (hv : vs.length ≤ 1048576) (hp : ps.length ≤ 1048576) (hl : (rs.length : Int) = vs.length) (hs : ss.length ≤ 1048576) (hN : N2 ss) (h : inS 0 vs.length ss) :
    q48 vs rs ps ss = true ∧ v48_0 vs rs ps ss = appS ss.reverse vs ∧ v48_1 vs rs ps ss = appS ss.reverse rs ∧ v48_2 vs rs ps ss = ps := by
  obtain ⟨r, h1, h2⟩ := runW_ends (f := R48_0 ss vs rs ps) (fun s : Int × List AV => -1 ≤ s.1 ∧ s.1 < ss.length ∧ s.2 = (ss.drop (s.1 + 1).toNat).reverse) (fun r => r = ss.reverse) (fun s => (s.1 + 1).toNat) (fun s hI => by
      obtain ⟨k, acc⟩ := s
      obtain ⟨k0, k1, e⟩ := hI
      simp only at k0 k1 e
      by_cases hk : k ≥ 0
      · have d1 : decide (k ≥ 0) = true := decide_eq_true hk
        have d2 : decide (0 ≤ k) = true := decide_eq_true hk
        have d3 : decide (k < (ss.length : Int)) = true := decide_eq_true k1
        have wk : IntKind.i64.wrap (k - 1) = k - 1 := wrap_in (by omega) (by omega)
        have en : AV.agg [AV.int .i64 (fI (ss.getD k.toNat AV.undef) 0), AV.int .i64 (fI (ss.getD k.toNat AV.undef) 1)] = ss.getD k.toNat .undef := hN.at hk k1
        have hl : acc.length ≤ 1048576 := by rw [e, List.length_reverse, List.length_drop]; omega
        refine .inl ⟨(k - 1, acc ++ [ss.getD k.toNat .undef]), ?_, ⟨by simp only; omega, by simp only; omega, ?_⟩, by simp only; omega⟩
        · simp only [R48_0, F48_0, d1, d2, d3, wk, en, room2 acc _ hl, Bool.and_self, cond_true]
        · simp only
          rw [show k - 1 + 1 = k by omega, drop_at hk k1, List.reverse_cons, e]
      · have d1 : decide (k ≥ 0) = false := decide_eq_false hk
        refine .inr ⟨acc, by simp only [R48_0, F48_0, d1, cond_false], ?_⟩
        rw [e, show (k + 1).toNat = 0 by omega, List.drop_zero]) ((((ss.length : Int) - 1) - 0 + 1).toNat + 1) ((ss.length : Int) - 1, []) ⟨by simp only; omega, by simp only; omega, by simp⟩ (by simp only; omega)
  subst h2
  obtain ⟨e1, e2, e3, e4, e5⟩ := P35 vs rs ps ss.reverse hv hp hl (by rw [List.length_reverse]; exact hs) (inS_rev h)
  unfold q48 v48_0 v48_1 v48_2
  rw [wrap_in (a := (ss.length : Int) - 1) (by omega) (by omega), h1]
  simp only [ro]
  exact ⟨e1, e2, e3, e4⟩
theorem P69 (ss : List AV) (hs : ss.length ≤ 1048576) (hN : N2 ss) : q69 ss = true ∧ v69_0 ss = ss.reverse := by
  obtain ⟨r, h1, h2⟩ := runW_ends (f := R69_0) (fun s : Int × Int × List AV => 0 ≤ s.1 ∧ s.1 + s.2.1 = (ss.length : Int) - 1 ∧ s.1 ≤ s.2.1 + 2 ∧ s.2.2.length = ss.length ∧ ∀ k : Int, 0 ≤ k → k < ss.length → s.2.2.getD k.toNat .undef = if k < s.1 ∨ s.2.1 < k then ss.getD ((ss.length : Int) - 1 - k).toNat .undef else ss.getD k.toNat .undef)
    (fun r => r = ss.reverse) (fun s => (s.2.1 - s.1).toNat) (fun s hI => by
      obtain ⟨i, j, xs⟩ := s
      obtain ⟨i0, ij, ij2, hl, hx⟩ := hI
      simp only at i0 ij ij2 hl hx
      by_cases hk : i < j
      · have d1 : decide (i < j) = true := decide_eq_true hk
        have d2 : decide (0 ≤ i) = true := decide_eq_true i0
        have d3 : decide (0 ≤ j) = true := decide_eq_true (by omega)
        have d4 : decide (i < (xs.length : Int)) = true := decide_eq_true (by omega)
        have d5 : decide (j < (xs.length : Int)) = true := decide_eq_true (by omega)
        have w1 : IntKind.i64.wrap (i + 1) = i + 1 := wrap_in (by omega) (by omega)
        have w2 : IntKind.i64.wrap (j - 1) = j - 1 := wrap_in (by omega) (by omega)
        have xi := hx i i0 (by omega)
        have xj := hx j (by omega) (by omega)
        rw [if_neg (by omega)] at xi xj
        have ei : AV.agg [AV.int .i64 (fI (xs.getD i.toNat AV.undef) 0), AV.int .i64 (fI (xs.getD i.toNat AV.undef) 1)] = ss.getD i.toNat .undef := by rw [xi]; exact hN.at i0 (by omega)
        have ej : AV.agg [AV.int .i64 (fI (xs.getD j.toNat AV.undef) 0), AV.int .i64 (fI (xs.getD j.toNat AV.undef) 1)] = ss.getD j.toNat .undef := by rw [xj]; exact hN.at (by omega) (by omega)
        refine .inl ⟨(i + 1, j - 1, (xs.set i.toNat (ss.getD j.toNat .undef)).set j.toNat (ss.getD i.toNat .undef)), ?_, ⟨by simp only; omega, by simp only; omega, by simp only; omega, by simp only [List.length_set]; exact hl, fun k k0 k1 => ?_⟩, by simp only; omega⟩
        · simp only [R69_0, F69_0, List.length_set, d1, d2, d3, d4, d5, w1, w2, ei, ej, Bool.and_self, cond_true]
        · simp only
          by_cases e1 : k = j
          · subst e1
            rw [getD_set (by rw [List.length_set]; omega), if_pos (by omega)]
            congr 1
            omega
          · have g1 : ((xs.set i.toNat (ss.getD j.toNat .undef)).set j.toNat (ss.getD i.toNat .undef)).getD k.toNat .undef = (xs.set i.toNat (ss.getD j.toNat .undef)).getD k.toNat .undef := by
              simp only [List.getD_eq_getElem?_getD]
              rw [List.getElem?_set_ne (by omega)]
            rw [g1]
            by_cases e2 : k = i
            · subst e2
              rw [getD_set (by omega), if_pos (by omega)]
              congr 1
              omega
            · have g2 : (xs.set i.toNat (ss.getD j.toNat .undef)).getD k.toNat .undef = xs.getD k.toNat .undef := by
                simp only [List.getD_eq_getElem?_getD]
                rw [List.getElem?_set_ne (by omega)]
              rw [g2, hx k k0 k1]
              by_cases e3 : k < i ∨ j < k
              · rw [if_pos e3, if_pos (by omega)]
              · rw [if_neg e3, if_neg (by omega)]
      · have d1 : decide (i < j) = false := decide_eq_false hk
        refine .inr ⟨xs, by simp only [R69_0, F69_0, d1, cond_false], ?_⟩
        apply List.ext_getElem
        · rw [List.length_reverse, hl]
        · intro m m1 m2
          have := hx m (by omega) (by omega)
          rw [show ((m : Int)).toNat = m by omega] at this
          rw [List.getElem_reverse]
          simp only [List.getD_eq_getElem?_getD] at this
          rw [List.getElem?_eq_getElem m1, Option.getD_some] at this
          rw [this]
          split
          · rw [List.getElem?_eq_getElem (by omega), Option.getD_some]
            congr 1
            omega
          · rw [List.getElem?_eq_getElem (by omega), Option.getD_some]
            congr 1
            omega) ((((ss.length : Int) - 1) - 0).toNat + 1) (0, (ss.length : Int) - 1, ss) ⟨by simp, by simp, by simp only; omega, rfl, fun k k0 k1 => by simp only; rw [if_neg (by omega)]⟩ (by simp only; omega)
  subst h2
  unfold q69 v69_0
  rw [wrap_in (a := (ss.length : Int) - 1) (by omega) (by omega), h1]
  exact ⟨rfl, rfl⟩
theorem P56 (vs rs ps ss : List AV) (hv : vs.length ≤ 1048576) (hp : ps.length ≤ 1048576) (hl : (rs.length : Int) = vs.length) (hs : ss.length ≤ 1048576) (hN : N2 ss) (h : inS 0 vs.length ss) :
    q56 vs rs ps ss = true ∧ v56_0 vs rs ps ss = appS ss.reverse vs ∧ v56_1 vs rs ps ss = appS ss.reverse rs ∧ v56_2 vs rs ps ss = ps := by
  obtain ⟨g1, g2⟩ := P69 ss hs hN
  obtain ⟨e1, e2, e3, e4, e5⟩ := P43 vs rs ps ss.reverse hv hp hl (by rw [List.length_reverse]; exact hs) (inS_rev h)
  have h152 : q68 ss = true := by
    unfold q68
    rw [decide_eq_true (by omega : ss.length * 16 ≤ 140737488355328), decide_eq_true (by omega : ss.length ≤ 140737488355328)]
    rfl
  unfold q56 v56_0 v56_1 v56_2 v68_0
  rw [h152, g1, g2, e1, e2, e3, e4]
  exact ⟨rfl, rfl, rfl, rfl⟩
/-- Finding the piece comes to an end at every value. -/
theorem q51_all (n : Int) (ps : List AV) (v : Int) (hl : ps.length ≤ 1048576) : q51 n ps v = true := by
  obtain ⟨r, h1, _⟩ := runW_ends (f := R51_0 ps v n) (fun s : Int × Int => 0 ≤ s.2 ∧ s.2 ≤ ps.length) (fun _ => True) (fun s => ((ps.length : Int) - s.2).toNat) (fun s hI => by
      obtain ⟨t8, k⟩ := s
      obtain ⟨k0, k1⟩ := hI
      simp only at k0 k1
      by_cases hk : k < ps.length
      · have d1 : decide (k < (ps.length : Int)) = true := decide_eq_true hk
        have d2 : decide (0 ≤ k) = true := decide_eq_true k0
        have wk : IntKind.i64.wrap (k + 1) = k + 1 := wrap_in (by omega) (by omega)
        cases d3 : decide (fI (ps.getD k.toNat .undef) 0 ≤ v) with
        | true => exact .inl ⟨(pat ps k, k + 1), by simp only [R51_0, F51_0, d1, d2, d3, wk, Bool.and_self, cond_true]; rfl, ⟨by simp only; omega, by simp only; omega⟩, by simp only; omega⟩
        | false => exact .inl ⟨(t8, k + 1), by simp only [R51_0, F51_0, d1, d2, d3, wk, Bool.and_self, cond_true, cond_false], ⟨by simp only; omega, by simp only; omega⟩, by simp only; omega⟩
      · have d1 : decide (k < (ps.length : Int)) = false := decide_eq_false hk
        exact .inr ⟨t8, by simp only [R51_0, F51_0, d1, cond_false], trivial⟩) (((ps.length : Int) - 0).toNat + 1) (0, 0) ⟨by simp, by simp⟩ (by simp)
  obtain ⟨r', h3, _⟩ := runW_ends (f := R51_2 ps v r) (fun s : Int × Int => -1 ≤ s.2 ∧ s.2 < ps.length) (fun _ => True) (fun s => (s.2 + 1).toNat) (fun s hI => by
      obtain ⟨t9, k⟩ := s
      obtain ⟨k0, k1⟩ := hI
      simp only at k0 k1
      by_cases hk : k ≥ 0
      · have d1 : decide (k ≥ 0) = true := decide_eq_true hk
        have d2 : decide (0 ≤ k) = true := decide_eq_true hk
        have d3 : decide (k < (ps.length : Int)) = true := decide_eq_true k1
        have wk : IntKind.i64.wrap (k - 1) = k - 1 := wrap_in (by omega) (by omega)
        cases d4 : decide (fI (ps.getD k.toNat .undef) 0 ≥ v) with
        | true => exact .inl ⟨(pat ps k, k - 1), by simp only [R51_2, F51_2, d1, d2, d3, d4, wk, Bool.and_self, cond_true]; rfl, ⟨by simp only; omega, by simp only; omega⟩, by simp only; omega⟩
        | false => exact .inl ⟨(t9, k - 1), by simp only [R51_2, F51_2, d1, d2, d3, d4, wk, Bool.and_self, cond_true, cond_false], ⟨by simp only; omega, by simp only; omega⟩, by simp only; omega⟩
      · have d1 : decide (k ≥ 0) = false := decide_eq_false hk
        exact .inr ⟨t9, by simp only [R51_2, F51_2, d1, cond_false], trivial⟩) (((((ps.length : Int) - 1)) - 0 + 1).toNat + 1) (n, (ps.length : Int) - 1) ⟨by simp only; omega, by simp only; omega⟩ (by simp only; omega)
  unfold q51
  rw [wrap_in (a := (ps.length : Int) - 1) (by omega) (by omega), h1]
  simp only [ro]
  rw [h3]
theorem q33_all {vs rs ps : List AV} (h : Col vs rs ps) (v : Int) : q33 vs rs ps v = true := by
  have hl := h.n64
  have hlen := h.len
  have hf := col_few h
  obtain ⟨g1, g2⟩ := P30 vs rs ps (by omega) (by omega) (by omega)
  unfold q33
  rw [g1, q51_all _ ps v (by omega)]
  cases v30_0 vs rs ps <;> cases v28_0 v (-1000) 1000 <;> rfl
theorem swp_ok (A B a b : Int) (a0 : 0 ≤ a) (ab : a ≤ b) (b1 : b ≤ 64) : (v28_0 A a (IntKind.i64.wrap (B - 1)) && v28_0 B a (IntKind.i64.wrap (b - 1))) = (!decide (A ≥ B) && (!decide (A < a) && !decide (B ≥ b))) := by
  rw [wrap_in (a := b - 1) (by omega) (by omega), v28, v28]
  by_cases h1 : a ≤ B
  · by_cases h2 : B ≤ b - 1
    · rw [wrap_in (a := B - 1) (by omega) (by omega), decide_eq_true h1, decide_eq_true h2, decide_eq_false (show ¬ B ≥ b by omega)]
      by_cases h3 : a ≤ A
      · rw [decide_eq_true h3, decide_eq_false (show ¬ A < a by omega)]
        by_cases h4 : A ≤ B - 1
        · rw [decide_eq_true h4, decide_eq_false (show ¬ A ≥ B by omega)]; rfl
        · rw [decide_eq_false h4, decide_eq_true (show A ≥ B by omega)]; rfl
      · rw [decide_eq_false h3, decide_eq_true (show A < a by omega)]
        cases decide (A ≥ B) <;> rfl
    · rw [decide_eq_false h2, decide_eq_true (show B ≥ b by omega)]
      simp
  · rw [decide_eq_false h1]
    by_cases h3 : A < a
    · rw [decide_eq_true h3]; simp
    · rw [decide_eq_true (show A ≥ B by omega)]; simp
/-! ### replaying -/
abbrev RS := Int × Int × List AV × List AV × List AV × Int × Int × Int × Int × List AV
abbrev RT0 := Int × List AV × List AV × List AV × Bool × Int × Int × Int × Int × Int
abbrev RT1 := Int × List AV × List AV × List AV × Bool × Int × Int × Int × Int × Int × List AV
/-- What holds between two entries. -/
structure RI (m : Nat) (done k : Int) (x y z : List AV) (kd v a b : Int) (sw : List AV) (op : Bool) (v' a' b' ends : Int) (sw' : List AV) : Prop where
  k0 : 0 ≤ k
  k1 : k ≤ m
  c : Col x y z
  nz : N2 z
  d0 : 0 ≤ done
  d1 : done ≤ k
  en : done = ends
  op_ : op = !decide (kd = 0)
  sl : (sw.length : Int) ≤ k
  st : kd ≠ 0 → (v' = v ∧ a' = a ∧ b' = b ∧ sw' = sw) ∧ (0 ≤ a ∧ a ≤ b ∧ b ≤ x.length) ∧ (∀ p : Int, 0 ≤ p → p < z.length → pat z p ≤ a ∨ b ≤ pat z p) ∧ inS a b sw ∧ N2 sw
def RepI (m : Nat) (s : RS) : RT0 ⊕ RT1 → Prop
  | .inl t => t.1 = s.2.1 ∧ t.2.1 = s.2.2.1 ∧ t.2.2.1 = s.2.2.2.1 ∧ t.2.2.2.1 = s.2.2.2.2.1 ∧ RI m s.1 s.2.1 s.2.2.1 s.2.2.2.1 s.2.2.2.2.1 s.2.2.2.2.2.1 s.2.2.2.2.2.2.1 s.2.2.2.2.2.2.2.1 s.2.2.2.2.2.2.2.2.1 s.2.2.2.2.2.2.2.2.2 t.2.2.2.2.1 t.2.2.2.2.2.2.1 t.2.2.2.2.2.2.2.1 t.2.2.2.2.2.2.2.2.1 t.2.2.2.2.2.2.2.2.2 []
  | .inr t => t.1 = s.2.1 ∧ t.2.1 = s.2.2.1 ∧ t.2.2.1 = s.2.2.2.1 ∧ t.2.2.2.1 = s.2.2.2.2.1 ∧ RI m s.1 s.2.1 s.2.2.1 s.2.2.2.1 s.2.2.2.2.1 s.2.2.2.2.2.1 s.2.2.2.2.2.2.1 s.2.2.2.2.2.2.2.1 s.2.2.2.2.2.2.2.2.1 s.2.2.2.2.2.2.2.2.2 t.2.2.2.2.1 t.2.2.2.2.2.2.1 t.2.2.2.2.2.2.2.1 t.2.2.2.2.2.2.2.2.1 t.2.2.2.2.2.2.2.2.2.1 t.2.2.2.2.2.2.2.2.2.2
theorem room1 (X : List AV) (a : AV) (h : (X.length : Int) ≤ 1048576) : (decide ((X.length + [a].length) * 16 ≤ 140737488355328) && decide (X.length + [a].length ≤ 140737488355328)) = true := room2 X a (by omega)
theorem room0 (a : AV) : (decide (([a].length) * 16 ≤ 140737488355328) && decide ([a].length ≤ 140737488355328)) = true := rfl
theorem stepRep0 (es : List AV) (hes : es.length ≤ 1048576) (done k : Int) (x y z : List AV) (kd v a b : Int) (sw : List AV) (op : Bool) (kd' v' a' b' ends : Int) (h : RI es.length done k x y z kd v a b sw op v' a' b' ends []) :
    (∃ s s', R29_0 es (done, k, x, y, z, kd, v, a, b, sw) = .next s ∧ R37_0 es es.length (.inl (k, x, y, z, op, kd', v', a', b', ends)) = .next s' ∧ RepI es.length s s' ∧ s.2.1 = k + 1 ∧ k < es.length) ∨
    (∃ r r', R29_0 es (done, k, x, y, z, kd, v, a, b, sw) = .stop r ∧ R37_0 es es.length (.inl (k, x, y, z, op, kd', v', a', b', ends)) = .stop r' ∧ ((r = .inl (done, x, y, z, kd, v, a, b, sw) ∧ r' = .inl (x, y, z, op, kd', v', a', b', ends)) ∨ ((∃ t, r = .inr t) ∧ ∃ t, r' = .inr (.inr t)))) := by
  obtain ⟨k0, k1, c, nz, dd0, dd1, rfl, rfl, sl, st⟩ := h
  have hn := c.n64
  have hlen := c.len
  have hfew := col_few c
  by_cases hk : k < es.length
  · have d1 : decide (k < (es.length : Int)) = true := decide_eq_true hk
    have d2 : decide (0 ≤ k) = true := decide_eq_true k0
    have wk : IntKind.i64.wrap (k + 1) = k + 1 := wrap_in (by omega) (by omega)
    generalize he0 : fI (es.getD k.toNat AV.undef) 0 = e0
    generalize he1 : fI (es.getD k.toNat AV.undef) 1 = e1
    generalize he2 : fI (es.getD k.toNat AV.undef) 2 = e2
    generalize he3 : fI (es.getD k.toNat AV.undef) 3 = e3
    by_cases hb : e0 = 1
    · have f1 : decide (e0 = 1) = true := decide_eq_true hb
      have q1 := q33_all c e1
      obtain ⟨n1, n2, n3⟩ := P32 x y z e1 (by omega)
      obtain ⟨o1, o2⟩ := P39 x y z e1 (by omega)
      by_cases hkd : kd = 0
      · have f2 : decide (kd = 0) = true := decide_eq_true hkd
        by_cases hv : -1000 ≤ e1 ∧ e1 ≤ 1000
        · have f3 := bound_of hv
          have f4 : v66_0 e1 = true := by rw [bound_eq, f3]
          cases hf : (findP z e1).isSome with
          | true =>
            rw [hf] at n3 o2
            exact .inr ⟨_, _, by simp only [R29_0, F29_0, R37_0, sumE, F37_0_s0, he0, he1, he2, he3, d1, d2, f1, f2, f3, f4, q1, n1, n3, o1, o2, Bool.and_self, Bool.not_true, Bool.not_false, cond_true, cond_false] <;> rfl, by simp only [R29_0, F29_0, R37_0, sumE, F37_0_s0, he0, he1, he2, he3, d1, d2, f1, f2, f3, f4, q1, n1, n3, o1, o2, Bool.and_self, Bool.not_true, Bool.not_false, cond_true, cond_false] <;> rfl, .inr ⟨⟨_, rfl⟩, ⟨_, rfl⟩⟩⟩
          | false =>
            rw [hf] at n3 o2
            have hp := pc_of c hf
            generalize (if place z e1 = 0 then 0 else pat z (place z e1 - 1)) = A at hp
            generalize (if place z e1 = z.length then (x.length : Int) else pat z (place z e1)) = B at hp
            have hpi := piece_of c hp
            obtain ⟨g1, g2, g3⟩ := P33 c hv hp
            obtain ⟨g1', g2', g3'⟩ := P41 (rs := y) hp (by omega)
            by_cases h2 : e2 = A
            · have f5 : decide (e2 = A) = true := decide_eq_true h2
              by_cases h3 : e3 = B
              · have f6 : decide (e3 = B) = true := decide_eq_true h3
                refine .inl ⟨(done, k + 1, x, y, z, e0, e1, e2, e3, []), .inl (k + 1, x, y, z, true, e0, e1, e2, e3, done), ?_, ?_, ⟨rfl, rfl, rfl, rfl, ?_⟩, rfl, hk⟩
                · simp only [R29_0, F29_0, R37_0, sumE, F37_0_s0, he0, he1, he2, he3, d1, d2, f1, f2, f3, f4, q1, n1, n3, o1, o2, g2, g3, f5, f6, wk, Bool.and_self, Bool.not_true, Bool.not_false, cond_true, cond_false]
                · simp only [R29_0, F29_0, R37_0, sumE, F37_0_s0, he0, he1, he2, he3, d1, d2, f1, f2, f3, f4, q1, n1, n3, o1, o2, g1', g2', g3', f5, f6, wk, Bool.and_self, Bool.not_true, Bool.not_false, cond_true, cond_false]
                · subst h2 h3
                  exact ⟨by simp only; omega, by simp only; omega, c, nz, by simp only; omega, by simp only; omega, rfl, by simp only; rw [hb]; rfl, by simp only [List.length_nil]; omega, fun _ => ⟨⟨rfl, rfl, rfl, rfl⟩, ⟨hpi.a0, hpi.ab, hpi.b1⟩, hpi.cut, fun s hs => by simp at hs, N2_nil⟩⟩
              · have f6 : decide (e3 = B) = false := decide_eq_false h3
                exact .inr ⟨_, _, by simp only [R29_0, F29_0, R37_0, sumE, F37_0_s0, he0, he1, he2, he3, d1, d2, f1, f2, f3, f4, q1, n1, n3, o1, o2, g1', g2', g3', g2, g3, f5, f6, Bool.and_self, Bool.not_true, Bool.not_false, cond_true, cond_false] <;> rfl, by simp only [R29_0, F29_0, R37_0, sumE, F37_0_s0, he0, he1, he2, he3, d1, d2, f1, f2, f3, f4, q1, n1, n3, o1, o2, g1', g2', g3', g2, g3, f5, f6, Bool.and_self, Bool.not_true, Bool.not_false, cond_true, cond_false] <;> rfl, .inr ⟨⟨_, rfl⟩, ⟨_, rfl⟩⟩⟩
            · have f5 : decide (e2 = A) = false := decide_eq_false h2
              exact .inr ⟨_, _, by simp only [R29_0, F29_0, R37_0, sumE, F37_0_s0, he0, he1, he2, he3, d1, d2, f1, f2, f3, f4, q1, n1, n3, o1, o2, g1', g2', g3', g2, g3, f5, Bool.and_self, Bool.not_true, Bool.not_false, cond_true, cond_false] <;> rfl, by simp only [R29_0, F29_0, R37_0, sumE, F37_0_s0, he0, he1, he2, he3, d1, d2, f1, f2, f3, f4, q1, n1, n3, o1, o2, g1', g2', g3', g2, g3, f5, Bool.and_self, Bool.not_true, Bool.not_false, cond_true, cond_false] <;> rfl, .inr ⟨⟨_, rfl⟩, ⟨_, rfl⟩⟩⟩
        · have f3 : v28_0 e1 (-1000) 1000 = false := by
            rw [v28]
            by_cases g1 : -1000 ≤ e1
            · rw [decide_eq_true g1, decide_eq_false (show ¬ e1 ≤ 1000 by omega)]; rfl
            · rw [decide_eq_false g1]; rfl
          have f4 : v66_0 e1 = false := by rw [bound_eq, f3]
          exact .inr ⟨_, _, by simp only [R29_0, F29_0, R37_0, sumE, F37_0_s0, he0, he1, he2, he3, d1, d2, f1, f2, f3, f4, q1, n1, Bool.and_self, Bool.not_true, Bool.not_false, cond_true, cond_false] <;> rfl, by simp only [R29_0, F29_0, R37_0, sumE, F37_0_s0, he0, he1, he2, he3, d1, d2, f1, f2, f3, f4, q1, n1, Bool.and_self, Bool.not_true, Bool.not_false, cond_true, cond_false] <;> rfl, .inr ⟨⟨_, rfl⟩, ⟨_, rfl⟩⟩⟩
      · have f2 : decide (kd = 0) = false := decide_eq_false hkd
        exact .inr ⟨_, _, by simp only [R29_0, F29_0, R37_0, sumE, F37_0_s0, he0, he1, he2, he3, d1, d2, f1, f2, q1, n1, Bool.and_self, Bool.not_true, Bool.not_false, cond_true, cond_false] <;> rfl, by simp only [R29_0, F29_0, R37_0, sumE, F37_0_s0, he0, he1, he2, he3, d1, d2, f1, f2, q1, n1, Bool.and_self, Bool.not_true, Bool.not_false, cond_true, cond_false] <;> rfl, .inr ⟨⟨_, rfl⟩, ⟨_, rfl⟩⟩⟩
    · have f1 : decide (e0 = 1) = false := decide_eq_false hb
      by_cases hs : e0 = 2
      · have g1 : decide (e0 = 2) = true := decide_eq_true hs
        have q1 := q35_1 x y z e1 e2 (by omega) (by omega) hlen
        have r1 := room1 sw (AV.agg [AV.int .i64 e1, AV.int .i64 e2]) (by omega)
        by_cases hkd : kd = 0
        · have f2 : decide (kd = 0) = true := decide_eq_true hkd
          exact .inr ⟨_, _, by simp only [R29_0, F29_0, R37_0, sumE, F37_0_s0, he0, he1, he2, he3, d1, d2, f1, g1, f2, q1, r1, Bool.and_self, Bool.not_true, Bool.not_false, cond_true, cond_false] <;> rfl, by simp only [R29_0, F29_0, R37_0, sumE, F37_0_s0, he0, he1, he2, he3, d1, d2, f1, g1, f2, q1, r1, Bool.and_self, Bool.not_true, Bool.not_false, cond_true, cond_false] <;> rfl, .inr ⟨⟨_, rfl⟩, ⟨_, rfl⟩⟩⟩
        · have f2 : decide (kd = 0) = false := decide_eq_false hkd
          obtain ⟨⟨rfl, rfl, rfl, swe⟩, ⟨a0, ab, b1⟩, cut, ins, n2⟩ := st hkd
          have hok := swp_ok e1 e2 a' b' a0 ab (by omega)
          cases h1 : v28_0 e1 a' (IntKind.i64.wrap (e2 - 1)) && v28_0 e2 a' (IntKind.i64.wrap (b' - 1)) with
          | false =>
            have f8 : (∃ t, R29_0 es (done, k, x, y, z, kd, v', a', b', sw) = .stop (.inr t)) := by
              rw [Bool.and_eq_false_iff] at h1
              rcases h1 with h1 | h1
              · exact ⟨_, by simp only [R29_0, F29_0, R37_0, sumE, F37_0_s0, he0, he1, he2, he3, d1, d2, f1, g1, f2, q1, r1, h1, Bool.and_self, Bool.not_true, Bool.not_false, cond_true, cond_false] <;> rfl⟩
              · cases h1' : v28_0 e1 a' (IntKind.i64.wrap (e2 - 1)) <;>
                  exact ⟨_, by simp only [R29_0, F29_0, R37_0, sumE, F37_0_s0, he0, he1, he2, he3, d1, d2, f1, g1, f2, q1, r1, h1, h1', Bool.and_self, Bool.not_true, Bool.not_false, cond_true, cond_false] <;> rfl⟩
            have f9 : (∃ t, R37_0 es es.length (.inl (k, x, y, z, !decide (kd = 0), kd', v', a', b', done)) = .stop (.inr (.inr t))) := by
              rw [h1] at hok
              cases u1 : decide (e1 ≥ e2) with
              | true => exact ⟨_, by simp only [R29_0, F29_0, R37_0, sumE, F37_0_s0, he0, he1, he2, he3, d1, d2, f1, g1, f2, u1, Bool.and_self, Bool.not_true, Bool.not_false, cond_true, cond_false] <;> rfl⟩
              | false =>
                cases u2 : decide (e1 < a') with
                | true => exact ⟨_, by simp only [R29_0, F29_0, R37_0, sumE, F37_0_s0, he0, he1, he2, he3, d1, d2, f1, g1, f2, u1, u2, Bool.and_self, Bool.not_true, Bool.not_false, cond_true, cond_false] <;> rfl⟩
                | false =>
                  cases u3 : decide (e2 ≥ b') with
                  | true => exact ⟨_, by simp only [R29_0, F29_0, R37_0, sumE, F37_0_s0, he0, he1, he2, he3, d1, d2, f1, g1, f2, u1, u2, u3, Bool.and_self, Bool.not_true, Bool.not_false, cond_true, cond_false] <;> rfl⟩
                  | false => rw [u1, u2, u3] at hok; cases hok
            obtain ⟨t, ht⟩ := f8
            obtain ⟨t', ht'⟩ := f9
            exact .inr ⟨_, _, ht, ht', .inr ⟨⟨_, rfl⟩, ⟨_, rfl⟩⟩⟩
          | true =>
            rw [h1] at hok
            rw [Bool.and_eq_true] at h1
            obtain ⟨h1, h1'⟩ := h1
            have hok := hok.symm
            simp only [Bool.and_eq_true, Bool.not_eq_true', decide_eq_false_iff_not] at hok
            obtain ⟨u1, u2, u3⟩ := hok
            have u1' : decide (e1 ≥ e2) = false := decide_eq_false u1
            have u2' : decide (e1 < a') = false := decide_eq_false u2
            have u3' : decide (e2 ≥ b') = false := decide_eq_false u3
            have hin : inS a' b' [AV.agg [AV.int .i64 e1, AV.int .i64 e2]] := fun s hs => by
              rw [List.mem_singleton.1 hs]
              exact ⟨by show a' ≤ e1; omega, by show e1 < b'; omega, by show a' ≤ e2; omega, by show e2 < b'; omega⟩
            have hin0 : inS 0 x.length [AV.agg [AV.int .i64 e1, AV.int .i64 e2]] := fun s hs => by
              obtain ⟨w1, w2, w3, w4⟩ := hin s hs
              exact ⟨by omega, by omega, by omega, by omega⟩
            obtain ⟨A1, A2, A3, A4, A5⟩ := P35 x y z [AV.agg [AV.int .i64 e1, AV.int .i64 e2]] (by omega) (by omega) hlen (by simp) hin0
            obtain ⟨B1, B2, B3, B4, B5⟩ := P43 x y z [AV.agg [AV.int .i64 e1, AV.int .i64 e2]] (by omega) (by omega) hlen (by simp) hin0
            have hc' := Col.swaps a0 cut [AV.agg [AV.int .i64 e1, AV.int .i64 e2]] x y c b1 hin
            have lx := appS_len [AV.agg [AV.int .i64 e1, AV.int .i64 e2]] x
            by_cases h3 : e3 = 0
            · have f6 : decide (e3 = 0) = true := decide_eq_true h3
              have r2 := room0 (AV.agg [AV.int .i64 e1, AV.int .i64 e2])
              refine .inl ⟨(done, k + 1, v35_0 x y z [AV.agg [AV.int .i64 e1, AV.int .i64 e2]], v35_1 x y z [AV.agg [AV.int .i64 e1, AV.int .i64 e2]], v35_2 x y z [AV.agg [AV.int .i64 e1, AV.int .i64 e2]], kd, v', a', b', sw ++ [AV.agg [AV.int .i64 e1, AV.int .i64 e2]]), .inr (k + 1, v43_0 x y z [AV.agg [AV.int .i64 e1, AV.int .i64 e2]], v43_1 x y z [AV.agg [AV.int .i64 e1, AV.int .i64 e2]], v43_2 x y z [AV.agg [AV.int .i64 e1, AV.int .i64 e2]], true, kd', v', a', b', done, [AV.agg [AV.int .i64 e1, AV.int .i64 e2]]), ?_, ?_, ⟨rfl, by rw [A2, B2], by rw [A3, B3], by rw [A4, B4], ?_⟩, rfl, hk⟩
              · simp only [R29_0, F29_0, R37_0, sumE, F37_0_s0, he0, he1, he2, he3, d1, d2, f1, g1, f2, q1, r1, h1, h1', f6, wk, Bool.and_self, Bool.not_true, Bool.not_false, cond_true, cond_false]
              · simp only [R29_0, F29_0, R37_0, sumE, F37_0_s0, he0, he1, he2, he3, d1, d2, f1, g1, f2, u1', u2', u3', B1, B5, r2, f6, wk, Bool.and_self, Bool.not_true, Bool.not_false, cond_true, cond_false]
              · simp only [A2, A3, A4]
                refine ⟨by omega, by omega, hc', nz, by omega, by omega, rfl, by rw [f2]; rfl, by simp only [List.length_append, List.length_singleton]; omega, fun _ => ⟨⟨rfl, rfl, rfl, ?_⟩, ⟨a0, ab, by omega⟩, cut, ?_, ?_⟩⟩
                · rw [← swe]; rfl
                · intro s hs
                  rcases List.mem_append.1 hs with hs | hs
                  · exact ins s hs
                  · exact hin s hs
                · intro s hs
                  rcases List.mem_append.1 hs with hs | hs
                  · exact n2 s hs
                  · rw [List.mem_singleton.1 hs]
                    rfl
            · have f6 : decide (e3 = 0) = false := decide_eq_false h3
              exact .inr ⟨_, _, by simp only [R29_0, F29_0, R37_0, sumE, F37_0_s0, he0, he1, he2, he3, d1, d2, f1, g1, f2, q1, r1, h1, h1', u1', u2', u3', f6, Bool.and_self, Bool.not_true, Bool.not_false, cond_true, cond_false] <;> rfl, by simp only [R29_0, F29_0, R37_0, sumE, F37_0_s0, he0, he1, he2, he3, d1, d2, f1, g1, f2, q1, r1, h1, h1', u1', u2', u3', f6, Bool.and_self, Bool.not_true, Bool.not_false, cond_true, cond_false] <;> rfl, .inr ⟨⟨_, rfl⟩, ⟨_, rfl⟩⟩⟩
      · have g1 : decide (e0 = 2) = false := decide_eq_false hs
        by_cases he : e0 = 3
        · have g2 : decide (e0 = 3) = true := decide_eq_true he
          obtain ⟨A1, A2, A3, A4, A5⟩ := P36 x y z e1 e2 (by omega) (by omega) (by omega) nz
          obtain ⟨B1, B2, B3, B4, B5⟩ := P67 x y z e1 e2 (by omega) (by omega) (by omega)
          by_cases hkd : kd = 0
          · have f2 : decide (kd = 0) = true := decide_eq_true hkd
            exact .inr ⟨_, _, by simp only [R29_0, F29_0, R37_0, sumE, F37_0_s0, he0, he1, he2, he3, d1, d2, f1, g1, g2, f2, A1, Bool.and_self, Bool.not_true, Bool.not_false, cond_true, cond_false] <;> rfl, by simp only [R29_0, F29_0, R37_0, sumE, F37_0_s0, he0, he1, he2, he3, d1, d2, f1, g1, g2, f2, A1, Bool.and_self, Bool.not_true, Bool.not_false, cond_true, cond_false] <;> rfl, .inr ⟨⟨_, rfl⟩, ⟨_, rfl⟩⟩⟩
          · have f2 : decide (kd = 0) = false := decide_eq_false hkd
            obtain ⟨⟨rfl, rfl, rfl, swe⟩, _⟩ := st hkd
            by_cases hv : v' = e1
            · have f3 : decide (v' = e1) = true := decide_eq_true hv
              cases hc : isC x y z && isC x y (insP z e1 e2) with
              | false =>
                rw [hc] at A5 B5
                cases f6 : decide (e3 = 0) with
                | true =>
                  exact .inr ⟨_, _, by simp only [R29_0, F29_0, R37_0, sumE, F37_0_s0, he0, he1, he2, he3, d1, d2, f1, g1, g2, f2, f3, A1, A5, B1, B5, f6, Bool.and_self, Bool.not_true, Bool.not_false, cond_true, cond_false] <;> rfl, by simp only [R29_0, F29_0, R37_0, sumE, F37_0_s0, he0, he1, he2, he3, d1, d2, f1, g1, g2, f2, f3, A1, A5, B1, B5, f6, Bool.and_self, Bool.not_true, Bool.not_false, cond_true, cond_false] <;> rfl, .inr ⟨⟨_, rfl⟩, ⟨_, rfl⟩⟩⟩
                | false =>
                  exact .inr ⟨_, _, by simp only [R29_0, F29_0, R37_0, sumE, F37_0_s0, he0, he1, he2, he3, d1, d2, f1, g1, g2, f2, f3, A1, A5, B1, B5, f6, Bool.and_self, Bool.not_true, Bool.not_false, cond_true, cond_false] <;> rfl, by simp only [R29_0, F29_0, R37_0, sumE, F37_0_s0, he0, he1, he2, he3, d1, d2, f1, g1, g2, f2, f3, A1, A5, B1, B5, f6, Bool.and_self, Bool.not_true, Bool.not_false, cond_true, cond_false] <;> rfl, .inr ⟨⟨_, rfl⟩, ⟨_, rfl⟩⟩⟩
              | true =>
                rw [hc] at A4 A5 B4 B5
                rw [Bool.and_eq_true] at hc
                have hcol := (isC_iff x y (insP z e1 e2) (by omega)).1 hc.2
                by_cases h3 : e3 = 0
                · have f6 : decide (e3 = 0) = true := decide_eq_true h3
                  have wd : IntKind.i64.wrap (done + 1) = done + 1 := wrap_in (by omega) (by omega)
                  refine .inl ⟨(done + 1, k + 1, x, y, insP z e1 e2, 0, 0, 0, 0, sw), .inl (k + 1, x, y, insP z e1 e2, false, kd', v', a', b', done + 1), ?_, ?_, ⟨rfl, rfl, rfl, rfl, ?_⟩, rfl, hk⟩
                  · simp only [R29_0, F29_0, R37_0, sumE, F37_0_s0, he0, he1, he2, he3, d1, d2, f1, g1, g2, f2, f3, A1, A2, A3, A4, A5, f6, wk, wd, Bool.and_self, Bool.not_true, Bool.not_false, cond_true, cond_false]
                  · simp only [R29_0, F29_0, R37_0, sumE, F37_0_s0, he0, he1, he2, he3, d1, d2, f1, g1, g2, f2, f3, B1, B2, B3, B4, B5, f6, wk, wd, Bool.and_self, Bool.not_true, Bool.not_false, cond_true, cond_false]
                  · exact ⟨by simp only; omega, by simp only; omega, hcol, insP_N2 nz e1 e2, by simp only; omega, by simp only; omega, rfl, rfl, by simp only; omega, fun h => absurd rfl h⟩
                · have f6 : decide (e3 = 0) = false := decide_eq_false h3
                  exact .inr ⟨_, _, by simp only [R29_0, F29_0, R37_0, sumE, F37_0_s0, he0, he1, he2, he3, d1, d2, f1, g1, g2, f2, f3, A1, A5, f6, Bool.and_self, Bool.not_true, Bool.not_false, cond_true, cond_false] <;> rfl, by simp only [R29_0, F29_0, R37_0, sumE, F37_0_s0, he0, he1, he2, he3, d1, d2, f1, g1, g2, f2, f3, A1, A5, f6, Bool.and_self, Bool.not_true, Bool.not_false, cond_true, cond_false] <;> rfl, .inr ⟨⟨_, rfl⟩, ⟨_, rfl⟩⟩⟩
            · have f3 : decide (v' = e1) = false := decide_eq_false hv
              exact .inr ⟨_, _, by simp only [R29_0, F29_0, R37_0, sumE, F37_0_s0, he0, he1, he2, he3, d1, d2, f1, g1, g2, f2, f3, A1, Bool.and_self, Bool.not_true, Bool.not_false, cond_true, cond_false] <;> rfl, by simp only [R29_0, F29_0, R37_0, sumE, F37_0_s0, he0, he1, he2, he3, d1, d2, f1, g1, g2, f2, f3, A1, Bool.and_self, Bool.not_true, Bool.not_false, cond_true, cond_false] <;> rfl, .inr ⟨⟨_, rfl⟩, ⟨_, rfl⟩⟩⟩
        · have g2 : decide (e0 = 3) = false := decide_eq_false he
          exact .inr ⟨_, _, by simp only [R29_0, F29_0, R37_0, sumE, F37_0_s0, he0, he1, he2, he3, d1, d2, f1, g1, g2, Bool.and_self, Bool.not_true, Bool.not_false, cond_true, cond_false] <;> rfl, by simp only [R29_0, F29_0, R37_0, sumE, F37_0_s0, he0, he1, he2, he3, d1, d2, f1, g1, g2, Bool.and_self, Bool.not_true, Bool.not_false, cond_true, cond_false] <;> rfl, .inr ⟨⟨_, rfl⟩, ⟨_, rfl⟩⟩⟩
  · have d1 : decide (k < (es.length : Int)) = false := decide_eq_false hk
    exact .inr ⟨_, _, by simp only [R29_0, F29_0, d1, cond_false] <;> rfl, by simp only [R37_0, sumE, F37_0_s0, d1, cond_false] <;> rfl, .inl ⟨rfl, rfl⟩⟩
theorem stepRep1 (es : List AV) (hes : es.length ≤ 1048576) (done k : Int) (x y z : List AV) (kd v a b : Int) (sw : List AV) (op : Bool) (kd' v' a' b' ends : Int) (w : List AV) (h : RI es.length done k x y z kd v a b sw op v' a' b' ends w) :
    (∃ s s', R29_0 es (done, k, x, y, z, kd, v, a, b, sw) = .next s ∧ R37_0 es es.length (.inr (k, x, y, z, op, kd', v', a', b', ends, w)) = .next s' ∧ RepI es.length s s' ∧ s.2.1 = k + 1 ∧ k < es.length) ∨
    (∃ r r', R29_0 es (done, k, x, y, z, kd, v, a, b, sw) = .stop r ∧ R37_0 es es.length (.inr (k, x, y, z, op, kd', v', a', b', ends, w)) = .stop r' ∧ ((r = .inl (done, x, y, z, kd, v, a, b, sw) ∧ r' = .inr (.inl (x, y, z, op, kd', v', a', b', ends, w))) ∨ ((∃ t, r = .inr t) ∧ ∃ t, r' = .inr (.inr t)))) := by
  obtain ⟨k0, k1, c, nz, dd0, dd1, rfl, rfl, sl, st⟩ := h
  have hn := c.n64
  have hlen := c.len
  have hfew := col_few c
  by_cases hk : k < es.length
  · have d1 : decide (k < (es.length : Int)) = true := decide_eq_true hk
    have d2 : decide (0 ≤ k) = true := decide_eq_true k0
    have wk : IntKind.i64.wrap (k + 1) = k + 1 := wrap_in (by omega) (by omega)
    generalize he0 : fI (es.getD k.toNat AV.undef) 0 = e0
    generalize he1 : fI (es.getD k.toNat AV.undef) 1 = e1
    generalize he2 : fI (es.getD k.toNat AV.undef) 2 = e2
    generalize he3 : fI (es.getD k.toNat AV.undef) 3 = e3
    by_cases hb : e0 = 1
    · have f1 : decide (e0 = 1) = true := decide_eq_true hb
      have q1 := q33_all c e1
      obtain ⟨n1, n2, n3⟩ := P32 x y z e1 (by omega)
      obtain ⟨o1, o2⟩ := P39 x y z e1 (by omega)
      by_cases hkd : kd = 0
      · have f2 : decide (kd = 0) = true := decide_eq_true hkd
        by_cases hv : -1000 ≤ e1 ∧ e1 ≤ 1000
        · have f3 := bound_of hv
          have f4 : v66_0 e1 = true := by rw [bound_eq, f3]
          cases hf : (findP z e1).isSome with
          | true =>
            rw [hf] at n3 o2
            exact .inr ⟨_, _, by simp only [R29_0, F29_0, R37_0, sumE, F37_0_s1, he0, he1, he2, he3, d1, d2, f1, f2, f3, f4, q1, n1, n3, o1, o2, Bool.and_self, Bool.not_true, Bool.not_false, cond_true, cond_false] <;> rfl, by simp only [R29_0, F29_0, R37_0, sumE, F37_0_s1, he0, he1, he2, he3, d1, d2, f1, f2, f3, f4, q1, n1, n3, o1, o2, Bool.and_self, Bool.not_true, Bool.not_false, cond_true, cond_false] <;> rfl, .inr ⟨⟨_, rfl⟩, ⟨_, rfl⟩⟩⟩
          | false =>
            rw [hf] at n3 o2
            have hp := pc_of c hf
            generalize (if place z e1 = 0 then 0 else pat z (place z e1 - 1)) = A at hp
            generalize (if place z e1 = z.length then (x.length : Int) else pat z (place z e1)) = B at hp
            have hpi := piece_of c hp
            obtain ⟨g1, g2, g3⟩ := P33 c hv hp
            obtain ⟨g1', g2', g3'⟩ := P41 (rs := y) hp (by omega)
            by_cases h2 : e2 = A
            · have f5 : decide (e2 = A) = true := decide_eq_true h2
              by_cases h3 : e3 = B
              · have f6 : decide (e3 = B) = true := decide_eq_true h3
                refine .inl ⟨(done, k + 1, x, y, z, e0, e1, e2, e3, []), .inl (k + 1, x, y, z, true, e0, e1, e2, e3, done), ?_, ?_, ⟨rfl, rfl, rfl, rfl, ?_⟩, rfl, hk⟩
                · simp only [R29_0, F29_0, R37_0, sumE, F37_0_s1, he0, he1, he2, he3, d1, d2, f1, f2, f3, f4, q1, n1, n3, o1, o2, g2, g3, f5, f6, wk, Bool.and_self, Bool.not_true, Bool.not_false, cond_true, cond_false]
                · simp only [R29_0, F29_0, R37_0, sumE, F37_0_s1, he0, he1, he2, he3, d1, d2, f1, f2, f3, f4, q1, n1, n3, o1, o2, g1', g2', g3', f5, f6, wk, Bool.and_self, Bool.not_true, Bool.not_false, cond_true, cond_false]
                · subst h2 h3
                  exact ⟨by simp only; omega, by simp only; omega, c, nz, by simp only; omega, by simp only; omega, rfl, by simp only; rw [hb]; rfl, by simp only [List.length_nil]; omega, fun _ => ⟨⟨rfl, rfl, rfl, rfl⟩, ⟨hpi.a0, hpi.ab, hpi.b1⟩, hpi.cut, fun s hs => by simp at hs, N2_nil⟩⟩
              · have f6 : decide (e3 = B) = false := decide_eq_false h3
                exact .inr ⟨_, _, by simp only [R29_0, F29_0, R37_0, sumE, F37_0_s1, he0, he1, he2, he3, d1, d2, f1, f2, f3, f4, q1, n1, n3, o1, o2, g1', g2', g3', g2, g3, f5, f6, Bool.and_self, Bool.not_true, Bool.not_false, cond_true, cond_false] <;> rfl, by simp only [R29_0, F29_0, R37_0, sumE, F37_0_s1, he0, he1, he2, he3, d1, d2, f1, f2, f3, f4, q1, n1, n3, o1, o2, g1', g2', g3', g2, g3, f5, f6, Bool.and_self, Bool.not_true, Bool.not_false, cond_true, cond_false] <;> rfl, .inr ⟨⟨_, rfl⟩, ⟨_, rfl⟩⟩⟩
            · have f5 : decide (e2 = A) = false := decide_eq_false h2
              exact .inr ⟨_, _, by simp only [R29_0, F29_0, R37_0, sumE, F37_0_s1, he0, he1, he2, he3, d1, d2, f1, f2, f3, f4, q1, n1, n3, o1, o2, g1', g2', g3', g2, g3, f5, Bool.and_self, Bool.not_true, Bool.not_false, cond_true, cond_false] <;> rfl, by simp only [R29_0, F29_0, R37_0, sumE, F37_0_s1, he0, he1, he2, he3, d1, d2, f1, f2, f3, f4, q1, n1, n3, o1, o2, g1', g2', g3', g2, g3, f5, Bool.and_self, Bool.not_true, Bool.not_false, cond_true, cond_false] <;> rfl, .inr ⟨⟨_, rfl⟩, ⟨_, rfl⟩⟩⟩
        · have f3 : v28_0 e1 (-1000) 1000 = false := by
            rw [v28]
            by_cases g1 : -1000 ≤ e1
            · rw [decide_eq_true g1, decide_eq_false (show ¬ e1 ≤ 1000 by omega)]; rfl
            · rw [decide_eq_false g1]; rfl
          have f4 : v66_0 e1 = false := by rw [bound_eq, f3]
          exact .inr ⟨_, _, by simp only [R29_0, F29_0, R37_0, sumE, F37_0_s1, he0, he1, he2, he3, d1, d2, f1, f2, f3, f4, q1, n1, Bool.and_self, Bool.not_true, Bool.not_false, cond_true, cond_false] <;> rfl, by simp only [R29_0, F29_0, R37_0, sumE, F37_0_s1, he0, he1, he2, he3, d1, d2, f1, f2, f3, f4, q1, n1, Bool.and_self, Bool.not_true, Bool.not_false, cond_true, cond_false] <;> rfl, .inr ⟨⟨_, rfl⟩, ⟨_, rfl⟩⟩⟩
      · have f2 : decide (kd = 0) = false := decide_eq_false hkd
        exact .inr ⟨_, _, by simp only [R29_0, F29_0, R37_0, sumE, F37_0_s1, he0, he1, he2, he3, d1, d2, f1, f2, q1, n1, Bool.and_self, Bool.not_true, Bool.not_false, cond_true, cond_false] <;> rfl, by simp only [R29_0, F29_0, R37_0, sumE, F37_0_s1, he0, he1, he2, he3, d1, d2, f1, f2, q1, n1, Bool.and_self, Bool.not_true, Bool.not_false, cond_true, cond_false] <;> rfl, .inr ⟨⟨_, rfl⟩, ⟨_, rfl⟩⟩⟩
    · have f1 : decide (e0 = 1) = false := decide_eq_false hb
      by_cases hs : e0 = 2
      · have g1 : decide (e0 = 2) = true := decide_eq_true hs
        have q1 := q35_1 x y z e1 e2 (by omega) (by omega) hlen
        have r1 := room1 sw (AV.agg [AV.int .i64 e1, AV.int .i64 e2]) (by omega)
        by_cases hkd : kd = 0
        · have f2 : decide (kd = 0) = true := decide_eq_true hkd
          exact .inr ⟨_, _, by simp only [R29_0, F29_0, R37_0, sumE, F37_0_s1, he0, he1, he2, he3, d1, d2, f1, g1, f2, q1, r1, Bool.and_self, Bool.not_true, Bool.not_false, cond_true, cond_false] <;> rfl, by simp only [R29_0, F29_0, R37_0, sumE, F37_0_s1, he0, he1, he2, he3, d1, d2, f1, g1, f2, q1, r1, Bool.and_self, Bool.not_true, Bool.not_false, cond_true, cond_false] <;> rfl, .inr ⟨⟨_, rfl⟩, ⟨_, rfl⟩⟩⟩
        · have f2 : decide (kd = 0) = false := decide_eq_false hkd
          obtain ⟨⟨rfl, rfl, rfl, swe⟩, ⟨a0, ab, b1⟩, cut, ins, n2⟩ := st hkd
          have hok := swp_ok e1 e2 a' b' a0 ab (by omega)
          cases h1 : v28_0 e1 a' (IntKind.i64.wrap (e2 - 1)) && v28_0 e2 a' (IntKind.i64.wrap (b' - 1)) with
          | false =>
            have f8 : (∃ t, R29_0 es (done, k, x, y, z, kd, v', a', b', sw) = .stop (.inr t)) := by
              rw [Bool.and_eq_false_iff] at h1
              rcases h1 with h1 | h1
              · exact ⟨_, by simp only [R29_0, F29_0, R37_0, sumE, F37_0_s1, he0, he1, he2, he3, d1, d2, f1, g1, f2, q1, r1, h1, Bool.and_self, Bool.not_true, Bool.not_false, cond_true, cond_false] <;> rfl⟩
              · cases h1' : v28_0 e1 a' (IntKind.i64.wrap (e2 - 1)) <;>
                  exact ⟨_, by simp only [R29_0, F29_0, R37_0, sumE, F37_0_s1, he0, he1, he2, he3, d1, d2, f1, g1, f2, q1, r1, h1, h1', Bool.and_self, Bool.not_true, Bool.not_false, cond_true, cond_false] <;> rfl⟩
            have f9 : (∃ t, R37_0 es es.length (.inr (k, x, y, z, !decide (kd = 0), kd', v', a', b', done, w)) = .stop (.inr (.inr t))) := by
              rw [h1] at hok
              cases u1 : decide (e1 ≥ e2) with
              | true => exact ⟨_, by simp only [R29_0, F29_0, R37_0, sumE, F37_0_s1, he0, he1, he2, he3, d1, d2, f1, g1, f2, u1, Bool.and_self, Bool.not_true, Bool.not_false, cond_true, cond_false] <;> rfl⟩
              | false =>
                cases u2 : decide (e1 < a') with
                | true => exact ⟨_, by simp only [R29_0, F29_0, R37_0, sumE, F37_0_s1, he0, he1, he2, he3, d1, d2, f1, g1, f2, u1, u2, Bool.and_self, Bool.not_true, Bool.not_false, cond_true, cond_false] <;> rfl⟩
                | false =>
                  cases u3 : decide (e2 ≥ b') with
                  | true => exact ⟨_, by simp only [R29_0, F29_0, R37_0, sumE, F37_0_s1, he0, he1, he2, he3, d1, d2, f1, g1, f2, u1, u2, u3, Bool.and_self, Bool.not_true, Bool.not_false, cond_true, cond_false] <;> rfl⟩
                  | false => rw [u1, u2, u3] at hok; cases hok
            obtain ⟨t, ht⟩ := f8
            obtain ⟨t', ht'⟩ := f9
            exact .inr ⟨_, _, ht, ht', .inr ⟨⟨_, rfl⟩, ⟨_, rfl⟩⟩⟩
          | true =>
            rw [h1] at hok
            rw [Bool.and_eq_true] at h1
            obtain ⟨h1, h1'⟩ := h1
            have hok := hok.symm
            simp only [Bool.and_eq_true, Bool.not_eq_true', decide_eq_false_iff_not] at hok
            obtain ⟨u1, u2, u3⟩ := hok
            have u1' : decide (e1 ≥ e2) = false := decide_eq_false u1
            have u2' : decide (e1 < a') = false := decide_eq_false u2
            have u3' : decide (e2 ≥ b') = false := decide_eq_false u3
            have hin : inS a' b' [AV.agg [AV.int .i64 e1, AV.int .i64 e2]] := fun s hs => by
              rw [List.mem_singleton.1 hs]
              exact ⟨by show a' ≤ e1; omega, by show e1 < b'; omega, by show a' ≤ e2; omega, by show e2 < b'; omega⟩
            have hin0 : inS 0 x.length [AV.agg [AV.int .i64 e1, AV.int .i64 e2]] := fun s hs => by
              obtain ⟨w1, w2, w3, w4⟩ := hin s hs
              exact ⟨by omega, by omega, by omega, by omega⟩
            obtain ⟨A1, A2, A3, A4, A5⟩ := P35 x y z [AV.agg [AV.int .i64 e1, AV.int .i64 e2]] (by omega) (by omega) hlen (by simp) hin0
            obtain ⟨B1, B2, B3, B4, B5⟩ := P43 x y z [AV.agg [AV.int .i64 e1, AV.int .i64 e2]] (by omega) (by omega) hlen (by simp) hin0
            have hc' := Col.swaps a0 cut [AV.agg [AV.int .i64 e1, AV.int .i64 e2]] x y c b1 hin
            have lx := appS_len [AV.agg [AV.int .i64 e1, AV.int .i64 e2]] x
            by_cases h3 : e3 = 0
            · have f6 : decide (e3 = 0) = true := decide_eq_true h3
              have r2 := room1 w (AV.agg [AV.int .i64 e1, AV.int .i64 e2]) (by rw [swe]; omega)
              refine .inl ⟨(done, k + 1, v35_0 x y z [AV.agg [AV.int .i64 e1, AV.int .i64 e2]], v35_1 x y z [AV.agg [AV.int .i64 e1, AV.int .i64 e2]], v35_2 x y z [AV.agg [AV.int .i64 e1, AV.int .i64 e2]], kd, v', a', b', sw ++ [AV.agg [AV.int .i64 e1, AV.int .i64 e2]]), .inr (k + 1, v43_0 x y z [AV.agg [AV.int .i64 e1, AV.int .i64 e2]], v43_1 x y z [AV.agg [AV.int .i64 e1, AV.int .i64 e2]], v43_2 x y z [AV.agg [AV.int .i64 e1, AV.int .i64 e2]], true, kd', v', a', b', done, w ++ [AV.agg [AV.int .i64 e1, AV.int .i64 e2]]), ?_, ?_, ⟨rfl, by rw [A2, B2], by rw [A3, B3], by rw [A4, B4], ?_⟩, rfl, hk⟩
              · simp only [R29_0, F29_0, R37_0, sumE, F37_0_s1, he0, he1, he2, he3, d1, d2, f1, g1, f2, q1, r1, h1, h1', f6, wk, Bool.and_self, Bool.not_true, Bool.not_false, cond_true, cond_false]
              · simp only [R29_0, F29_0, R37_0, sumE, F37_0_s1, he0, he1, he2, he3, d1, d2, f1, g1, f2, u1', u2', u3', B1, B5, r2, f6, wk, Bool.and_self, Bool.not_true, Bool.not_false, cond_true, cond_false]
              · simp only [A2, A3, A4]
                refine ⟨by omega, by omega, hc', nz, by omega, by omega, rfl, by rw [f2]; rfl, by simp only [List.length_append, List.length_singleton]; omega, fun _ => ⟨⟨rfl, rfl, rfl, ?_⟩, ⟨a0, ab, by omega⟩, cut, ?_, ?_⟩⟩
                · rw [swe]
                · intro s hs
                  rcases List.mem_append.1 hs with hs | hs
                  · exact ins s hs
                  · exact hin s hs
                · intro s hs
                  rcases List.mem_append.1 hs with hs | hs
                  · exact n2 s hs
                  · rw [List.mem_singleton.1 hs]
                    rfl
            · have f6 : decide (e3 = 0) = false := decide_eq_false h3
              exact .inr ⟨_, _, by simp only [R29_0, F29_0, R37_0, sumE, F37_0_s1, he0, he1, he2, he3, d1, d2, f1, g1, f2, q1, r1, h1, h1', u1', u2', u3', f6, Bool.and_self, Bool.not_true, Bool.not_false, cond_true, cond_false] <;> rfl, by simp only [R29_0, F29_0, R37_0, sumE, F37_0_s1, he0, he1, he2, he3, d1, d2, f1, g1, f2, q1, r1, h1, h1', u1', u2', u3', f6, Bool.and_self, Bool.not_true, Bool.not_false, cond_true, cond_false] <;> rfl, .inr ⟨⟨_, rfl⟩, ⟨_, rfl⟩⟩⟩
      · have g1 : decide (e0 = 2) = false := decide_eq_false hs
        by_cases he : e0 = 3
        · have g2 : decide (e0 = 3) = true := decide_eq_true he
          obtain ⟨A1, A2, A3, A4, A5⟩ := P36 x y z e1 e2 (by omega) (by omega) (by omega) nz
          obtain ⟨B1, B2, B3, B4, B5⟩ := P67 x y z e1 e2 (by omega) (by omega) (by omega)
          by_cases hkd : kd = 0
          · have f2 : decide (kd = 0) = true := decide_eq_true hkd
            exact .inr ⟨_, _, by simp only [R29_0, F29_0, R37_0, sumE, F37_0_s1, he0, he1, he2, he3, d1, d2, f1, g1, g2, f2, A1, Bool.and_self, Bool.not_true, Bool.not_false, cond_true, cond_false] <;> rfl, by simp only [R29_0, F29_0, R37_0, sumE, F37_0_s1, he0, he1, he2, he3, d1, d2, f1, g1, g2, f2, A1, Bool.and_self, Bool.not_true, Bool.not_false, cond_true, cond_false] <;> rfl, .inr ⟨⟨_, rfl⟩, ⟨_, rfl⟩⟩⟩
          · have f2 : decide (kd = 0) = false := decide_eq_false hkd
            obtain ⟨⟨rfl, rfl, rfl, swe⟩, _⟩ := st hkd
            by_cases hv : v' = e1
            · have f3 : decide (v' = e1) = true := decide_eq_true hv
              cases hc : isC x y z && isC x y (insP z e1 e2) with
              | false =>
                rw [hc] at A5 B5
                cases f6 : decide (e3 = 0) with
                | true =>
                  exact .inr ⟨_, _, by simp only [R29_0, F29_0, R37_0, sumE, F37_0_s1, he0, he1, he2, he3, d1, d2, f1, g1, g2, f2, f3, A1, A5, B1, B5, f6, Bool.and_self, Bool.not_true, Bool.not_false, cond_true, cond_false] <;> rfl, by simp only [R29_0, F29_0, R37_0, sumE, F37_0_s1, he0, he1, he2, he3, d1, d2, f1, g1, g2, f2, f3, A1, A5, B1, B5, f6, Bool.and_self, Bool.not_true, Bool.not_false, cond_true, cond_false] <;> rfl, .inr ⟨⟨_, rfl⟩, ⟨_, rfl⟩⟩⟩
                | false =>
                  exact .inr ⟨_, _, by simp only [R29_0, F29_0, R37_0, sumE, F37_0_s1, he0, he1, he2, he3, d1, d2, f1, g1, g2, f2, f3, A1, A5, B1, B5, f6, Bool.and_self, Bool.not_true, Bool.not_false, cond_true, cond_false] <;> rfl, by simp only [R29_0, F29_0, R37_0, sumE, F37_0_s1, he0, he1, he2, he3, d1, d2, f1, g1, g2, f2, f3, A1, A5, B1, B5, f6, Bool.and_self, Bool.not_true, Bool.not_false, cond_true, cond_false] <;> rfl, .inr ⟨⟨_, rfl⟩, ⟨_, rfl⟩⟩⟩
              | true =>
                rw [hc] at A4 A5 B4 B5
                rw [Bool.and_eq_true] at hc
                have hcol := (isC_iff x y (insP z e1 e2) (by omega)).1 hc.2
                by_cases h3 : e3 = 0
                · have f6 : decide (e3 = 0) = true := decide_eq_true h3
                  have wd : IntKind.i64.wrap (done + 1) = done + 1 := wrap_in (by omega) (by omega)
                  refine .inl ⟨(done + 1, k + 1, x, y, insP z e1 e2, 0, 0, 0, 0, sw), .inr (k + 1, x, y, insP z e1 e2, false, kd', v', a', b', done + 1, w), ?_, ?_, ⟨rfl, rfl, rfl, rfl, ?_⟩, rfl, hk⟩
                  · simp only [R29_0, F29_0, R37_0, sumE, F37_0_s1, he0, he1, he2, he3, d1, d2, f1, g1, g2, f2, f3, A1, A2, A3, A4, A5, f6, wk, wd, Bool.and_self, Bool.not_true, Bool.not_false, cond_true, cond_false]
                  · simp only [R29_0, F29_0, R37_0, sumE, F37_0_s1, he0, he1, he2, he3, d1, d2, f1, g1, g2, f2, f3, B1, B2, B3, B4, B5, f6, wk, wd, Bool.and_self, Bool.not_true, Bool.not_false, cond_true, cond_false]
                  · exact ⟨by simp only; omega, by simp only; omega, hcol, insP_N2 nz e1 e2, by simp only; omega, by simp only; omega, rfl, rfl, by simp only; omega, fun h => absurd rfl h⟩
                · have f6 : decide (e3 = 0) = false := decide_eq_false h3
                  exact .inr ⟨_, _, by simp only [R29_0, F29_0, R37_0, sumE, F37_0_s1, he0, he1, he2, he3, d1, d2, f1, g1, g2, f2, f3, A1, A5, f6, Bool.and_self, Bool.not_true, Bool.not_false, cond_true, cond_false] <;> rfl, by simp only [R29_0, F29_0, R37_0, sumE, F37_0_s1, he0, he1, he2, he3, d1, d2, f1, g1, g2, f2, f3, A1, A5, f6, Bool.and_self, Bool.not_true, Bool.not_false, cond_true, cond_false] <;> rfl, .inr ⟨⟨_, rfl⟩, ⟨_, rfl⟩⟩⟩
            · have f3 : decide (v' = e1) = false := decide_eq_false hv
              exact .inr ⟨_, _, by simp only [R29_0, F29_0, R37_0, sumE, F37_0_s1, he0, he1, he2, he3, d1, d2, f1, g1, g2, f2, f3, A1, Bool.and_self, Bool.not_true, Bool.not_false, cond_true, cond_false] <;> rfl, by simp only [R29_0, F29_0, R37_0, sumE, F37_0_s1, he0, he1, he2, he3, d1, d2, f1, g1, g2, f2, f3, A1, Bool.and_self, Bool.not_true, Bool.not_false, cond_true, cond_false] <;> rfl, .inr ⟨⟨_, rfl⟩, ⟨_, rfl⟩⟩⟩
        · have g2 : decide (e0 = 3) = false := decide_eq_false he
          exact .inr ⟨_, _, by simp only [R29_0, F29_0, R37_0, sumE, F37_0_s1, he0, he1, he2, he3, d1, d2, f1, g1, g2, Bool.and_self, Bool.not_true, Bool.not_false, cond_true, cond_false] <;> rfl, by simp only [R29_0, F29_0, R37_0, sumE, F37_0_s1, he0, he1, he2, he3, d1, d2, f1, g1, g2, Bool.and_self, Bool.not_true, Bool.not_false, cond_true, cond_false] <;> rfl, .inr ⟨⟨_, rfl⟩, ⟨_, rfl⟩⟩⟩
  · have d1 : decide (k < (es.length : Int)) = false := decide_eq_false hk
    exact .inr ⟨_, _, by simp only [R29_0, F29_0, d1, cond_false] <;> rfl, by simp only [R37_0, sumE, F37_0_s1, d1, cond_false] <;> rfl, .inl ⟨rfl, rfl⟩⟩
/-- What a replay ends with. -/
structure RepE (m : Nat) (x y z : List AV) (done : Int) (kd : Int) (sw : List AV) (op : Bool) (ends : Int) (sw' : List AV) : Prop where
  c : Col x y z
  en : ends = done
  op_ : op = !decide (kd = 0)
  nz : N2 z
  st : kd ≠ 0 → sw' = sw ∧ (∃ a b : Int, 0 ≤ a ∧ b ≤ x.length ∧ (∀ p : Int, 0 ≤ p → p < z.length → pat z p ≤ a ∨ b ≤ pat z p) ∧ inS a b sw) ∧ N2 sw ∧ sw.length ≤ m
theorem RI.e {m : Nat} {done k : Int} {x y z : List AV} {kd v a b : Int} {sw : List AV} {op : Bool} {v' a' b' ends : Int} {sw' : List AV} (h : RI m done k x y z kd v a b sw op v' a' b' ends sw') : RepE m x y z done kd sw op ends sw' :=
  ⟨h.c, h.en.symm, h.op_, h.nz, fun hk => by obtain ⟨⟨_, _, _, e⟩, ⟨f1, f2, f3⟩, f4, e2, e3⟩ := h.st hk; exact ⟨e, ⟨_, _, f1, f3, f4, e2⟩, e3, by have := h.sl; have := h.k1; omega⟩⟩
abbrev RR := (Int × List AV × List AV × List AV × Int × Int × Int × Int × List AV) ⊕ (List AV × List AV × List AV × Int × Int × Int × Int × List AV × Int × Int × Int × Int) ⊕ (List AV × List AV × List AV × List AV × Int × Int × Int × Int × List AV × Int × Int × Int × Int × List AV × List AV × List AV × List AV) ⊕ (List AV × List AV × List AV × List AV × List AV × List AV × Int × Int × Int × Int × List AV) ⊕ (List AV × List AV × List AV × Int × Int × Int × Int × List AV × Int × Int × Int × Int)
abbrev RR' := (List AV × List AV × List AV × Bool × Int × Int × Int × Int × Int) ⊕ (List AV × List AV × List AV × Bool × Int × Int × Int × Int × Int × List AV) ⊕ (List AV × List AV × List AV × Bool × Int × Int × Int × Int × Int × Int × Int × Int × Int × Int × Int × Int × Int) ⊕ (List AV × List AV × List AV × List AV × Bool × Int × Int × Int × Int × Int × List AV × Int × Int × Int × Int × Int × Int × Int × Int × Int × Int × List AV × List AV × List AV × List AV) ⊕ (List AV × List AV × List AV × List AV × Int × Int × Int × Int × Int × List AV × Int × Int × Int × Int × Int × Int × Int × Int × List AV) ⊕ (List AV × List AV × List AV × Bool × Int × Int × Int × Int × Int × List AV × Int × Int × Int × Int × Int × Int × Int × Int) ⊕ (List AV × List AV × List AV × Int × Int × Int × Int × Int × List AV × Int × Int × Int × Int × Int × Int × Int × Int) ⊕ (List AV × List AV × List AV × List AV × Int × Int × Int × Int × Int × List AV × List AV × Int × Int × Int × Int × Int × Int × Int × Int × List AV)
def RepJ (m : Nat) (r : RR) (r' : RR') : Prop :=
  (∃ (done : Int) (x y z : List AV) (kd v a b : Int) (sw : List AV), r = .inl (done, x, y, z, kd, v, a, b, sw) ∧
    ((∃ (op : Bool) (kd' v' a' b' ends : Int), r' = .inl (x, y, z, op, kd', v', a', b', ends) ∧ RepE m x y z done kd sw op ends []) ∨
      ∃ (op : Bool) (kd' v' a' b' ends : Int) (w : List AV), r' = .inr (.inl (x, y, z, op, kd', v', a', b', ends, w)) ∧ RepE m x y z done kd sw op ends w)) ∨
  ((∃ t, r = .inr t) ∧ ∃ t, r' = .inr (.inr t))
theorem run29 (es vs rs ps : List AV) (hes : es.length ≤ 1048576) (hc : Col vs rs ps) (hN : N2 ps) :
    ∃ (r : RR) (r' : RR'), runW (R29_0 es) (((es.length : Int) - 0).toNat + 1) (0, 0, vs, rs, ps, 0, 0, 0, 0, []) = some r ∧ runW (R37_0 es es.length) (((es.length : Int) - 0).toNat + 1) (.inl (0, vs, rs, ps, false, 0, 0, 0, 0, 0)) = some r' ∧ RepJ es.length r r' := by
  refine runW_pair (f := R29_0 es) (g := R37_0 es es.length) (RepI es.length) (RepJ es.length) (fun s => ((es.length : Int) - s.2.1).toNat) (fun s s' hI => ?_) _ _ _ _ ?_ ?_ ?_
  · obtain ⟨done, k, x, y, z, kd, v, a, b, sw⟩ := s
    cases s' with
    | inl t =>
      obtain ⟨k', x', y', z', op, kd', v', a', b', ends⟩ := t
      obtain ⟨rfl, rfl, rfl, rfl, hR⟩ := hI
      rcases stepRep0 es hes done k' x' y' z' kd v a b sw op kd' v' a' b' ends hR with ⟨s, s', e1, e2, e3, e4, e5⟩ | ⟨r, r', e1, e2, e3⟩
      · exact .inl ⟨s, s', e1, e2, e3, by simp only; omega⟩
      · refine .inr ⟨r, r', e1, e2, ?_⟩
        rcases e3 with ⟨e3, e4⟩ | ⟨e3, e4⟩
        · exact .inl ⟨done, x', y', z', kd, v, a, b, sw, e3, .inl ⟨op, kd', v', a', b', ends, e4, hR.e⟩⟩
        · exact .inr ⟨e3, e4⟩
    | inr t =>
      obtain ⟨k', x', y', z', op, kd', v', a', b', ends, w⟩ := t
      obtain ⟨rfl, rfl, rfl, rfl, hR⟩ := hI
      rcases stepRep1 es hes done k' x' y' z' kd v a b sw op kd' v' a' b' ends w hR with ⟨s, s', e1, e2, e3, e4, e5⟩ | ⟨r, r', e1, e2, e3⟩
      · exact .inl ⟨s, s', e1, e2, e3, by simp only; omega⟩
      · refine .inr ⟨r, r', e1, e2, ?_⟩
        rcases e3 with ⟨e3, e4⟩ | ⟨e3, e4⟩
        · exact .inl ⟨done, x', y', z', kd, v, a, b, sw, e3, .inr ⟨op, kd', v', a', b', ends, w, e4, hR.e⟩⟩
        · exact .inr ⟨e3, e4⟩
  · exact ⟨rfl, rfl, rfl, rfl, Int.le_refl 0, by simp, hc, hN, Int.le_refl 0, Int.le_refl 0, rfl, rfl, by simp, fun h => absurd rfl h⟩
  · simp
  · simp
/-- ReplayJournal, both; what it hands back is a valid column. -/
theorem same52x (xs es : List AV) (h1 : xs.length ≤ 1048576) (h2 : es.length ≤ 1048576) :
    (q29 xs es = true ∧ q37 xs es = true) ∧ (v37_0 xs es = v29_0 xs es ∧ v37_1 xs es = v29_1 xs es ∧ v37_2 xs es = v29_2 xs es ∧ v37_3 xs es = v29_3 xs es ∧ v37_4 xs es = v29_4 xs es ∧ v37_5 xs es = v29_5 xs es) ∧
      ((v29_0 xs es).length ≤ 1048576 ∧ (v29_1 xs es).length ≤ 1048576 ∧ (v29_2 xs es).length ≤ 1048576) ∧ (v29_5 xs es = true → Col (v29_0 xs es) (v29_1 xs es) (v29_2 xs es) ∧ N2 (v29_2 xs es)) := by
  obtain ⟨a1, a2, a3, a4⟩ := P46 xs h1
  obtain ⟨b1, b2, b3, b4⟩ := P54 xs h1
  unfold q29 q37 v29_0 v29_1 v29_2 v29_3 v29_4 v29_5 v37_0 v37_1 v37_2 v37_3 v37_4 v37_5
  rw [a1, a2, a3, a4, b1, b2, b3, b4, (P47 xs h1).1, (P53 xs h1).1, (P53 xs h1).2]
  cases hv : v47_0 xs with
  | false =>
    simp only [Bool.not_false, cond_true, cond_false, Bool.and_self]
    exact ⟨⟨trivial, trivial⟩, ⟨by first | trivial | rfl, by first | trivial | rfl, by first | trivial | rfl, by first | trivial | rfl, by first | trivial | rfl, by first | trivial | rfl⟩, ⟨by simp, by simp, by simp⟩, fun h => by cases h⟩
  | true =>
    obtain ⟨r, r', k1, k2, hJ⟩ := run29 es xs (rows xs) [] h2 (Col_new xs h1 hv) N2_nil
    simp only [Bool.not_true, cond_true, cond_false, Bool.true_and]
    rw [k1, k2]
    rcases hJ with ⟨done, x, y, z, kd, v, a, b, sw, rfl, hJ⟩ | ⟨⟨t, rfl⟩, t', rfl⟩
    · have fin : ∀ (op : Bool) (ends : Int) (w : List AV), RepE es.length x y z done kd sw op ends w → Col x y z ∧ (bif decide (kd = 0) then true else q48 x y z sw) = true ∧ (bif op then q56 x y z w else true) = true ∧ (bif op then v56_0 x y z w else x) = (bif decide (kd = 0) then x else v48_0 x y z sw) ∧ (bif op then v56_1 x y z w else y) = (bif decide (kd = 0) then y else v48_1 x y z sw) ∧
          (bif op then v56_2 x y z w else z) = (bif decide (kd = 0) then z else v48_2 x y z sw) ∧ ends = done ∧ (bif op then (w.length : Int) else 0) = (bif decide (kd = 0) then 0 else (sw.length : Int)) ∧ (bif decide (kd = 0) then x else v48_0 x y z sw).length ≤ 1048576 ∧ (bif decide (kd = 0) then y else v48_1 x y z sw).length ≤ 1048576 ∧ (bif decide (kd = 0) then z else v48_2 x y z sw).length ≤ 1048576 ∧ Col (bif decide (kd = 0) then x else v48_0 x y z sw) (bif decide (kd = 0) then y else v48_1 x y z sw) (bif decide (kd = 0) then z else v48_2 x y z sw) ∧ N2 (bif decide (kd = 0) then z else v48_2 x y z sw) := fun op ends w hE => by
        obtain ⟨c, rfl, rfl, nz, st⟩ := hE
        have n1 := c.n64
        have n2 := c.len
        have n3 := col_few c
        by_cases hk : kd = 0
        · rw [decide_eq_true hk]
          refine ⟨c, rfl, rfl, rfl, rfl, rfl, rfl, rfl, ?_, ?_, ?_, c, nz⟩ <;> simp only [cond_true] <;> omega
        · obtain ⟨rfl, ⟨a', b', t1, t2, t3, t4⟩, s3, s4⟩ := st hk
          have s2 : inS 0 x.length w := fun s hs => by obtain ⟨y1, y2, y3, y4⟩ := t4 s hs; exact ⟨by omega, by omega, by omega, by omega⟩
          obtain ⟨u1, u2, u3, u4⟩ := P48 x y z w (by omega) (by omega) n2 (by omega) s3 s2
          obtain ⟨w1, w2, w3, w4⟩ := P56 x y z w (by omega) (by omega) n2 (by omega) s3 s2
          rw [decide_eq_false hk, u1, u2, u3, u4, w1, w2, w3, w4]
          have m1 := appS_len w.reverse x
          have m2 := appS_len w.reverse y
          refine ⟨c, rfl, rfl, rfl, rfl, rfl, rfl, rfl, ?_, ?_, ?_, Col.swaps t1 t3 w.reverse x y c t2 (inS_rev t4), nz⟩ <;> simp only [cond_false] <;> omega
      rcases hJ with ⟨op, kd', v', a', b', ends, rfl, hE⟩ | ⟨op, kd', v', a', b', ends, w, rfl, hE⟩
      · obtain ⟨c, f1, f2, f3, f4, f5, f6, f7, f8, f9, f10, f11, f12⟩ := fin op ends [] hE
        have f7' : (bif decide (kd = 0) then (0 : Int) else (sw.length : Int)) = 0 := by rw [← f7]; cases op <;> rfl
        simp only [ro, sumE]
        exact ⟨⟨f1, f2⟩, ⟨f3, f4, f5, f6, f7'.symm, by first | trivial | rfl⟩, ⟨f8, f9, f10⟩, fun _ => ⟨f11, f12⟩⟩
      · obtain ⟨c, f1, f2, f3, f4, f5, f6, f7, f8, f9, f10, f11, f12⟩ := fin op ends w hE
        simp only [ro, sumE]
        exact ⟨⟨f1, f2⟩, ⟨f3, f4, f5, f6, f7, by first | trivial | rfl⟩, ⟨f8, f9, f10⟩, fun _ => ⟨f11, f12⟩⟩
    · have e1 : ∀ {α : Type} (f : (Int × List AV × List AV × List AV × Int × Int × Int × Int × List AV) → α) (c : α), (sumE f (sumE (fun _ => c) (sumE (fun _ => c) (sumE (fun _ => c) (fun _ => c)))) (.inr t : RR)) = c := fun f c => by rcases t with t | t | t | t <;> rfl
      have E : ∀ {α : Type} (f : (List AV × List AV × List AV × Bool × Int × Int × Int × Int × Int) → α) (g : (List AV × List AV × List AV × Bool × Int × Int × Int × Int × Int × List AV) → α) (c : α), (sumE f (sumE g (sumE (fun _ => c) (sumE (fun _ => c) (sumE (fun _ => c) (sumE (fun _ => c) (sumE (fun _ => c) (fun _ => c))))))) (.inr (.inr t') : RR')) = c := fun f g c => by rcases t' with t' | t' | t' | t' | t' | t' <;> rfl
      simp only [ro, e1, E]
      exact ⟨⟨trivial, trivial⟩, ⟨by first | trivial | rfl, by first | trivial | rfl, by first | trivial | rfl, by first | trivial | rfl, by first | trivial | rfl, by first | trivial | rfl⟩, ⟨by simp, by simp, by simp⟩, fun h => by cases h⟩
/-- ReplayJournal, both. -/
theorem same29 (xs es : List AV) (h1 : xs.length ≤ 1048576) (h2 : es.length ≤ 1048576) :
    (q29 xs es = true ∧ q37 xs es = true) ∧ (v37_0 xs es = v29_0 xs es ∧ v37_1 xs es = v29_1 xs es ∧ v37_2 xs es = v29_2 xs es ∧ v37_3 xs es = v29_3 xs es ∧ v37_4 xs es = v29_4 xs es ∧ v37_5 xs es = v29_5 xs es) ∧
      ((v29_0 xs es).length ≤ 1048576 ∧ (v29_1 xs es).length ≤ 1048576 ∧ (v29_2 xs es).length ≤ 1048576) := by
  obtain ⟨a, b, c, _⟩ := same52x xs es h1 h2
  exact ⟨a, b, c⟩

end Go.Proofs.Ytmlhhemflhiinaa
