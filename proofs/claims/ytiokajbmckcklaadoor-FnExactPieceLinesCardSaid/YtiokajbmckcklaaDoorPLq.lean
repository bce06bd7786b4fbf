/- aggregates and order -/
import Derived.Test.YtiokajbmckcklaaDoorPLn
namespace Go.Proofs.YtiokajbmckcklaaDoor
open Go Go.Proofs.VE
set_option linter.unusedVariables false
set_option linter.unusedSimpArgs false
/-! Aggregates and order of a piece. -/
theorem in64_wrap (n : Int) : In64 (IntKind.i64.wrap n) := by unfold In64; rw [IntKind.wrap_i64]; omega
def gS (xs : List AV) (i t : Int) : Int := IntKind.i64.wrap (t + fI (xs.getD i.toNat .undef) 0)
theorem gS_in (xs : List AV) : ∀ (m : Nat) (i t : Int), In64 t → In64 (foldF (gS xs) m i t)
  | 0, _, _, h => h
  | m + 1, i, t, _ => gS_in xs m (i + 1) _ (in64_wrap _)
theorem sum47 (xs : List AV) (h : xs.length ≤ 1048576) : runW (R47_0 xs xs.length) (((xs.length : Int) - 0).toNat + 1) (0, 0) = some (foldF (gS xs) xs.length 0 0) :=
  runW_fold (f := R47_0 xs xs.length) (fun i (t : Int) => (t, i)) xs.length (gS xs) (fun t => t) (fun _ _ => True) (fun i t h0 hn _ => by
    refine ⟨?_, trivial⟩
    simp only [R47_0, F47_0, h0, hn, decide_true, Bool.and_self, cond_true]
    rw [wrap_in (a := i + 1) (by omega) (by omega)]
    rfl) (fun t _ => by simp only [R47_0, F47_0, Int.lt_irrefl, decide_false, cond_false]) xs.length _ 0 0 (Int.le_refl 0) (by omega) (by omega) trivial
def gMin (xs : List AV) (i t : Int) : Int := if fI (xs.getD i.toNat .undef) 0 < t then fI (xs.getD i.toNat .undef) 0 else t
def gMax (xs : List AV) (i t : Int) : Int := if fI (xs.getD i.toNat .undef) 0 > t then fI (xs.getD i.toNat .undef) 0 else t
theorem gMin_in (xs : List AV) (hv : ∀ i : Int, In64 (fI (xs.getD i.toNat .undef) 0)) : ∀ (m : Nat) (i t : Int), In64 t → In64 (foldF (gMin xs) m i t)
  | 0, _, _, h => h
  | m + 1, i, t, h => gMin_in xs hv m (i + 1) _ (by unfold gMin; split; exact hv i; exact h)
theorem gMax_in (xs : List AV) (hv : ∀ i : Int, In64 (fI (xs.getD i.toNat .undef) 0)) : ∀ (m : Nat) (i t : Int), In64 t → In64 (foldF (gMax xs) m i t)
  | 0, _, _, h => h
  | m + 1, i, t, h => gMax_in xs hv m (i + 1) _ (by unfold gMax; split; exact hv i; exact h)
theorem min95 (xs : List AV) (h : xs.length ≤ 1048576) (h1 : 1 ≤ xs.length) (t : Int) : runW (R95_0 xs) (((xs.length : Int) - 1).toNat + 1) (t, 1) = some (foldF (gMin xs) (xs.length - 1) 1 t) :=
  runW_fold (f := R95_0 xs) (fun i (t : Int) => (t, i)) xs.length (gMin xs) (fun t => t) (fun _ _ => True) (fun i t h0 hn _ => by
    refine ⟨?_, trivial⟩
    simp only [R95_0, F95_0, h0, hn, decide_true, Bool.and_self, cond_true]
    rw [wrap_in (a := i + 1) (by omega) (by omega)]
    rfl) (fun t _ => by simp only [R95_0, F95_0, Int.lt_irrefl, decide_false, cond_false]) (xs.length - 1) _ 1 t (by decide) (by omega) (by omega) trivial
theorem max96 (xs : List AV) (h : xs.length ≤ 1048576) (h1 : 1 ≤ xs.length) (t : Int) : runW (R96_0 xs) (((xs.length : Int) - 1).toNat + 1) (t, 1) = some (foldF (gMax xs) (xs.length - 1) 1 t) :=
  runW_fold (f := R96_0 xs) (fun i (t : Int) => (t, i)) xs.length (gMax xs) (fun t => t) (fun _ _ => True) (fun i t h0 hn _ => by
    refine ⟨?_, trivial⟩
    simp only [R96_0, F96_0, h0, hn, decide_true, Bool.and_self, cond_true]
    rw [wrap_in (a := i + 1) (by omega) (by omega)]
    rfl) (fun t _ => by simp only [R96_0, F96_0, Int.lt_irrefl, decide_false, cond_false]) (xs.length - 1) _ 1 t (by decide) (by omega) (by omega) trivial
/-- The reference's step: count, sum, least, greatest. -/
def gA (xs : List AV) (i : Int) (t : Int × Int × Int × Int) : Int × Int × Int × Int :=
  (t.1 + 1, gS xs i t.2.1, (bif decide (t.1 = 0) then fI (xs.getD i.toNat .undef) 0 else gMin xs i t.2.2.1), (bif decide (t.1 = 0) then fI (xs.getD i.toNat .undef) 0 else gMax xs i t.2.2.2))
theorem run70 (xs : List AV) (h : xs.length ≤ 1048576) : runW (R70_0 xs 0 0 0 0) (((xs.length : Int) - 0).toNat + 1) (0, 0, 0, 0, 0) = some (foldF (gA xs) xs.length 0 (0, 0, 0, 0)) :=
  runW_fold (f := R70_0 xs 0 0 0 0) (fun i (t : Int × Int × Int × Int) => (i, t.1, t.2.1, t.2.2.1, t.2.2.2)) xs.length (gA xs) (fun t => t) (fun i t => t.1 = i) (fun i t h0 hn hI => by
    refine ⟨?_, by unfold gA; simp only; omega⟩
    simp only [R70_0, F70_0, h0, hn, decide_true, Bool.and_self, cond_true]
    rw [wrap_in (a := i + 1) (by omega) (by omega), wrap_in (a := t.1 + 1) (by omega) (by omega)]
    unfold gA gS gMin gMax
    cases decide (t.1 = 0)
    · rfl
    · simp only [cond_true, ite_self]) (fun t _ => by simp only [R70_0, F70_0, Int.lt_irrefl, decide_false, cond_false]) xs.length _ 0 (0, 0, 0, 0) (Int.le_refl 0) (by omega) (by omega) rfl
theorem gA_fold (xs : List AV) : ∀ (m : Nat) (i s lo hi : Int), 1 ≤ i → foldF (gA xs) m i (i, s, lo, hi) = (i + m, foldF (gS xs) m i s, foldF (gMin xs) m i lo, foldF (gMax xs) m i hi)
  | 0, i, s, lo, hi, _ => by simp [foldF]
  | m + 1, i, s, lo, hi, h => by
    have e : gA xs i (i, s, lo, hi) = (i + 1, gS xs i s, gMin xs i lo, gMax xs i hi) := by
      unfold gA
      simp only [decide_eq_false (by omega : ¬ i = 0), cond_false]
    show foldF (gA xs) m (i + 1) (gA xs i (i, s, lo, hi)) = _
    rw [e, gA_fold xs m (i + 1) _ _ _ (by omega), show i + 1 + (m : Int) = i + ((m + 1 : Nat) : Int) by omega]
    rfl
theorem agg_eq (xs : List AV) (h : xs.length ≤ 1048576) (hv : ∀ i : Int, In64 (fI (xs.getD i.toNat .undef) 0)) :
    q70 xs = true ∧ q74 xs = true ∧ (v74_0 xs = v70_0 xs ∧ v74_1 xs = v70_1 xs ∧ v74_2 xs = v70_2 xs ∧ v74_3 xs = v70_3 xs) ∧ In64 (v70_0 xs) ∧ In64 (v70_1 xs) ∧ In64 (v70_2 xs) ∧ In64 (v70_3 xs) := by
  obtain ⟨p1, _⟩ := P86 xs h
  obtain ⟨p3, p4⟩ := P90 xs h
  have z : In64 0 := by unfold In64; omega
  unfold q70 q74 v74_0 v74_1 v74_2 v74_3 v70_0 v70_1 v70_2 v70_3
  rw [p1, p3, p4, run70 xs h]
  cases hc : v86_0 xs with
  | false =>
    refine ⟨rfl, ?_, ⟨?_, ?_, ?_, ?_⟩, z, z, z, z⟩ <;> cases decide ((xs.length : Int) = 0) <;> rfl
  | true =>
    simp only [Bool.not_true, cond_false, Bool.true_and, ro]
    by_cases hn : xs.length = 0
    · rw [decide_eq_true (by omega : (xs.length : Int) = 0), hn]
      exact ⟨trivial, rfl, ⟨rfl, rfl, rfl, rfl⟩, z, z, z, z⟩
    · obtain ⟨m, hm⟩ : ∃ m, xs.length = m + 1 := ⟨xs.length - 1, by omega⟩
      have e : foldF (gA xs) xs.length 0 (0, 0, 0, 0) = ((xs.length : Int), foldF (gS xs) xs.length 0 0, foldF (gMin xs) (xs.length - 1) 1 (fI (xs.getD (0 : Int).toNat .undef) 0), foldF (gMax xs) (xs.length - 1) 1 (fI (xs.getD (0 : Int).toNat .undef) 0)) := by
        rw [hm]
        show foldF (gA xs) m 1 (1, gS xs 0 0, fI (xs.getD (0 : Int).toNat .undef) 0, fI (xs.getD (0 : Int).toNat .undef) 0) = _
        rw [gA_fold xs m 1 _ _ _ (by decide), show (1 : Int) + m = ((m + 1 : Nat) : Int) by omega]
        rfl
      have s1 : q47 xs = true := by unfold q47; rw [sum47 xs h]; rfl
      have s2 : v47_0 xs = foldF (gS xs) xs.length 0 0 := by unfold v47_0; rw [sum47 xs h]; rfl
      have d1 : decide ((xs.length : Int) < 1) = false := decide_eq_false (by omega)
      have d2 : decide (0 < (xs.length : Int)) = true := decide_eq_true (by omega)
      have m1 : q95 xs = true := by unfold q95; rw [min95 xs h (by omega), d1, d2]; rfl
      have m2 : v95_0 xs = foldF (gMin xs) (xs.length - 1) 1 (fI (xs.getD (0 : Int).toNat .undef) 0) := by unfold v95_0; rw [min95 xs h (by omega)]; rfl
      have n1 : q96 xs = true := by unfold q96; rw [max96 xs h (by omega), d1, d2]; rfl
      have n2 : v96_0 xs = foldF (gMax xs) (xs.length - 1) 1 (fI (xs.getD (0 : Int).toNat .undef) 0) := by unfold v96_0; rw [max96 xs h (by omega)]; rfl
      rw [e, s1, s2, m1, m2, n1, n2, decide_eq_false (by omega : ¬ (xs.length : Int) = 0)]
      exact ⟨trivial, rfl, ⟨rfl, rfl, rfl, rfl⟩, by unfold In64; simp only; omega, gS_in xs _ _ _ z, gMin_in xs hv _ _ _ (hv 0), gMax_in xs hv _ _ _ (hv 0)⟩
theorem lit_size (l : List UInt8) : (ByteArray.mk l.toArray).size = l.length := by simp [ByteArray.size]
theorem fagg_eq (a b c d : Int) (ha : In64 a) (hb : In64 b) (hc : In64 c) (hd : In64 d) : q69 a b c d = true ∧ q73 a b c d = true ∧ v73_0 a b c d = v69_0 a b c d ∧ (v69_0 a b c d).size ≤ 100 := by
  obtain ⟨a1, a2⟩ := fmtInt a ha.1 ha.2
  obtain ⟨b1, b2⟩ := fmtInt b hb.1 hb.2
  obtain ⟨c1, c2⟩ := fmtInt c hc.1 hc.2
  obtain ⟨d1, d2⟩ := fmtInt d hd.1 hd.2
  obtain ⟨A1, A2⟩ := fmtInt' a ha.1 ha.2
  obtain ⟨B1, B2⟩ := fmtInt' b hb.1 hb.2
  obtain ⟨C1, C2⟩ := fmtInt' c hc.1 hc.2
  obtain ⟨D1, D2⟩ := fmtInt' d hd.1 hd.2
  have la := itoaB_len a ha.1 ha.2
  have lb := itoaB_len b hb.1 hb.2
  have lc := itoaB_len c hc.1 hc.2
  have ld := itoaB_len d hd.1 hd.2
  unfold q69 q73 v73_0 v69_0
  rw [a1, a2, b1, b2, c1, c2, d1, d2, A1, A2, B1, B2, C1, C2, D1, D2]
  cases decide (a ≤ 0) with
  | true => exact ⟨rfl, rfl, rfl, (by decide : (ByteArray.mk #[110, 111, 110, 101]).size ≤ 100)⟩
  | false =>
    simp only [cond_false, Bool.true_and]
    generalize itoaB a = A at *
    generalize itoaB b = B at *
    generalize itoaB c = C at *
    generalize itoaB d = D at *
    refine ⟨?_, ?_, by first | trivial | rfl, ?_⟩
    · simp only [Bool.and_eq_true, decide_eq_true_eq, ByteArray.size_append, lit_size, List.length_cons, List.length_nil]
      omega
    · simp only [Bool.and_eq_true, decide_eq_true_eq, ByteArray.size_append, lit_size, List.length_cons, List.length_nil]
      omega
    · simp only [ByteArray.size_append, lit_size, List.length_cons, List.length_nil]
      omega
/-! The order of a piece. -/
def bad2 (vs rs : List AV) (i : Int) : Bool := decide (fI (vs.getD (i - 1).toNat .undef) 0 > fI (vs.getD i.toNat .undef) 0) || (decide (fI (vs.getD (i - 1).toNat .undef) 0 = fI (vs.getD i.toNat .undef) 0) && decide (fI (rs.getD (i - 1).toNat .undef) 0 > fI (rs.getD i.toNat .undef) 0))
theorem sort71 (vs rs ps : List AV) (l r : Int) (h : vs.length ≤ 1048576) (h' : (rs.length : Int) = vs.length) (l0 : 0 ≤ l) (lr : l < r) (r1 : r ≤ vs.length) :
    q71 vs rs ps l r = true ∧ v71_0 vs rs ps l r = (findF (fun i => bad2 vs rs (l + 1 + i)) (r - l - 1).toNat 0).isNone := by
  have hr := runW_find (f := R71_0 r vs rs ps) (fun i => l + 1 + i) (r - l - 1) (fun i => bad2 vs rs (l + 1 + i)) (.inl ()) (fun _ => .inr ()) (fun i h0 hn => by
    have w1 : IntKind.i64.wrap (l + 1 + i - 1) = l + 1 + i - 1 := wrap_in (by omega) (by omega)
    have w2 : IntKind.i64.wrap (l + 1 + i + 1) = l + 1 + (i + 1) := by rw [wrap_in (by omega) (by omega)]; omega
    have d0 : decide (l + 1 + i < r) = true := decide_eq_true (by omega)
    have d1 : decide (0 ≤ l + 1 + i - 1) = true := decide_eq_true (by omega)
    have d2 : decide (l + 1 + i - 1 < (vs.length : Int)) = true := decide_eq_true (by omega)
    have d3 : decide (0 ≤ l + 1 + i) = true := decide_eq_true (by omega)
    have d4 : decide (l + 1 + i < (vs.length : Int)) = true := decide_eq_true (by omega)
    have d5 : decide (l + 1 + i - 1 < (rs.length : Int)) = true := decide_eq_true (by omega)
    have d6 : decide (l + 1 + i < (rs.length : Int)) = true := decide_eq_true (by omega)
    unfold R71_0 F71_0 bad2
    rw [w1, w2, d0, d1, d2, d3, d4, d5, d6]
    cases decide (fI (vs.getD (l + 1 + i - 1).toNat .undef) 0 > fI (vs.getD (l + 1 + i).toNat .undef) 0) <;> cases decide (fI (vs.getD (l + 1 + i - 1).toNat .undef) 0 = fI (vs.getD (l + 1 + i).toNat .undef) 0) <;> cases decide (fI (rs.getD (l + 1 + i - 1).toNat .undef) 0 > fI (rs.getD (l + 1 + i).toNat .undef) 0) <;> rfl) (by
    unfold R71_0 F71_0
    rw [decide_eq_false (by omega : ¬ l + 1 + (r - l - 1) < r)]
    rfl) (r - l - 1).toNat ((r - (l + 1)).toNat + 1) 0 (Int.le_refl 0) (by omega) (by omega)
  rw [Int.add_zero] at hr
  unfold q71 v71_0
  rw [wrap_in (a := l + 1) (by omega) (by omega), hr]
  cases findF (fun i => bad2 vs rs (l + 1 + i)) (r - l - 1).toNat 0 <;> exact ⟨rfl, rfl⟩
theorem cmp_eq (a b c d : Int) : q99 a b c d = true ∧ decide (v99_0 a b c d < 0) = (decide (c > a) || (decide (c = a) && decide (d > b))) := by
  have hc : ∀ x y : Int, v108_0 x y = if x < y then -1 else if x > y then 1 else 0 := fun x y => by
    unfold v108_0 v113_0
    by_cases h1 : x < y
    · simp [h1]
    · by_cases h2 : x > y <;> simp [h1, h2]
  have hr : ∀ x y : Int, runW (R107_0 0 [AV.int .i64 x, AV.int .i64 y] (([AV.int .i64 x, AV.int .i64 y]).length : Int)) ((((([AV.int .i64 x, AV.int .i64 y]).length : Int)) - 0).toNat + 1) 0 = some (if x = 0 then (if y = 0 then .inl () else .inr y) else .inr x) := fun x y => by
    show runW (R107_0 0 [AV.int .i64 x, AV.int .i64 y] 2) 3 0 = _
    have f0 : R107_0 0 [AV.int .i64 x, AV.int .i64 y] 2 0 = bif !decide (x = 0) then .stop (.inr x) else .next 1 := rfl
    have f1 : R107_0 0 [AV.int .i64 x, AV.int .i64 y] 2 1 = bif !decide (y = 0) then .stop (.inr y) else .next 2 := rfl
    have f2 : R107_0 0 [AV.int .i64 x, AV.int .i64 y] 2 2 = .stop (.inl ()) := rfl
    unfold runW
    rw [f0]
    by_cases hx : x = 0
    · rw [decide_eq_true hx, if_pos hx]
      simp only [Bool.not_true, cond_false, Out.el]
      unfold runW
      rw [f1]
      by_cases hy : y = 0
      · rw [decide_eq_true hy, if_pos hy]
        simp only [Bool.not_true, cond_false, Out.el]
        unfold runW
        rw [f2]
        rfl
      · rw [decide_eq_false hy, if_neg hy]
        rfl
    · rw [decide_eq_false hx, if_neg hx]
      rfl
  unfold q99 v99_0 q107 v107_0
  rw [hr, hc, hc]
  by_cases h1 : a < c
  · simp [h1, ro, sumE]
  · by_cases h2 : a > c
    · have : ¬ c > a := by omega
      have : ¬ c = a := by omega
      simp [h1, h2, ro, sumE, *]
    · have h3 : a = c := by omega
      subst h3
      by_cases h4 : b < d
      · simp [h4, ro, sumE]
      · by_cases h5 : b > d
        · have : ¬ d > b := by omega
          simp [h4, h5, ro, sumE]
        · simp [h4, h5, ro, sumE]
/-! The pieces' lines. -/
theorem app_fold (c : Int → AV) : ∀ (m : Nat) (i : Int) (t : List AV), foldF (fun i t => t ++ [c i]) m i t = t ++ (List.range m).map (fun k : Nat => c (i + (k : Int)))
  | 0, i, t => by simp [foldF]
  | m + 1, i, t => by
    show foldF (fun i t => t ++ [c i]) m (i + 1) (t ++ [c i]) = _
    rw [app_fold c m (i + 1) (t ++ [c i]), List.range_succ_eq_map, List.map_cons, List.map_map, List.append_assoc]
    have : ((fun k : Nat => c (i + (k : Int))) ∘ Nat.succ) = fun k : Nat => c (i + 1 + (k : Int)) := by
      funext k
      show c (i + ((k + 1 : Nat) : Int)) = _
      rw [show i + ((k + 1 : Nat) : Int) = i + 1 + (k : Int) by omega]
    rw [this]
    simp
def ce (vs rs : List AV) (i : Int) : AV := AV.agg [AV.int .i64 (fI (vs.getD i.toNat .undef) 0), AV.int .i64 (fI (rs.getD i.toNat .undef) 0)]
theorem run98 (vs rs ps : List AV) (l r : Int) (h : vs.length ≤ 1048576) (h' : (rs.length : Int) = vs.length) (l0 : 0 ≤ l) (lr : l < r) (r1 : r ≤ vs.length) :
    runW (R98_0 r vs rs ps) ((r - l).toNat + 1) (l, ([] : List AV)) = some ((List.range (r - l).toNat).map (fun k : Nat => ce vs rs (l + (k : Int)))) := by
  have hr := runW_fold (f := R98_0 r vs rs ps) (fun i (t : List AV) => (i, t)) r (fun i t => t ++ [ce vs rs i]) (fun t => t) (fun i t => l ≤ i ∧ (t.length : Int) = i - l) (fun i t h0 hn hI => by
    refine ⟨?_, by rw [List.length_append]; simp only [List.length_cons, List.length_nil]; omega⟩
    have d0 : decide (i < r) = true := decide_eq_true hn
    have d1 : decide (0 ≤ i) = true := decide_eq_true h0
    have d2 : decide (i < (vs.length : Int)) = true := decide_eq_true (by omega)
    have d3 : decide (i < (rs.length : Int)) = true := decide_eq_true (by omega)
    unfold R98_0 F98_0 ce
    rw [d0, d1, d2, d3, wrap_in (a := i + 1) (by omega) (by omega)]
    have d4 : ∀ s : AV, decide ((t.length + ([s]).length) * 16 ≤ 140737488355328) = true := fun s => decide_eq_true (by simp only [List.length_cons, List.length_nil]; omega)
    have d5 : ∀ s : AV, decide ((t.length + ([s]).length) ≤ 140737488355328) = true := fun s => decide_eq_true (by simp only [List.length_cons, List.length_nil]; omega)
    rw [d4, d5]
    rfl) (fun t _ => by
    unfold R98_0 F98_0
    rw [decide_eq_false (Int.lt_irrefl _)]
    rfl) (r - l).toNat ((r - l).toNat + 1) l [] l0 (by omega) (by omega) ⟨Int.le_refl _, by simp⟩
  rw [hr, app_fold]
  rfl
theorem getD_range (c : Nat → AV) (n k : Nat) (h : k < n) : ((List.range n).map c).getD k .undef = c k := by
  rw [List.getD_eq_getElem?_getD, List.getElem?_map, List.getElem?_range h]
  rfl
theorem sorted_eq (vs rs ps : List AV) (l r : Int) (h : vs.length ≤ 1048576) (h' : (rs.length : Int) = vs.length) (l0 : 0 ≤ l) (lr : l < r) (r1 : r ≤ vs.length) :
    q71 vs rs ps l r = true ∧ q75 vs rs ps l r = true ∧ v75_0 vs rs ps l r = v71_0 vs rs ps l r := by
  obtain ⟨s1, s2⟩ := sort71 vs rs ps l r h h' l0 lr r1
  have hv : v98_0 vs rs ps l r = (List.range (r - l).toNat).map (fun k : Nat => ce vs rs (l + (k : Int))) := by
    unfold v98_0; rw [run98 vs rs ps l r h h' l0 lr r1]; rfl
  have hq : q98 vs rs ps l r = true := by
    unfold q98; rw [run98 vs rs ps l r h h' l0 lr r1]; rfl
  have hlen : ((List.range (r - l).toNat).map (fun k : Nat => ce vs rs (l + (k : Int)))).length = (r - l).toNat := by simp
  generalize hes : (List.range (r - l).toNat).map (fun k : Nat => ce vs rs (l + (k : Int))) = es at *
  have at_ : ∀ k : Int, 0 ≤ k → k < r - l → es.getD k.toNat .undef = ce vs rs (l + k) := fun k h0 hk => by
    rw [← hes, getD_range _ _ _ (by omega)]
    rw [show l + ((k.toNat : Nat) : Int) = l + k by omega]
  have hr := runW_find (f := R97_0 es) (fun i => r - l - 1 - i) (r - l - 1) (fun i => bad2 vs rs (l + (r - l - 1 - i))) (.inl ()) (fun _ => .inr ()) (fun i h0 hn => by
    have w1 : IntKind.i64.wrap (r - l - 1 - i - 1) = r - l - 1 - i - 1 := wrap_in (by omega) (by omega)
    have d0 : decide (r - l - 1 - i > 0) = true := decide_eq_true (by omega)
    have d1 : decide (0 ≤ r - l - 1 - i) = true := decide_eq_true (by omega)
    have d2 : decide (r - l - 1 - i < (es.length : Int)) = true := decide_eq_true (by omega)
    have d3 : decide (0 ≤ r - l - 1 - i - 1) = true := decide_eq_true (by omega)
    have d4 : decide (r - l - 1 - i - 1 < (es.length : Int)) = true := decide_eq_true (by omega)
    unfold R97_0 F97_0
    rw [w1, at_ (r - l - 1 - i) (by omega) (by omega), at_ (r - l - 1 - i - 1) (by omega) (by omega), d0, d1, d2, d3, d4]
    have f : ∀ k, fI (ce vs rs k) 0 = fI (vs.getD k.toNat .undef) 0 ∧ fI (ce vs rs k) 1 = fI (rs.getD k.toNat .undef) 0 := fun k => ⟨rfl, rfl⟩
    rw [(f _).1, (f _).2, (f _).1, (f _).2, (cmp_eq _ _ _ _).1, (cmp_eq _ _ _ _).2, show l + (r - l - 1 - i - 1) = l + (r - l - 1 - i) - 1 by omega, show r - l - 1 - i - 1 = r - l - 1 - (i + 1) by omega]
    unfold bad2
    rfl) (by
    unfold R97_0 F97_0
    rw [decide_eq_false (by omega : ¬ r - l - 1 - (r - l - 1) > 0)]
    rfl) (r - l - 1).toNat ((r - l - 1).toNat + 1) 0 (Int.le_refl 0) (by omega) (by omega)
  rw [Int.sub_zero] at hr
  have hiff : (findF (fun i => bad2 vs rs (l + (r - l - 1 - i))) (r - l - 1).toNat 0).isNone = (findF (fun i => bad2 vs rs (l + 1 + i)) (r - l - 1).toNat 0).isNone := by
    rw [Bool.eq_iff_iff, findF_isNone, findF_isNone]
    constructor
    · intro g j h1 h2
      have := g (r - l - 2 - j) (by omega) (by omega)
      rw [show l + (r - l - 1 - (r - l - 2 - j)) = l + 1 + j by omega] at this
      exact this
    · intro g j h1 h2
      have := g (r - l - 2 - j) (by omega) (by omega)
      rw [show l + 1 + (r - l - 2 - j) = l + (r - l - 1 - j) by omega] at this
      exact this
  refine ⟨s1, ?_, ?_⟩
  · unfold q75
    rw [hq, hv]
    unfold q97
    rw [wrap_in (a := (es.length : Int) - 1) (by omega) (by omega), show (es.length : Int) - 1 = r - l - 1 by omega, Int.sub_zero, hr]
    cases findF (fun i => bad2 vs rs (l + (r - l - 1 - i))) (r - l - 1).toNat 0 <;> rfl
  · unfold v75_0
    rw [s2, hv, ← hiff]
    unfold v97_0
    rw [wrap_in (a := (es.length : Int) - 1) (by omega) (by omega), show (es.length : Int) - 1 = r - l - 1 by omega, Int.sub_zero, hr]
    cases findF (fun i => bad2 vs rs (l + (r - l - 1 - i))) (r - l - 1).toNat 0 <;> rfl

end Go.Proofs.YtiokajbmckcklaaDoor
