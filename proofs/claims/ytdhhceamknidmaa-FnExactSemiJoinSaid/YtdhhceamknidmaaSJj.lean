/- joins -/
import Derived.Test.YtdhhceamknidmaaSJi
namespace Go.Proofs.Ytdhhceamknidmaa
open Go Go.Proofs.VE
set_option linter.unusedVariables false
set_option linter.unusedSimpArgs false
/-! ### lists of runs -/
theorem foldF_list {T : Type} (xs : List AV) (g : T → AV → T) : ∀ (m : Nat) (i : Int) (t : T), 0 ≤ i → i + m = xs.length → foldF (fun i t => g t (xs.getD i.toNat .undef)) m i t = (xs.drop i.toNat).foldl g t
  | 0, i, t, h0, hn => by
    rw [List.drop_of_length_le (by omega)]
    rfl
  | m + 1, i, t, h0, hn => by
    rw [foldF, foldF_list xs g m (i + 1) _ (by omega) (by omega), show (i + 1).toNat = i.toNat + 1 by omega]
    have hl : i.toNat < xs.length := by omega
    rw [List.drop_eq_getElem_cons hl, List.foldl_cons, List.getD_eq_getElem?_getD, List.getElem?_eq_getElem hl]
    rfl
theorem foldl_app (f : AV → List AV) : ∀ (xs ys : List AV), xs.foldl (fun ys x => ys ++ f x) ys = ys ++ xs.flatMap f
  | [], ys => by simp
  | x :: xs, ys => by rw [List.foldl_cons, foldl_app f xs, List.flatMap_cons, List.append_assoc]
theorem foldl_cnt (f : AV → List AV) : ∀ (xs : List AV) (t : Int), xs.foldl (fun t x => t + ((f x).length : Int)) t = t + ((xs.flatMap f).length : Int)
  | [], t => by simp
  | x :: xs, t => by
    rw [List.foldl_cons, foldl_cnt f xs, List.flatMap_cons, List.length_append]
    omega
/-- A loop that lays parts behind one another. -/
theorem runW_flat {S R : Type} {f : S → Out S R} (E : Int → List AV → S) (K : List AV → R) (xs : List AV) (g : AV → List AV) (c : Nat) (hc : ∀ x ∈ xs, (g x).length ≤ c) (ys : List AV)
    (h1 : ∀ (i : Int) (zs : List AV), 0 ≤ i → i < xs.length → zs.length ≤ ys.length + c * i.toNat → f (E i zs) = .next (E (i + 1) (zs ++ g (xs.getD i.toNat .undef))))
    (h2 : ∀ zs, f (E xs.length zs) = .stop (K zs)) : ∀ n : Nat, n = xs.length → runW f (((n : Int) - 0).toNat + 1) (E 0 ys) = some (K (ys ++ xs.flatMap g)) := by
  intro n hn
  subst hn
  have := runW_fold (f := f) E xs.length (fun i zs => zs ++ g (xs.getD i.toNat .undef)) K (fun i zs => zs.length ≤ ys.length + c * i.toNat) (fun i zs h0 hn hI => ⟨h1 i zs h0 hn hI, by
    have := hc (xs.getD i.toNat .undef) (by rw [List.getD_eq_getElem?_getD, List.getElem?_eq_getElem (by omega)]; exact List.getElem_mem _)
    rw [List.length_append, show (i + 1).toNat = i.toNat + 1 by omega, Nat.mul_add]
    omega⟩) (fun zs _ => h2 zs) xs.length (((xs.length : Int) - 0).toNat + 1) 0 ys (Int.le_refl 0) (by omega) (by omega) (by simp)
  rw [this, foldF_list xs (fun zs x => zs ++ g x) xs.length 0 ys (Int.le_refl 0) (by omega), foldl_app]
  rfl
theorem findF_first {p : Int → Bool} {j : Int} : ∀ (m : Nat) (i : Int), findF p m i = some j → ∀ k, i ≤ k → k < j → p k = false
  | 0, _, h => by cases h
  | m + 1, i, h => by
    simp only [findF] at h
    intro k k0 k1
    cases hp : p i <;> rw [hp] at h
    · by_cases e : k = i
      · rw [e]; exact hp
      · exact findF_first m (i + 1) h k (by omega) k1
    · obtain rfl := Option.some.inj h
      omega
/-! ### elements -/
/-- A column's pairs of value and row. -/
def els (vs rs : List AV) : List AV := (List.range vs.length).map fun k : Nat => avP (el vs k, el rs k)
theorem els_len (vs rs : List AV) : (els vs rs).length = vs.length := by simp [els]
theorem els_get (vs rs : List AV) (i : Int) (h0 : 0 ≤ i) (h1 : i < vs.length) : (els vs rs).getD i.toNat .undef = avP (el vs i, el rs i) := by
  unfold els
  have : i.toNat < vs.length := by omega
  simp [List.getD_eq_getElem?_getD, this, show ((i.toNat : Nat) : Int) = i by omega, show max i 0 = i by omega]
def CnP (xs : List AV) : Prop := ∀ x ∈ xs, x = avP (fI x 0, fI x 1)
theorem els_cn (vs rs : List AV) : CnP (els vs rs) := fun x hx => by
  unfold els at hx
  obtain ⟨k, _, rfl⟩ := List.mem_map.1 hx
  rfl
theorem P131 (vs rs ps : List AV) (h : vs.length ≤ 1048576) (hl : rs.length = vs.length) : q131 vs rs ps 0 vs.length = true ∧ v131_0 vs rs ps 0 vs.length = els vs rs := by
  have key := runW_flat (f := R131_0 vs.length vs rs ps) (fun i zs => (i, zs)) id (els vs rs) (fun x => [x]) 1 (fun _ _ => Nat.le_refl _) []
    (fun i zs h0 hn hz => by
      rw [els_len] at hn
      have d1 : decide (i < (vs.length : Int)) = true := decide_eq_true hn
      have d2 : decide (0 ≤ i) = true := decide_eq_true h0
      have d3 : decide (i < (rs.length : Int)) = true := decide_eq_true (by omega)
      simp only [List.length_nil, Nat.zero_add, Nat.one_mul] at hz
      rw [els_get vs rs i h0 hn]
      simp only [R131_0, F131_0, d1, d2, d3, Bool.and_self, cond_true, List.length_singleton]
      rw [decide_eq_true (by omega : (zs.length + 1) * 16 ≤ 140737488355328), decide_eq_true (by omega : zs.length + 1 ≤ 140737488355328), wrap_in (a := i + 1) (by omega) (by omega)]
      rfl)
    (fun zs => by rw [els_len]; simp only [R131_0, F131_0, Int.lt_irrefl, decide_false, cond_false]; rfl) vs.length (els_len vs rs).symm
  unfold q131 v131_0
  rw [key]
  refine ⟨rfl, ?_⟩
  show [] ++ _ = _
  rw [List.nil_append]
  simp
/-! ### slices.DeleteFunc -/
/-- What is kept: the value lies in the range. -/
def keepR (a b : Int) (x : AV) : Bool := v133_0 a b (fI x 0)
theorem v132 (x : AV) (a b : Int) : v132_0 (fI x 0) (fI x 1) (AV.agg [AV.int .i64 a, AV.int .i64 b]) = !keepR a b x := rfl
theorem P148 (xs : List AV) (a b : Int) (h : xs.length ≤ 1048576) : q148 xs (AV.agg [AV.int .i64 a, AV.int .i64 b]) = true ∧ v148_0 xs (AV.agg [AV.int .i64 a, AV.int .i64 b]) = ro (findF (fun i => !keepR a b (xs.getD i.toNat .undef)) xs.length 0) (-1) id := by
  have key := runW_find (f := R148_0 xs (AV.agg [AV.int .i64 a, AV.int .i64 b]) xs.length) (fun i => i) xs.length (fun i => !keepR a b (xs.getD i.toNat .undef)) (.inl ()) (fun i => .inr i) (fun i h0 hn => by
    simp only [R148_0, F148_0, v132, h0, hn, decide_true, Bool.and_self, cond_true]
    rw [wrap_in (a := i + 1) (by omega) (by omega)]) (by simp only [R148_0, F148_0, Int.lt_irrefl, decide_false, cond_false]) xs.length (((xs.length : Int) - 0).toNat + 1) 0 (Int.le_refl 0) (by omega) (by omega)
  unfold q148 v148_0
  rw [key]
  cases findF (fun i => !keepR a b (xs.getD i.toNat .undef)) xs.length 0 <;> exact ⟨rfl, rfl⟩
theorem getD_get (xs : List AV) (i : Nat) (h : i < xs.length) : xs.getD i .undef = xs[i] := by simp [h]
theorem take_flt {f : AV → Bool} (xs : List AV) (n : Nat) (h : ∀ k : Nat, k < n → k < xs.length → f (xs.getD k .undef) = true) : (xs.take n).filter f = xs.take n := by
  refine List.filter_eq_self.2 fun x hx => ?_
  obtain ⟨k, hk, rfl⟩ := List.getElem_of_mem hx
  rw [List.length_take] at hk
  have := h k (by omega) (by omega)
  rw [getD_get xs k (by omega)] at this
  rw [List.getElem_take]
  exact this
theorem take_step {f : AV → Bool} (xs : List AV) (i : Nat) (h : i < xs.length) : (xs.take (i + 1)).filter f = (xs.take i).filter f ++ (bif f (xs.getD i .undef) then [xs.getD i .undef] else []) := by
  rw [List.take_succ_eq_append_getElem h, List.filter_append, getD_get xs i h]
  cases hf : f xs[i] <;> simp [hf]
theorem take_set_step (xs : List AV) (i : Nat) (x : AV) (h : i < xs.length) : (xs.set i x).take (i + 1) = xs.take i ++ [x] := by
  rw [List.take_succ_eq_append_getElem (by rw [List.length_set]; exact h), List.take_set_of_le (Nat.le_refl _)]
  simp
theorem drop_at {xs ys : List AV} {k : Nat} (h : xs.drop k = ys.drop k) (hl : xs.length = ys.length) : xs.getD k .undef = ys.getD k .undef := by
  have : (xs.drop k)[0]? = (ys.drop k)[0]? := by rw [h]
  rw [List.getElem?_drop, List.getElem?_drop, Nat.add_zero] at this
  rw [List.getD_eq_getElem?_getD, List.getD_eq_getElem?_getD, this]
theorem drop_next {xs ys : List AV} {k : Nat} (h : xs.drop k = ys.drop k) : xs.drop (k + 1) = ys.drop (k + 1) := by
  have : (xs.drop k).drop 1 = (ys.drop k).drop 1 := by rw [h]
  rw [List.drop_drop, List.drop_drop] at this
  exact this
theorem P130 (xs : List AV) (a b : Int) (h : xs.length ≤ 1048576) (hc : CnP xs) : q130 xs a b = true ∧ ((v130_2 xs a b).drop (v130_0 xs a b)).take (v130_1 xs a b) = xs.filter (keepR a b) := by
  obtain ⟨p1, p2⟩ := P148 xs a b h
  unfold q130 v130_0 v130_1 v130_2
  rw [p1, p2]
  generalize hz : ro (findF (fun i => !keepR a b (xs.getD i.toNat .undef)) xs.length 0) (-1) id = z
  cases hf : findF (fun i => !keepR a b (xs.getD i.toNat .undef)) xs.length 0 with
  | none =>
    rw [hf] at hz
    obtain rfl : z = -1 := hz.symm
    refine ⟨rfl, ?_⟩
    show (xs.drop 0).take xs.length = _
    rw [List.drop_zero, List.take_length]
    have : (findF (fun i => !keepR a b (xs.getD i.toNat .undef)) xs.length 0).isNone = true := by rw [hf]; rfl
    have hall := (findF_isNone _ _).1 this
    have := take_flt (f := keepR a b) xs xs.length fun k k0 _ => by
      have := hall (k : Int) (by omega) (by omega)
      simpa using this
    rw [List.take_length] at this
    exact this.symm
  | some i =>
    rw [hf] at hz
    obtain rfl : i = z := hz
    obtain ⟨i0, i1, i2⟩ := findF_some _ _ hf
    have ifst := findF_first _ _ hf
    have d0 : decide (i = -1) = false := decide_eq_false (by omega)
    obtain ⟨r, k1, k2, k3, k4, k5⟩ := runW_ends (f := R130_0 a b) (fun s : Int × Int × List AV => 0 ≤ s.1 ∧ s.1 < s.2.1 ∧ s.2.1 ≤ xs.length ∧ s.2.2.length = xs.length ∧ s.2.2.take s.1.toNat = (xs.take s.2.1.toNat).filter (keepR a b) ∧ s.2.2.drop s.2.1.toNat = xs.drop s.2.1.toNat)
      (fun r => 0 ≤ r.1 ∧ r.1 ≤ xs.length ∧ r.2.length = xs.length ∧ r.2.take r.1.toNat = xs.filter (keepR a b)) (fun s => ((xs.length : Int) - s.2.1).toNat) (fun s hI => by
        obtain ⟨t, k, ys⟩ := s
        obtain ⟨t0, t1, t2, hl, ht, hd⟩ := hI
        simp only at t0 t1 t2 hl ht hd
        by_cases hk : k < ys.length
        · have d1 : decide (k < (ys.length : Int)) = true := decide_eq_true hk
          have d2 : decide (0 ≤ k) = true := decide_eq_true (by omega)
          have d3 : decide (0 ≤ t) = true := decide_eq_true t0
          have d4 : decide (t < (ys.length : Int)) = true := decide_eq_true (by omega)
          have wk : IntKind.i64.wrap (k + 1) = k + 1 := wrap_in (by omega) (by omega)
          have wt : IntKind.i64.wrap (t + 1) = t + 1 := wrap_in (by omega) (by omega)
          have hx := drop_at hd hl
          have hstep := take_step (f := keepR a b) xs k.toNat (by omega)
          rw [← hx] at hstep
          rw [← show (k + 1).toNat = k.toNat + 1 by omega] at hstep
          have hdn := drop_next hd
          rw [← show (k + 1).toNat = k.toNat + 1 by omega] at hdn
          have hcx := hc (xs.getD k.toNat .undef) (by rw [getD_get xs _ (by omega)]; exact List.getElem_mem _)
          rw [← hx] at hcx
          cases hp : keepR a b (ys.getD k.toNat .undef) with
          | true =>
            rw [hp] at hstep
            refine .inl ⟨(t + 1, k + 1, ys.set t.toNat (ys.getD k.toNat .undef)), ?_, ⟨by simp only; omega, by simp only; omega, by simp only; omega, by simp only; rw [List.length_set]; exact hl, ?_, ?_⟩, by simp only; omega⟩
            · simp only [R130_0, F130_0, v132, d1, d2, d3, d4, hp, wk, wt, Bool.and_self, cond_true, Bool.not_true, Bool.not_false]
              rw [← show avP (fI (ys.getD k.toNat .undef) 0, fI (ys.getD k.toNat .undef) 1) = AV.agg [AV.int .i64 (fI (ys.getD k.toNat .undef) 0), AV.int .i64 (fI (ys.getD k.toNat .undef) 1)] from rfl, ← hcx]
            · simp only
              rw [show (t + 1).toNat = t.toNat + 1 by omega, take_set_step ys t.toNat _ (by omega), ht, hstep]
              rfl
            · simp only
              rw [List.drop_set_of_lt (by omega)]
              exact hdn
          | false =>
            rw [hp] at hstep
            refine .inl ⟨(t, k + 1, ys), ?_, ⟨t0, by simp only; omega, by simp only; omega, hl, ?_, hdn⟩, by simp only; omega⟩
            · simp only [R130_0, F130_0, v132, d1, d2, hp, wk, Bool.and_self, cond_true, Bool.not_true, Bool.not_false, cond_false]
            · simp only
              rw [ht, hstep, cond_false, List.append_nil]
        · have d1 : decide (k < (ys.length : Int)) = false := decide_eq_false hk
          refine .inr ⟨(t, ys), by simp only [R130_0, F130_0, d1, cond_false], t0, by simp only; omega, hl, ?_⟩
          simp only
          rw [ht, List.take_of_length_le (by omega)])
      (((xs.length : Int) - (i + 1)).toNat + 1) (i, i + 1, xs) ⟨i0, by simp only; omega, by simp only; omega, rfl, by
        simp only
        rw [show (i + 1).toNat = i.toNat + 1 by omega, take_step xs i.toNat (by omega), take_flt xs i.toNat fun k k0 _ => by
          have := ifst (k : Int) (by omega) (by omega)
          simpa using this]
        simp only [Bool.not_eq_true'] at i2
        rw [i2, cond_false, List.append_nil], rfl⟩ (by simp only; omega)
    have e1 : IntKind.i64.wrap (i + 1) = i + 1 := wrap_in (by omega) (by omega)
    simp only [d0, cond_false, e1, k1, ro, Bool.true_and]
    have t1 : (r.2.take r.1.toNat).length = r.1.toNat := by rw [List.length_take]; omega
    refine ⟨?_, ?_⟩
    · simp only [List.length_append, List.length_take, List.length_replicate, List.length_drop]
      simp only [Bool.and_eq_true, decide_eq_true_eq]
      omega
    · show (List.drop 0 _).take (r.1.toNat - 0) = _
      rw [List.drop_zero, Nat.sub_zero, List.append_assoc, List.take_append_of_le_length (by omega), List.take_of_length_le (by omega)]
      exact k5
theorem P97 (vs rs ps : List AV) (a b : Int) (h : vs.length ≤ 1048576) (hl : rs.length = vs.length) : q97 vs rs ps a b = true ∧ v97_0 vs rs ps a b = (els vs rs).filter (keepR a b) := by
  obtain ⟨p1, p2⟩ := P131 vs rs ps h hl
  obtain ⟨p3, p4⟩ := P130 (els vs rs) a b (by rw [els_len]; exact h) (els_cn vs rs)
  unfold q97 v97_0
  rw [p1, p2, p3, p4]
  exact ⟨rfl, rfl⟩
/-! ### match -/
/-- The pairs of rows that an element makes; those that all make. -/
def jn1 (x y : AV) : List AV := bif decide (fI x 0 = fI y 0) then [avP (fI x 1, fI y 1)] else []
def jn (x : AV) (B : List AV) : List AV := B.flatMap (jn1 x)
def jns (A B : List AV) : List AV := A.flatMap fun x => jn x B
theorem jn1_len (x y : AV) : (jn1 x y).length ≤ 1 := by unfold jn1; cases decide (fI x 0 = fI y 0) <;> simp
theorem flat_len {g : AV → List AV} {c : Nat} : ∀ (xs : List AV), (∀ x ∈ xs, (g x).length ≤ c) → (xs.flatMap g).length ≤ c * xs.length
  | [], _ => by simp
  | x :: xs, h => by
    have h1 := flat_len xs fun y hy => h y (List.mem_cons_of_mem _ hy)
    have h2 := h x (List.mem_cons_self ..)
    rw [List.flatMap_cons, List.length_append, List.length_cons, Nat.mul_add]
    omega
theorem jn_len (x : AV) (B : List AV) : (jn x B).length ≤ B.length := by
  have := flat_len (g := jn1 x) (c := 1) B fun y _ => jn1_len x y
  unfold jn
  omega
theorem jns_len (A B : List AV) : (jns A B).length ≤ B.length * A.length := flat_len A fun x _ => jn_len x B
theorem P96 (A B : List AV) (ha : A.length ≤ 64) (hb : B.length ≤ 64) : q96 A B = true ∧ v96_0 A B = sortPL (jns A B) := by
  have key := runW_flat (f := R96_0 B A A.length) (fun i zs => (i, zs)) id A (fun x => jn x B) 64 (fun x _ => by have := jn_len x B; omega) []
    (fun i zs h0 hn hz => by
      have d1 : decide (i < (A.length : Int)) = true := decide_eq_true hn
      have d2 : decide (0 ≤ i) = true := decide_eq_true h0
      simp only [List.length_nil, Nat.zero_add] at hz
      generalize hx : A.getD i.toNat .undef = x
      have inner := runW_flat (f := R96_2 B A A.length i B B.length (fI x 0) (fI x 1)) (fun i zs => (i, zs)) id B (jn1 x) 1 (fun y _ => jn1_len x y) zs
        (fun j us j0 jn hu => by
          have c1 : decide (j < (B.length : Int)) = true := decide_eq_true jn
          have c2 : decide (0 ≤ j) = true := decide_eq_true j0
          have wj : IntKind.i64.wrap (j + 1) = j + 1 := wrap_in (by omega) (by omega)
          simp only [R96_2, F96_2, c1, c2, wj, Bool.and_self, cond_true, List.length_singleton]
          rw [decide_eq_true (by omega : (us.length + 1) * 16 ≤ 140737488355328), decide_eq_true (by omega : us.length + 1 ≤ 140737488355328)]
          unfold jn1
          cases decide (fI x 0 = fI (B.getD j.toNat .undef) 0)
          · simp
          · rfl)
        (fun us => by simp only [R96_2, F96_2, Int.lt_irrefl, decide_false, cond_false]; rfl) B.length rfl
      have wi : IntKind.i64.wrap (i + 1) = i + 1 := wrap_in (by omega) (by omega)
      simp only [R96_0, F96_0, d1, d2, hx, Bool.and_self, cond_true, inner, ro, wi]
      rfl)
    (fun zs => by simp only [R96_0, F96_0, Int.lt_irrefl, decide_false, cond_false]; rfl) A.length rfl
  have hl := jns_len A B
  have hm : B.length * A.length ≤ 64 * 64 := Nat.mul_le_mul hb ha
  unfold q96 v96_0
  rw [key]
  simp only [ro, id, List.nil_append]
  refine ⟨?_, rfl⟩
  unfold q126
  exact decide_eq_true (by unfold jns at hl; omega)
theorem avP0 (z : Int × Int) : fI (avP z) 0 = z.1 := rfl
theorem avP1 (z : Int × Int) : fI (avP z) 1 = z.2 := rfl
theorem keep_all {vs rs ps : List AV} (h : Col vs rs ps) : (els vs rs).filter (keepR (-1000) 1000) = els vs rs := by
  refine List.filter_eq_self.2 fun x hx => ?_
  unfold els at hx
  obtain ⟨k, hk, rfl⟩ := List.mem_map.1 hx
  rw [List.mem_range] at hk
  obtain ⟨h1, h2⟩ := h.vals k (by omega) (by omega)
  unfold keepR v133_0 v149_0
  rw [avP0, decide_eq_true (by omega : (-1000 : Int) ≤ el vs k), decide_eq_true (by omega : el vs k < 1000)]
  rfl
theorem isC_len {vs rs ps : List AV} (h : vs.length ≤ 1048576) (hc : isC vs rs ps = true) : vs.length ≤ 64 ∧ rs.length = vs.length := by
  have := (isC_iff vs rs ps h).1 hc
  exact ⟨this.n64, by have := this.len; omega⟩
/-- The pairs that the scan finds. -/
def scanJ (vs rs us qs : List AV) (a b : Int) : List AV := jns ((els vs rs).filter (keepR a b)) ((els us qs).filter (keepR a b))
theorem P47 (v r p v' r' p' : List AV) (a b : Int) (h1 : v.length ≤ 1048576) (h2 : r.length ≤ 1048576) (h3 : p.length ≤ 1048576) (h4 : v'.length ≤ 1048576) (h5 : r'.length ≤ 1048576) (h6 : p'.length ≤ 1048576) :
    q47 v r p v' r' p' a b = true ∧ v47_0 v r p v' r' p' a b = bif isC v r p && isC v' r' p' then sortPL (scanJ v r v' r' a b) else [] := by
  unfold q47 v47_0
  rw [(P70 v r p h1 h2 h3).1, (P70 v r p h1 h2 h3).2, (P70 v' r' p' h4 h5 h6).1, (P70 v' r' p' h4 h5 h6).2]
  cases c1 : isC v r p
  · exact ⟨rfl, rfl⟩
  cases c2 : isC v' r' p'
  · exact ⟨rfl, rfl⟩
  obtain ⟨l1, l2⟩ := isC_len h1 c1
  obtain ⟨l3, l4⟩ := isC_len h4 c2
  obtain ⟨e1, e2⟩ := P97 v r p a b h1 l2
  obtain ⟨e3, e4⟩ := P97 v' r' p' a b h4 l4
  have f1 : ((els v r).filter (keepR a b)).length ≤ 64 := Nat.le_trans (List.length_filter_le ..) (by rw [els_len]; exact l1)
  have f2 : ((els v' r').filter (keepR a b)).length ≤ 64 := Nat.le_trans (List.length_filter_le ..) (by rw [els_len]; exact l3)
  obtain ⟨e5, e6⟩ := P96 _ _ f1 f2
  rw [e1, e2, e3, e4, e5, e6]
  exact ⟨rfl, rfl⟩

end Go.Proofs.Ytdhhceamknidmaa
