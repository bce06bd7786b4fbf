/- joins, 2 -/
import Derived.Test.YtdhhceamknidmaaSJj
namespace Go.Proofs.Ytdhhceamknidmaa
open Go Go.Proofs.VE
set_option linter.unusedVariables false
set_option linter.unusedSimpArgs false
/-! ### slices.Compact -/
/-- The list T bears the numbers of zs, each once, in order. -/
def SM (T zs : List Int) : Prop := T.Pairwise (· < ·) ∧ ∀ z, z ∈ T ↔ z ∈ zs
theorem SM.dup {T zs : List Int} {x : Int} (h : SM T zs) (hx : x ∈ zs) : SM T (zs ++ [x]) := by
  refine ⟨h.1, fun z => ?_⟩
  rw [h.2 z, List.mem_append, List.mem_singleton]
  constructor
  · exact .inl
  · rintro (h1 | rfl)
    · exact h1
    · exact hx
theorem SM.new {T zs : List Int} {x : Int} (h : SM T zs) (hx : ∀ z ∈ zs, z < x) : SM (T ++ [x]) (zs ++ [x]) := by
  refine ⟨List.pairwise_append.2 ⟨h.1, List.pairwise_singleton .., fun a ha b hb => ?_⟩, fun z => ?_⟩
  · rw [List.mem_singleton] at hb
    subst hb
    exact hx a ((h.2 a).1 ha)
  · rw [List.mem_append, List.mem_append, h.2 z]
theorem SM.nodup {T : List Int} (h : T.Pairwise (· < ·)) : T.Nodup := h.imp fun {a b} hab => by omega
theorem SM.uniq {T T' zs zs' : List Int} (h : SM T zs) (h' : SM T' zs') (he : ∀ z, z ∈ zs ↔ z ∈ zs') : T = T' :=
  List.Perm.eq_of_pairwise (le := (· < ·)) (fun a b _ _ h1 h2 => by omega) h.1 h'.1 ((List.perm_ext_iff_of_nodup (SM.nodup h.1) (SM.nodup h'.1)).2 fun z => by rw [h.2, h'.2, he])
theorem ints_next (xs : List AV) (i : Nat) (h : i < xs.length) : ints (xs.take (i + 1)) = ints (xs.take i) ++ [el xs i] := by
  unfold ints el
  rw [List.take_succ_eq_append_getElem h, List.map_append, show ((i : Nat) : Int).toNat = i by omega, getD_get xs i h]
  rfl
theorem ints_mem {xs : List AV} {z : Int} : z ∈ ints xs ↔ ∃ k : Int, 0 ≤ k ∧ k < xs.length ∧ el xs k = z := by
  constructor
  · intro h
    obtain ⟨k, hk, e⟩ := List.getElem_of_mem h
    rw [ints_get xs k hk] at e
    rw [ints_len] at hk
    exact ⟨k, by omega, by omega, e⟩
  · rintro ⟨k, k0, k1, rfl⟩
    exact List.mem_of_getElem? (ints_el xs k k0 k1)
theorem ints_mem_take {xs : List AV} {z : Int} {n : Nat} (hn : n ≤ xs.length) : z ∈ ints (xs.take n) ↔ ∃ k : Int, 0 ≤ k ∧ k < n ∧ el xs k = z := by
  rw [ints_mem, List.length_take]
  constructor
  · rintro ⟨k, k0, k1, e⟩
    refine ⟨k, k0, by omega, ?_⟩
    rw [← e]
    unfold el
    rw [List.getD_eq_getElem?_getD, List.getD_eq_getElem?_getD, List.getElem?_take_of_lt (by omega)]
  · rintro ⟨k, k0, k1, e⟩
    refine ⟨k, k0, by omega, ?_⟩
    rw [← e]
    unfold el
    rw [List.getD_eq_getElem?_getD, List.getD_eq_getElem?_getD, List.getElem?_take_of_lt (by omega)]
theorem strict_take {xs : List AV} (ha : asc xs xs.length) (n : Nat) (hn : n ≤ xs.length) (hd : ∀ j : Int, 1 ≤ j → j < n → el xs j ≠ el xs (j - 1)) : (ints (xs.take n)).Pairwise (· < ·) := by
  induction n with
  | zero => exact List.Pairwise.nil
  | succ n ih =>
    rw [ints_next xs n (by omega)]
    refine List.pairwise_append.2 ⟨ih (by omega) fun j j1 j2 => hd j j1 (by omega), List.pairwise_singleton .., fun a h1 b hb => ?_⟩
    rw [List.mem_singleton] at hb
    subst hb
    obtain ⟨k, k0, k1, rfl⟩ := (ints_mem_take (by omega)).1 h1
    have e1 := hd (n : Int) (by omega) (by omega)
    have e2 := ha ((n : Int) - 1) n (by omega) (by omega) (by omega)
    by_cases e : k = (n : Int) - 1
    · rw [e]; omega
    · have := ha k ((n : Int) - 1) k0 (by omega) (by omega)
      omega
theorem run93 (xs : List AV) (k : Int) (h : xs.length ≤ 1048576) (ha : asc xs xs.length) (k1 : 1 ≤ k) (k2 : k < xs.length) (he : el xs k = el xs (k - 1)) (hs : (ints (xs.take k.toNat)).Pairwise (· < ·)) :
    ∃ r, runW (R93_2 (Int.toNat k) (Int.toNat (xs.length : Int) - Int.toNat k)) ((((Int.toNat (xs.length : Int) - Int.toNat k : Nat) : Int) - 1 : Int).toNat + 1) (k, 1, xs) = some r ∧ 0 ≤ r.1 ∧ r.1 ≤ xs.length ∧ r.2.length = xs.length ∧ SM (ints (r.2.take r.1.toNat)) (ints xs) := by
  refine runW_ends (f := R93_2 (Int.toNat k) (Int.toNat (xs.length : Int) - Int.toNat k)) (fun s : Int × Int × List AV => k ≤ s.1 ∧ s.1 ≤ k + s.2.1 - 1 ∧ 1 ≤ s.2.1 ∧ k + s.2.1 ≤ xs.length ∧ s.2.2.length = xs.length ∧ s.2.2.drop (k + s.2.1 - 1).toNat = xs.drop (k + s.2.1 - 1).toNat ∧ SM (ints (s.2.2.take s.1.toNat)) (ints (xs.take (k + s.2.1).toNat)))
    (fun r => 0 ≤ r.1 ∧ r.1 ≤ xs.length ∧ r.2.length = xs.length ∧ SM (ints (r.2.take r.1.toNat)) (ints xs)) (fun s => ((xs.length : Int) - k - s.2.1).toNat) (fun s hI => ?_) _ (k, 1, xs)
    ⟨Int.le_refl _, by simp only; omega, by simp only; omega, by simp only; omega, rfl, rfl, ?_⟩ (by simp only; omega)
  · obtain ⟨t, j, ys⟩ := s
    obtain ⟨t0, t1, j0, j1, hl, hd, hT⟩ := hI
    simp only at t0 t1 j0 j1 hl hd hT
    by_cases hj : k + j < xs.length
    · have d1 : decide (j < ((Int.toNat (xs.length : Int) - Int.toNat k : Nat) : Int)) = true := decide_eq_true (by omega)
      have d2 : decide (0 ≤ j) = true := decide_eq_true (by omega)
      have wj1 : IntKind.i64.wrap (j - 1) = j - 1 := wrap_in (by omega) (by omega)
      have wj : IntKind.i64.wrap (j + 1) = j + 1 := wrap_in (by omega) (by omega)
      have wt : IntKind.i64.wrap (t + 1) = t + 1 := wrap_in (by omega) (by omega)
      have d3 : decide (Int.toNat k + (Int.toNat (xs.length : Int) - Int.toNat k) ≤ ys.length) = true := decide_eq_true (by omega)
      have d4 : decide (0 ≤ j - 1) = true := decide_eq_true (by omega)
      have d5 : decide (j - 1 < ((Int.toNat (xs.length : Int) - Int.toNat k : Nat) : Int)) = true := decide_eq_true (by omega)
      have d6 : decide (0 ≤ t) = true := decide_eq_true (by omega)
      have d7 : decide (t < (ys.length : Int)) = true := decide_eq_true (by omega)
      have x1 := drop_at hd hl
      have hdn := drop_next hd
      have x2 := drop_at hdn hl
      rw [show (k + j - 1).toNat + 1 = (k + j).toNat by omega] at x2 hdn
      have g1 : fI (ys.getD (Int.toNat k + Int.toNat j) AV.undef) 0 = el xs (k + j) := by
        unfold el; rw [← x2, show Int.toNat k + Int.toNat j = (k + j).toNat by omega]
      have g2 : fI (ys.getD (Int.toNat k + Int.toNat (j - 1)) AV.undef) 0 = el xs (k + j - 1) := by
        unfold el; rw [← x1, show Int.toNat k + Int.toNat (j - 1) = (k + j - 1).toNat by omega]
      have nx := ints_next xs (k + j).toNat (by omega)
      rw [show (k + j).toNat + 1 = (k + (j + 1)).toNat by omega, show (((k + j).toNat : Nat) : Int) = k + j by omega] at nx
      by_cases hq : el xs (k + j) = el xs (k + j - 1)
      · have d8 : decide (el xs (k + j) = el xs (k + j - 1)) = true := decide_eq_true hq
        refine .inl ⟨(t, j + 1, ys), ?_, ⟨t0, by simp only; omega, by simp only; omega, by simp only; omega, hl, ?_, ?_⟩, by simp only; omega⟩
        · simp only [R93_2, F93_2, d1, d2, d3, d4, d5, wj1, wj, g1, g2, d8, Bool.and_self, Bool.not_true, cond_true, cond_false]
        · simp only
          rw [show k + (j + 1) - 1 = k + j by omega]
          exact hdn
        · simp only
          rw [nx]
          refine hT.dup ((ints_mem_take (by omega)).2 ⟨k + j - 1, by omega, by omega, hq.symm⟩)
      · have d8 : decide (el xs (k + j) = el xs (k + j - 1)) = false := decide_eq_false hq
        refine .inl ⟨(t + 1, j + 1, ys.set t.toNat (AV.agg [AV.int .i64 (el xs (k + j))])), ?_, ⟨by simp only; omega, by simp only; omega, by simp only; omega, by simp only; omega, by simp only; rw [List.length_set]; exact hl, ?_, ?_⟩, by simp only; omega⟩
        · simp only [R93_2, F93_2, d1, d2, d3, d4, d5, d6, d7, wj1, wj, wt, g1, g2, d8, Bool.and_self, Bool.not_false, cond_true]
        · simp only
          rw [show k + (j + 1) - 1 = k + j by omega, List.drop_set_of_lt (by omega)]
          exact hdn
        · simp only
          rw [nx, show (t + 1).toNat = t.toNat + 1 by omega, take_set_step ys t.toNat _ (by omega)]
          show SM (List.map _ _) _
          rw [List.map_append]
          refine SM.new (x := el xs (k + j)) hT fun z hz => ?_
          obtain ⟨i, i0, i1, rfl⟩ := (ints_mem_take (by omega)).1 hz
          have e1 := ha (k + j - 1) (k + j) (by omega) (by omega) (by omega)
          by_cases e : i = k + j - 1
          · rw [e]; omega
          · have := ha i (k + j - 1) i0 (by omega) (by omega)
            omega
    · have d1 : decide (j < ((Int.toNat (xs.length : Int) - Int.toNat k : Nat) : Int)) = false := decide_eq_false (by omega)
      refine .inr ⟨(t, ys), by simp only [R93_2, F93_2, d1, cond_false], by simp only; omega, by simp only; omega, hl, ?_⟩
      simp only
      rw [List.take_of_length_le (by omega : xs.length ≤ (k + j).toNat)] at hT
      exact hT
  · simp only
    have nx := ints_next xs k.toNat (by omega)
    rw [show k.toNat + 1 = (k + 1).toNat by omega, show ((k.toNat : Nat) : Int) = k by omega] at nx
    rw [nx]
    refine SM.dup ⟨hs, fun z => Iff.rfl⟩ ((ints_mem_take (by omega)).2 ⟨k - 1, by omega, by omega, he.symm⟩)
theorem P93 (xs : List AV) (h : xs.length ≤ 1048576) (ha : asc xs xs.length) : q93 xs = true ∧ SM (ints (((v93_2 xs).drop (v93_0 xs)).take (v93_1 xs))) (ints xs) := by
  unfold q93 v93_0 v93_1 v93_2
  by_cases h2 : (xs.length : Int) < 2
  · rw [decide_eq_true h2]
    refine ⟨rfl, ?_⟩
    show SM (ints ((xs.drop 0).take xs.length)) (ints xs)
    rw [List.drop_zero, List.take_length]
    refine ⟨?_, fun z => Iff.rfl⟩
    have := strict_take ha xs.length (Nat.le_refl _) fun j j1 j2 => by omega
    rw [List.take_length] at this
    exact this
  rw [decide_eq_false h2]
  obtain ⟨r, e1, e2⟩ := runW_ends (f := R93_0 xs) (fun s : Int => 1 ≤ s ∧ s ≤ xs.length ∧ ∀ j : Int, 1 ≤ j → j < s → el xs j ≠ el xs (j - 1))
    (fun r : Unit ⊕ (Nat × Nat × List AV) => match r with
      | .inl _ => SM (ints xs) (ints xs)
      | .inr p => SM (ints ((p.2.2.drop p.1).take p.2.1)) (ints xs)) (fun s => ((xs.length : Int) - s).toNat) (fun s hI => by
      obtain ⟨s1, s2, hd⟩ := hI
      by_cases hs : s < xs.length
      · have d1 : decide (s < (xs.length : Int)) = true := decide_eq_true hs
        have d2 : decide (0 ≤ s) = true := decide_eq_true (by omega)
        have w1 : IntKind.i64.wrap (s - 1) = s - 1 := wrap_in (by omega) (by omega)
        have w2 : IntKind.i64.wrap (s + 1) = s + 1 := wrap_in (by omega) (by omega)
        have d3 : decide (0 ≤ s - 1) = true := decide_eq_true (by omega)
        have d4 : decide (s - 1 < (xs.length : Int)) = true := decide_eq_true (by omega)
        have g1 : fI (xs.getD s.toNat AV.undef) 0 = el xs s := rfl
        have g2 : fI (xs.getD (s - 1).toNat AV.undef) 0 = el xs (s - 1) := rfl
        by_cases hq : el xs s = el xs (s - 1)
        · have d5 : decide (el xs s = el xs (s - 1)) = true := decide_eq_true hq
          have d6 : decide (s ≤ (xs.length : Int)) = true := decide_eq_true (by omega)
          have d7 : decide ((xs.length : Int) ≤ (xs.length : Int)) = true := decide_eq_true (by omega)
          obtain ⟨r, r1, r2, r3, r4, r5⟩ := run93 xs s h ha s1 hs hq (strict_take ha s.toNat (by omega) fun j j1 j2 => hd j j1 (by omega))
          have d8 : decide (0 ≤ r.1) = true := decide_eq_true r2
          have d9 : decide (r.1 ≤ (r.2.length : Int)) = true := decide_eq_true (by omega)
          have d10 : decide ((r.2.length : Int) ≤ (r.2.length : Int)) = true := decide_eq_true (by omega)
          have tl : (r.2.take r.1.toNat).length = r.1.toNat := by rw [List.length_take]; omega
          obtain ⟨H, hH⟩ : ∃ H, H = List.take (Int.toNat r.1) r.2 ++ List.replicate (Int.toNat (r.2.length : Int) - (Int.toNat r.1)) (AV.int .i64 0) ++ List.drop ((Int.toNat r.1) + (Int.toNat (r.2.length : Int) - (Int.toNat r.1))) r.2 := ⟨_, rfl⟩
          have hHl : r.1 ≤ (H.length : Int) := by
            rw [hH, List.length_append, List.length_append, tl]
            omega
          have d11 : decide (r.1 ≤ (H.length : Int)) = true := decide_eq_true hHl
          refine .inr ⟨.inr (Int.toNat 0, Int.toNat r.1 - Int.toNat 0, H), ?_, ?_⟩
          · simp only [R93_0, F93_0, d1, d2, w1, d3, d4, g1, g2, d5, d6, d7, r1, ro, d8, d9, d10, ← hH, d11, Bool.and_self, cond_true]
            rfl
          · show SM (ints ((H.drop 0).take (r.1.toNat - 0))) (ints xs)
            rw [List.drop_zero, Nat.sub_zero, hH, List.append_assoc, List.take_append_of_le_length (by omega), List.take_of_length_le (by omega)]
            exact r5
        · have d5 : decide (el xs s = el xs (s - 1)) = false := decide_eq_false hq
          refine .inl ⟨s + 1, ?_, ⟨by omega, by omega, fun j j1 j2 => ?_⟩, by omega⟩
          · simp only [R93_0, F93_0, d1, d2, w1, w2, d3, d4, g1, g2, d5, Bool.and_self, cond_true, cond_false]
          · by_cases e : j = s
            · rw [e]; exact hq
            · exact hd j j1 (by omega)
      · have d1 : decide (s < (xs.length : Int)) = false := decide_eq_false hs
        refine .inr ⟨.inl (), by simp only [R93_0, F93_0, d1, cond_false], ?_⟩
        refine ⟨?_, fun z => Iff.rfl⟩
        have := strict_take ha xs.length (Nat.le_refl _) fun j j1 j2 => hd j j1 (by omega)
        rw [List.take_length] at this
        exact this) (((xs.length : Int) - 1 : Int).toNat + 1) 1 ⟨Int.le_refl _, by omega, fun j j1 j2 => by omega⟩ (by omega)
  rw [e1]
  refine ⟨?_, ?_⟩
  · cases r <;> rfl
  · cases r with
    | inl _ =>
      show SM (ints ((xs.drop 0).take xs.length)) (ints xs)
      rw [List.drop_zero, List.take_length]
      exact e2
    | inr p => exact e2

end Go.Proofs.Ytdhhceamknidmaa
