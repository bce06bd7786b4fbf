/- dividing -/
import Derived.Test.YtdhhceamknidmaaSJb
namespace Go.Proofs.Ytdhhceamknidmaa
open Go Go.Proofs.VE
set_option linter.unusedVariables false
set_option linter.unusedSimpArgs false
/-! ### dividing a piece -/
abbrev PS := Int × Int × List AV
abbrev PS' := Int × Int × List AV × List AV
structure ParI (vs : List AV) (v a b : Int) (s : PS) (s' : PS') : Prop where
  e1 : s'.1 = s.1
  e2 : s'.2.1 = s.2.1
  e3 : s'.2.2.2 = s.2.2
  el_ : s'.2.2.1 = appS s.2.2 vs
  i0 : a ≤ s.1
  ij : s.1 ≤ s.2.1 + 1
  j1 : s.2.1 < b
  ins : inS a b s.2.2
  n2 : N2 s.2.2
  len : (s.2.2.length : Int) ≤ s.1 - a
  mid : ∀ k : Int, s.1 ≤ k → k ≤ s.2.1 → el (appS s.2.2 vs) k = el vs k
  lo : ∀ k : Int, a ≤ k → k < s.1 → el (appS s.2.2 vs) k < v
  hi : ∀ k : Int, s.2.1 < k → k < b → v ≤ el (appS s.2.2 vs) k
/-- What dividing a piece comes to. -/
structure Parted (vs : List AV) (v a b : Int) (ss : List AV) (at_ : Int) : Prop where
  i0 : a ≤ at_
  i1 : at_ ≤ b
  ins : inS a b ss
  n2 : N2 ss
  len : (ss.length : Int) ≤ at_ - a
  lo : ∀ k : Int, a ≤ k → k < at_ → el (appS ss vs) k < v
  hi : ∀ k : Int, at_ ≤ k → k < b → v ≤ el (appS ss vs) k
theorem room2 (X : List AV) (a : AV) (h : X.length ≤ 1048576) : (decide ((X.length + [a].length) * 16 ≤ 140737488355328) && decide (X.length + [a].length ≤ 140737488355328)) = true := by
  simp only [List.length_singleton, Bool.and_eq_true, decide_eq_true_eq]
  omega
/-! ### ApplySwaps -/
theorem q123_in (i j : Int) (xs : List AV) (i0 : 0 ≤ i) (i1 : i < xs.length) (j0 : 0 ≤ j) (j1 : j < xs.length) : q123 i j xs = true := by
  unfold q123
  rw [List.length_set, decide_eq_true i0, decide_eq_true i1, decide_eq_true j0, decide_eq_true j1]
  rfl
theorem mem_at {xs : List AV} {k : Int} (h0 : 0 ≤ k) (h1 : k < xs.length) : xs.getD k.toNat .undef ∈ xs := by
  rw [List.getD_eq_getElem?_getD, List.getElem?_eq_getElem (by omega)]
  exact List.getElem_mem _
/-! ### another pivot -/
def insP (ps : List AV) (v a : Int) : List AV := ps.take (place ps v).toNat ++ [mk2 v a] ++ ps.drop (place ps v).toNat
theorem insP_len (ps : List AV) (v a : Int) : (insP ps v a).length = ps.length + 1 := by
  have := place_spec ps v
  unfold insP
  simp only [List.length_append, List.length_take, List.length_drop, List.length_singleton]
  omega
theorem insP_N2 {ps : List AV} (h : N2 ps) (v a : Int) : N2 (insP ps v a) := fun x hx => by
  unfold insP at hx
  rcases List.mem_append.1 hx with hx | hx
  · rcases List.mem_append.1 hx with hx | hx
    · exact h x (List.mem_of_mem_take hx)
    · rw [List.mem_singleton.1 hx]
      rfl
  · exact h x (List.mem_of_mem_drop hx)
theorem insP_at (ps : List AV) (v a : Int) (i : Int) (h0 : 0 ≤ i) : (insP ps v a).getD i.toNat .undef = if i < place ps v then ps.getD i.toNat .undef else if i = place ps v then mk2 v a else ps.getD (i - 1).toNat .undef := by
  obtain ⟨p0, p1, _, _⟩ := place_spec ps v
  unfold insP
  simp only [List.getD_eq_getElem?_getD]
  have tl : (ps.take (place ps v).toNat).length = (place ps v).toNat := by rw [List.length_take]; omega
  split
  · rw [List.append_assoc, List.getElem?_append_left (by omega), List.getElem?_take_of_lt (by omega)]
  · split
    · rename_i e1 e2
      rw [List.append_assoc, List.getElem?_append_right (by omega), tl, e2, Nat.sub_self]
      rfl
    · rw [List.append_assoc, List.getElem?_append_right (by omega), tl, List.getElem?_append_right (by simp; omega), List.getElem?_drop]
      congr 2
      simp only [List.length_singleton]
      omega
theorem Col.pivot {vs rs ps : List AV} (h : Col vs rs ps) {v at_ : Int} (hf : ∀ k : Int, 0 ≤ k → k < ps.length → el ps k ≠ v) (hv : -1000 ≤ v ∧ v ≤ 1000) (ha : 0 ≤ at_ ∧ at_ ≤ vs.length) (hat : ∀ k : Int, 0 ≤ k → k < vs.length → (el vs k < v ↔ k < at_))
    (hcut : ∀ p : Int, 0 ≤ p → p < ps.length → (el ps p < v → pat ps p ≤ at_) ∧ (v < el ps p → at_ ≤ pat ps p)) : Col vs rs (insP ps v at_) := by
  obtain ⟨p0, p1, p2, p3⟩ := place_spec ps v
  have hlen := insP_len ps v at_
  generalize hpl : place ps v = t at *
  have eel : ∀ i : Int, 0 ≤ i → el (insP ps v at_) i = if i < t then el ps i else if i = t then v else el ps (i - 1) := fun i h0 => by
    unfold el
    rw [insP_at ps v at_ i h0, hpl]
    split
    · rfl
    · split <;> rfl
  have epa : ∀ i : Int, 0 ≤ i → pat (insP ps v at_) i = if i < t then pat ps i else if i = t then at_ else pat ps (i - 1) := fun i h0 => by
    unfold pat
    rw [insP_at ps v at_ i h0, hpl]
    split
    · rfl
    · split <;> rfl
  have lo : ∀ k : Int, 0 ≤ k → k < t → el ps k < v := fun k k0 k1 => by
    have := p2 k k0 k1
    have := hf k k0 (by omega)
    omega
  have hi : ∀ k : Int, t ≤ k → k < ps.length → v < el ps k := fun k k0 k1 => by
    by_cases e : k = t
    · rw [e]; exact p3 (by omega)
    · have := (h.lt (i := t) (j := k) p0 (by omega) k1).1
      have := p3 (by omega)
      omega
  refine ⟨h.n64, h.vals, h.len, h.rows, h.dist, fun i i0 i1 => ?_, fun i i0 i1 => ?_, fun i i0 i1 => ?_, fun i i0 i1 k k0 k1 => ?_⟩
  · rw [eel i i0]
    split
    · exact h.pv i i0 (by omega)
    · split
      · exact hv
      · exact h.pv (i - 1) (by omega) (by omega)
  · rw [epa i i0]
    split
    · exact h.pa i i0 (by omega)
    · split
      · exact ha
      · exact h.pa (i - 1) (by omega) (by omega)
  · rw [eel i (by omega), eel (i - 1) (by omega), epa i (by omega), epa (i - 1) (by omega)]
    by_cases h1 : i < t
    · have q : i - 1 < t := by omega
      rw [if_pos h1, if_pos h1, if_pos q, if_pos q]
      exact h.asc i i0 (by omega)
    · by_cases h2 : i = t
      · have q : i - 1 < t := by omega
        rw [if_neg h1, if_neg h1, if_pos h2, if_pos h2, if_pos q, if_pos q]
        have a1 := lo (i - 1) (by omega) (by omega)
        exact ⟨a1, (hcut (i - 1) (by omega) (by omega)).1 a1⟩
      · have q : ¬ i - 1 < t := by omega
        rw [if_neg h1, if_neg h1, if_neg h2, if_neg h2, if_neg q, if_neg q]
        by_cases h3 : i - 1 = t
        · rw [if_pos h3, if_pos h3]
          have a1 := hi (i - 1) (by omega) (by omega)
          exact ⟨a1, (hcut (i - 1) (by omega) (by omega)).2 a1⟩
        · rw [if_neg h3, if_neg h3]
          exact h.asc (i - 1) (by omega) (by omega)
  · rw [eel i i0, epa i i0]
    split
    · exact h.part i i0 (by omega) k k0 k1
    · split
      · exact hat k k0 k1
      · exact h.part (i - 1) (by omega) (by omega) k k0 k1
theorem drop_snoc {xs : List AV} {t k : Int} (h0 : 0 ≤ t) (ht : t ≤ k) (h1 : k < xs.length) : (xs.take (k + 1).toNat).drop t.toNat = (xs.take k.toNat).drop t.toNat ++ [xs.getD k.toNat .undef] := by
  rw [take_snoc (by omega) h1, List.drop_append_of_le_length (by rw [List.length_take]; omega)]

end Go.Proofs.Ytdhhceamknidmaa
