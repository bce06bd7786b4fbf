/- pieces -/
import Derived.Test.YtdhhceamknidmaaSJa
namespace Go.Proofs.Ytdhhceamknidmaa
open Go Go.Proofs.VE
set_option linter.unusedVariables false
set_option linter.unusedSimpArgs false
/-! ### pairs of numbers as they are written -/
def mk2 (a b : Int) : AV := AV.agg [AV.int .i64 a, AV.int .i64 b]
def N2 (ps : List AV) : Prop := ∀ x ∈ ps, mk2 (fI x 0) (fI x 1) = x
theorem N2.at {ps : List AV} (h : N2 ps) {k : Int} (h0 : 0 ≤ k) (h1 : k < ps.length) : mk2 (fI (ps.getD k.toNat .undef) 0) (fI (ps.getD k.toNat .undef) 1) = ps.getD k.toNat .undef := by
  refine h _ ?_
  rw [List.getD_eq_getElem?_getD, List.getElem?_eq_getElem (by omega)]
  exact List.getElem_mem _
theorem N2.map {f : AV → AV} (hf : ∀ x, ∃ a b, f x = mk2 a b) (xs : List AV) : N2 (xs.map f) := fun x hx => by
  obtain ⟨y, _, rfl⟩ := List.mem_map.1 hx
  obtain ⟨a, b, e⟩ := hf y
  rw [e]
  rfl
theorem take_snoc {xs : List AV} {k : Int} (h0 : 0 ≤ k) (h1 : k < xs.length) : xs.take (k + 1).toNat = xs.take k.toNat ++ [xs.getD k.toNat .undef] := by
  rw [show (k + 1).toNat = k.toNat + 1 by omega, List.take_add_one, List.getD_eq_getElem?_getD, List.getElem?_eq_getElem (by omega)]
  rfl
/-! ### FindPivot -/
def findP (ps : List AV) (v : Int) : Option Int := findF (fun i => decide (fI (ps.getD i.toNat .undef) 0 = v)) ps.length 0
theorem findP_none {ps : List AV} {v : Int} (h : (findP ps v).isSome = false) : ∀ k : Int, 0 ≤ k → k < ps.length → el ps k ≠ v := fun k h0 h1 e => by
  have : (findP ps v).isNone = true := by
    cases hf : findP ps v with
    | none => rfl
    | some j => rw [hf] at h; cases h
  have := (findF_isNone _ _).1 this k h0 (by omega)
  exact of_decide_eq_false this e
/-! ### the piece of a value that is no pivot -/
structure Pc (n : Int) (ps : List AV) (v a b t : Int) : Prop where
  t0 : 0 ≤ t
  t1 : t ≤ ps.length
  lo : ∀ k : Int, 0 ≤ k → k < t → el ps k < v
  hi : ∀ k : Int, t ≤ k → k < ps.length → v < el ps k
  ea : a = if t = 0 then 0 else pat ps (t - 1)
  eb : b = if t = ps.length then n else pat ps t
def place (ps : List AV) (v : Int) : Int := ro (findF (fun i => decide (fI (ps.getD i.toNat .undef) 0 > v)) ps.length 0) ps.length id
theorem place_spec (ps : List AV) (v : Int) : 0 ≤ place ps v ∧ place ps v ≤ ps.length ∧ (∀ k : Int, 0 ≤ k → k < place ps v → el ps k ≤ v) ∧ (place ps v < ps.length → v < el ps (place ps v)) := by
  unfold place
  cases hf : findF (fun i => decide (fI (ps.getD i.toNat .undef) 0 > v)) ps.length 0 with
  | none =>
    refine ⟨by simp [ro], by simp [ro], fun k h0 h1 => ?_, fun h => ?_⟩
    · have : (findF (fun i => decide (fI (ps.getD i.toNat .undef) 0 > v)) ps.length 0).isNone = true := by rw [hf]; rfl
      have := (findF_isNone _ _).1 this k h0 (by simp only [ro] at h1; omega)
      have := of_decide_eq_false this
      unfold el
      omega
    · simp only [ro] at h
      omega
  | some j =>
    obtain ⟨h1, h2, h3⟩ := findF_some _ _ hf
    refine ⟨by simpa [ro] using h1, by simp only [ro, id]; omega, fun k h0 hk => ?_, fun _ => ?_⟩
    · simp only [ro, id] at hk
      have key : ∀ (m : Nat) (i : Int), findF (fun i => decide (fI (ps.getD i.toNat .undef) 0 > v)) m i = some j → ∀ k, i ≤ k → k < j → ¬ fI (ps.getD k.toNat .undef) 0 > v := by
        intro m
        induction m with
        | zero => intro i h; cases h
        | succ m ih =>
          intro i h k hk1 hk2
          simp only [findF] at h
          cases hp : decide (fI (ps.getD i.toNat .undef) 0 > v) with
          | true => rw [hp] at h; simp only [cond_true, Option.some.injEq] at h; omega
          | false =>
            rw [hp] at h
            by_cases e : k = i
            · subst e; exact of_decide_eq_false hp
            · exact ih (i + 1) h k (by omega) hk2
      have := key _ _ hf k h0 hk
      unfold el
      omega
    · simp only [ro, id]
      exact of_decide_eq_true h3
theorem pc_of {vs rs ps : List AV} (h : Col vs rs ps) {v : Int} (hf : (findP ps v).isSome = false) : Pc vs.length ps v (if place ps v = 0 then 0 else pat ps (place ps v - 1)) (if place ps v = ps.length then (vs.length : Int) else pat ps (place ps v)) (place ps v) := by
  obtain ⟨h0, h1, h2, h3⟩ := place_spec ps v
  refine ⟨h0, h1, fun k k0 k1 => ?_, fun k k0 k1 => ?_, rfl, rfl⟩
  · have := findP_none hf k k0 (by omega)
    have := h2 k k0 k1
    omega
  · by_cases e : k = place ps v
    · rw [e]; exact h3 (by omega)
    · have := (h.lt (i := place ps v) (j := k) h0 (by omega) k1).1
      have := h3 (by omega)
      omega
/-- What a piece is, for a valid column. -/
structure Piece (vs ps : List AV) (v a b : Int) : Prop where
  a0 : 0 ≤ a
  ab : a ≤ b
  b1 : b ≤ vs.length
  cut : ∀ p : Int, 0 ≤ p → p < ps.length → pat ps p ≤ a ∨ b ≤ pat ps p
  lo : ∀ k : Int, 0 ≤ k → k < a → el vs k < v
  hi : ∀ k : Int, b ≤ k → k < vs.length → v ≤ el vs k
theorem piece_of {vs rs ps : List AV} (h : Col vs rs ps) {v a b t : Int} (hp : Pc vs.length ps v a b t) : Piece vs ps v a b := by
  obtain ⟨t0, t1, lo, hi, ea, eb⟩ := hp
  have fa : 0 ≤ a ∧ a ≤ vs.length ∧ ∀ k : Int, 0 ≤ k → k < a → el vs k < v := by
    rw [ea]
    split
    · exact ⟨Int.le_refl 0, by omega, fun k h0 h1 => by omega⟩
    · have := h.pa (t - 1) (by omega) (by omega)
      refine ⟨this.1, this.2, fun k k0 k1 => ?_⟩
      have h1 := (h.part (t - 1) (by omega) (by omega) k k0 (by omega)).2 k1
      have h2 := lo (t - 1) (by omega) (by omega)
      omega
  have fb : 0 ≤ b ∧ b ≤ vs.length ∧ ∀ k : Int, b ≤ k → k < vs.length → v ≤ el vs k := by
    rw [eb]
    split
    · exact ⟨by omega, Int.le_refl _, fun k h0 h1 => by omega⟩
    · have := h.pa t (by omega) (by omega)
      refine ⟨this.1, this.2, fun k k0 k1 => ?_⟩
      have h1 := h.part t (by omega) (by omega) k (by omega) k1
      have h2 := hi t (Int.le_refl _) (by omega)
      omega
  refine ⟨fa.1, ?_, fb.2.1, fun p p0 p1 => ?_, fa.2.2, fb.2.2⟩
  · rw [ea, eb]
    split
    · split
      · omega
      · exact (h.pa t (by omega) (by omega)).1
    · split
      · exact (h.pa (t - 1) (by omega) (by omega)).2
      · exact (h.lt (i := t - 1) (j := t) (by omega) (by omega) (by omega)).2
  · by_cases hpt : p < t
    · left
      rw [ea, if_neg (by omega)]
      by_cases e : p = t - 1
      · rw [e]; exact Int.le_refl _
      · exact (h.lt (i := p) (j := t - 1) p0 (by omega) (by omega)).2
    · right
      rw [eb, if_neg (by omega)]
      by_cases e : p = t
      · rw [e]; exact Int.le_refl _
      · exact (h.lt (i := t) (j := p) t0 (by omega) p1).2

end Go.Proofs.Ytdhhceamknidmaa
