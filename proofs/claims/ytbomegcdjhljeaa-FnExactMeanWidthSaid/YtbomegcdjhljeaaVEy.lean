/- VE, part y: what runs of counting loops come to; plain facts. -/
import Derived.Test.YtbomegcdjhljeaaVEx
namespace Go.Proofs.VE
open Go

/-- A fold over i, i+1, .. (n of them) that may end early. -/
def foldE {T R : Type} (g : Int → T → T ⊕ R) : Nat → Int → T → T ⊕ R
  | 0, _, t => .inl t
  | n + 1, i, t => match g i t with
    | .inl t => foldE g n (i + 1) t
    | .inr r => .inr r

theorem runW_foldE {S T R R' : Type} {f : S → Out S R} (E : Int → T → S) (n : Int) (g : Int → T → T ⊕ R') (K : T → R) (L : R' → R) (I : Int → T → Prop)
    (h1 : ∀ i t, 0 ≤ i → i < n → I i t → match g i t with | .inl t' => f (E i t) = .next (E (i + 1) t') ∧ I (i + 1) t' | .inr r => f (E i t) = .stop (L r))
    (h2 : ∀ t, I n t → f (E n t) = .stop (K t)) : ∀ (m fuel : Nat) (i : Int) (t : T), 0 ≤ i → i + m = n → m < fuel → I i t → runW f fuel (E i t) = some (match foldE g m i t with | .inl t => K t | .inr r => L r)
  | m, 0, i, t, _, _, h, _ => by omega
  | 0, fuel + 1, i, t, _, hn, _, hi => by
    have hn' : i = n := by omega
    subst hn'
    show (f (E i t)).el none _ some = _
    rw [h2 t hi]
    rfl
  | m + 1, fuel + 1, i, t, h0, hn, hf, hi => by
    show (f (E i t)).el none _ some = _
    have h := h1 i t h0 (by omega) hi
    simp only [foldE]
    cases hg : g i t with
    | inl t' =>
      rw [hg] at h
      simp only at h ⊢
      rw [h.1]
      exact runW_foldE E n g K L I h1 h2 m fuel (i + 1) t' (by omega) (by omega) (by omega) h.2
    | inr r =>
      rw [hg] at h
      simp only at h ⊢
      rw [h]
      rfl
theorem runW_fold {S T R : Type} {f : S → Out S R} (E : Int → T → S) (n : Int) (g : Int → T → T) (K : T → R) (I : Int → T → Prop)
    (h1 : ∀ i t, 0 ≤ i → i < n → I i t → f (E i t) = .next (E (i + 1) (g i t)) ∧ I (i + 1) (g i t))
    (h2 : ∀ t, I n t → f (E n t) = .stop (K t)) : ∀ (m fuel : Nat) (i : Int) (t : T), 0 ≤ i → i + m = n → m < fuel → I i t → runW f fuel (E i t) = some (K (foldF g m i t))
  | m, 0, i, t, _, _, h, _ => by omega
  | 0, fuel + 1, i, t, _, hn, _, hi => by
    have hn' : i = n := by omega
    subst hn'
    show (f (E i t)).el none _ some = _
    rw [h2 t hi]
    rfl
  | m + 1, fuel + 1, i, t, h0, hn, hf, hi => by
    show (f (E i t)).el none _ some = _
    have h := h1 i t h0 (by omega) hi
    rw [h.1]
    exact runW_fold E n g K I h1 h2 m fuel (i + 1) (g i t) (by omega) (by omega) (by omega) h.2
/-- A search: the first of i, i+1, .. (n of them) for which p holds. -/
def findF (p : Int → Bool) : Nat → Int → Option Int
  | 0, _ => none
  | n + 1, i => bif p i then some i else findF p n (i + 1)
theorem runW_find {S R : Type} {f : S → Out S R} (E : Int → S) (n : Int) (p : Int → Bool) (K : R) (L : Int → R)
    (h1 : ∀ i, 0 ≤ i → i < n → f (E i) = bif p i then .stop (L i) else .next (E (i + 1)))
    (h2 : f (E n) = .stop K) : ∀ (m fuel : Nat) (i : Int), 0 ≤ i → i + m = n → m < fuel → runW f fuel (E i) = some (ro (findF p m i) K L)
  | m, 0, i, _, _, h => by omega
  | 0, fuel + 1, i, _, hn, _ => by
    have hn' : i = n := by omega
    subst hn'
    show (f (E i)).el none _ some = _
    rw [h2]
    rfl
  | m + 1, fuel + 1, i, h0, hn, hf => by
    show (f (E i)).el none _ some = _
    rw [h1 i h0 (by omega)]
    simp only [findF]
    cases p i with
    | true => rfl
    | false => exact runW_find E n p K L h1 h2 m fuel (i + 1) (by omega) (by omega) (by omega)
theorem foldF_congr {S : Type} {f g : Int → S → S} {n : Int} (h : ∀ i s, 0 ≤ i → i < n → f i s = g i s) : ∀ (m : Nat) (i : Int) (s : S), 0 ≤ i → i + m ≤ n → foldF f m i s = foldF g m i s
  | 0, _, _, _, _ => rfl
  | m + 1, i, s, h0, hn => by
    simp only [foldF]
    rw [h i s h0 (by omega)]
    exact foldF_congr h m (i + 1) (g i s) (by omega) (by omega)
theorem findF_congr {p q : Int → Bool} {n : Int} (h : ∀ i, 0 ≤ i → i < n → p i = q i) : ∀ (m : Nat) (i : Int), 0 ≤ i → i + m ≤ n → findF p m i = findF q m i
  | 0, _, _, _ => rfl
  | m + 1, i, h0, hn => by
    simp only [findF]
    rw [h i h0 (by omega), findF_congr h m (i + 1) (by omega) (by omega)]
theorem findF_none {p : Int → Bool} : ∀ (m : Nat) (i : Int), (∀ j, i ≤ j → j < i + m → p j = false) → findF p m i = none
  | 0, _, _ => rfl
  | m + 1, i, h => by
    simp only [findF, h i (by omega) (by omega), cond_false]
    exact findF_none m (i + 1) fun j h1 h2 => h j (by omega) (by omega)
theorem findF_some {p : Int → Bool} {j : Int} : ∀ (m : Nat) (i : Int), findF p m i = some j → i ≤ j ∧ j < i + m ∧ p j = true
  | 0, _, h => by cases h
  | m + 1, i, h => by
    simp only [findF] at h
    cases hp : p i <;> rw [hp] at h
    · obtain ⟨h1, h2, h3⟩ := findF_some m (i + 1) h
      exact ⟨by omega, by omega, h3⟩
    · simp only [cond_true, Option.some.injEq] at h
      subst h
      exact ⟨by omega, by omega, hp⟩
theorem foldF_set {h : Int → AV} : ∀ (n : Nat) (i : Int) (ys : List AV), 0 ≤ i → (foldF (fun i ys => ys.set i.toNat (h i)) n i ys).length = ys.length ∧
    ∀ j : Nat, (foldF (fun i ys => ys.set i.toNat (h i)) n i ys)[j]? = if i ≤ j ∧ (j : Int) < i + n ∧ j < ys.length then some (h j) else ys[j]?
  | 0, i, ys, _ => ⟨rfl, fun j => by rw [if_neg (by omega)]; rfl⟩
  | n + 1, i, ys, h0 => by
    obtain ⟨h1, h2⟩ := foldF_set (h := h) n (i + 1) (ys.set i.toNat (h i)) (by omega)
    refine ⟨by rw [foldF, h1, List.length_set], fun j => ?_⟩
    rw [foldF, h2 j, List.length_set]
    by_cases hj : i = j
    · subst hj
      rw [if_neg (by omega)]
      by_cases hl : j < ys.length
      · rw [if_pos (by omega), Int.toNat_natCast, List.getElem?_set_self hl]
      · rw [if_neg (by omega), List.getElem?_eq_none (by rw [List.length_set]; omega), List.getElem?_eq_none (by omega)]
    · have hne : i.toNat ≠ j := by omega
      rw [List.getElem?_set_ne hne]
      by_cases hc : i + 1 ≤ j ∧ (j : Int) < i + 1 + n ∧ j < ys.length
      · rw [if_pos hc, if_pos (by omega)]
      · rw [if_neg hc, if_neg (by omega)]
theorem fold_map {f : AV → AV} {z : AV} (xs : List AV) : foldF (fun i ys => ys.set i.toNat (f (xs.getD i.toNat .undef))) xs.length 0 (List.replicate xs.length z) = xs.map f := by
  obtain ⟨h1, h2⟩ := foldF_set (h := fun i => f (xs.getD i.toNat .undef)) xs.length 0 (List.replicate xs.length z) (Int.le_refl 0)
  apply List.ext_getElem?
  intro j
  rw [h2 j, List.getElem?_map, List.length_replicate]
  by_cases hj : j < xs.length
  · rw [if_pos (by omega)]
    simp [hj]
  · rw [if_neg (by omega), List.getElem?_eq_none (by rw [List.length_replicate]; omega), List.getElem?_eq_none (by omega)]
    rfl
/-- A copying loop: element by element into a new slice. -/
theorem run_copy {f : Int × List AV → Out (Int × List AV) (List AV)} {c : AV → AV} {z : AV} (xs : List AV)
    (h1 : ∀ (i : Int) (ys : List AV), 0 ≤ i → i < xs.length → ys.length = xs.length → f (i, ys) = .next (i + 1, ys.set i.toNat (c (xs.getD i.toNat .undef))))
    (h2 : ∀ ys, f ((xs.length : Int), ys) = .stop ys) : runW f (((xs.length : Int) - 0).toNat + 1) (0, List.replicate (Int.toNat (xs.length : Int)) z) = some (xs.map c) := by
  have := runW_fold (f := f) (fun i ys => (i, ys)) xs.length (fun i ys => ys.set i.toNat (c (xs.getD i.toNat .undef))) id (fun _ ys => ys.length = xs.length) (fun i t h0 hn hi => ⟨h1 i t h0 hn hi, by rw [List.length_set]; exact hi⟩) (fun t _ => h2 t)
    xs.length (((xs.length : Int) - 0).toNat + 1) 0 (List.replicate xs.length z) (Int.le_refl 0) (by omega) (by omega) (List.length_replicate ..)
  rw [fold_map] at this
  exact this
end Go.Proofs.VE
