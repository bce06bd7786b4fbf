/- valid boards -/
import Derived.Test.YtdhhceamknidmaaBLr
namespace Go.Proofs.Ytdhhceamknidmaa
open Go Go.Proofs.VE
set_option linter.unusedVariables false
set_option linter.unusedSimpArgs false
/-! ### valid boards -/
def okI (ws : List AV) : Prop := ∀ i : Int, 0 ≤ i → i < ws.length → fI (ws.getD i.toNat .undef) 5 ≤ 9223372036854775807 ∧ -9223372036854775808 ≤ fI (ws.getD i.toNat .undef) 6
theorem okI_cp {ws : List AV} (h : okI ws) : okI (ws.map cpW) := fun i h0 h1 => by
  rw [List.length_map] at h1
  have e : (ws.map cpW).getD i.toNat .undef = cpW (ws.getD i.toNat .undef) := by
    simp only [List.getD_eq_getElem?_getD, List.getElem?_map, List.getElem?_eq_getElem (show i.toNat < ws.length by omega), Option.map_some, Option.getD_some]
  rw [e]
  exact h i h0 h1
def wkAt (vs ps ws : List AV) (k : Int) : Bool := wkB vs ps (fL (ws.getD k.toNat .undef) 0) (fI (ws.getD k.toNat .undef) 1) (fB (ws.getD k.toNat .undef) 2) (fI (ws.getD k.toNat .undef) 3) (fI (ws.getD k.toNat .undef) 4) (fI (ws.getD k.toNat .undef) 5) (fI (ws.getD k.toNat .undef) 6) (fI (ws.getD k.toNat .undef) 7) (fI (ws.getD k.toNat .undef) 8)
def ovS (ws : List AV) (fr to m : Int) : Bool := v69_0 (fL (ws.getD m.toNat .undef) 0) (fI (ws.getD m.toNat .undef) 1) (fB (ws.getD m.toNat .undef) 2) (fI (ws.getD m.toNat .undef) 3) (fI (ws.getD m.toNat .undef) 4) (fI (ws.getD m.toNat .undef) 5) (fI (ws.getD m.toNat .undef) 6) (fI (ws.getD m.toNat .undef) 7) (fI (ws.getD m.toNat .undef) 8) fr to
def ovI (ws : List AV) (fr to m : Int) : Bool := fB (ws.getD m.toNat .undef) 2 && v72_0 fr to (fI (ws.getD m.toNat .undef) 3) (fI (ws.getD m.toNat .undef) 4)
theorem in19 (vs rs ps ws T : List AV) (s nx fr to i j sw wt k : Int) (rn : Bool) (h : ws.length ≤ 1048576) (k0 : 0 ≤ k) (k1 : k ≤ ws.length) :
    runW (R19_2 k vs rs ps ws s T nx rn fr to i j sw wt) ((k - 0).toNat + 1) 0 = some (bif rn && !noneB (ovS ws fr to) k.toNat then .inr () else .inl ()) := by
  cases rn with
  | false =>
    show (R19_2 k vs rs ps ws s T nx false fr to i j sw wt 0).el none _ some = _
    by_cases hk : 0 < k
    · simp only [R19_2, F19_2, decide_eq_true hk, cond_true, cond_false, Bool.false_and]
      rfl
    · simp only [R19_2, F19_2, decide_eq_false hk, cond_false, Bool.false_and]
      rfl
  | true =>
    have hr : runW (R19_2 k vs rs ps ws s T nx true fr to i j sw wt) ((k - 0).toNat + 1) 0 = some (ro (findF (ovS ws fr to) k.toNat 0) (.inl ()) fun _ => .inr ()) := by
      refine runW_find (fun i => i) k _ _ _ (fun m h0 hn => ?_) ?_ k.toNat _ 0 (Int.le_refl 0) (by omega) (by omega)
      · have d1 : decide (m < k) = true := decide_eq_true hn
        have d2 : decide (0 ≤ m) = true := decide_eq_true h0
        have d3 : decide (m < (ws.length : Int)) = true := decide_eq_true (by omega)
        simp only [R19_2, F19_2, d1, d2, d3, Bool.and_self, cond_true, ovS]
        rw [wrap_in (a := m + 1) (by omega) (by omega)]
      · simp only [R19_2, F19_2, Int.lt_irrefl, decide_false, cond_false]
    rw [hr]
    unfold noneB
    cases findF (ovS ws fr to) k.toNat 0 <;> rfl
def pay9 (x : AV) : (List AV) × Int × Bool × Int × Int × Int × Int × Int × Int := (fL x 0, fI x 1, fB x 2, fI x 3, fI x 4, fI x 5, fI x 6, fI x 7, fI x 8)
theorem in20 (vs rs ps ws T : List AV) (s nx fr to i j sw wt k n : Int) (rn : Bool) (h : ws.length ≤ 1048576) (k0 : 0 ≤ k) (k1 : k ≤ ws.length) :
    ∃ r, runW (R20_2 ws n k ((ws.take (Int.toNat k)).drop (Int.toNat 0)) (((ws.take (Int.toNat k)).drop (Int.toNat 0)).length : Int) vs rs ps ws s T nx rn fr to i j sw wt) (((((ws.take (Int.toNat k)).drop (Int.toNat 0)).length : Int) - 0).toNat + 1) 0 = some r ∧
      (match r with | .inl _ => (rn && !noneB (ovI ws fr to) k.toNat) = false | .inr _ => (rn && !noneB (ovI ws fr to) k.toNat) = true) := by
  have hl : ((ws.take (Int.toNat k)).drop (Int.toNat 0)).length = k.toNat := by rw [List.length_drop, List.length_take]; simp only [Int.toNat_zero]; omega
  have hg : ∀ m : Int, 0 ≤ m → m < k → ((ws.take (Int.toNat k)).drop (Int.toNat 0)).getD m.toNat .undef = ws.getD m.toNat .undef := fun m m0 m1 => by
    simp only [Int.toNat_zero, List.drop_zero, List.getD_eq_getElem?_getD]
    rw [List.getElem?_take_of_lt (by omega)]
  generalize (ws.take (Int.toNat k)).drop (Int.toNat 0) = xs at hl hg
  have hr : runW (R20_2 ws n k xs (xs.length : Int) vs rs ps ws s T nx rn fr to i j sw wt) (((xs.length : Int) - 0).toNat + 1) 0 = some (ro (findF (fun m => rn && ovI xs fr to m) xs.length 0) (.inl ()) fun m => .inr (pay9 (xs.getD m.toNat .undef))) := by
    refine runW_find (fun i => i) xs.length _ _ _ (fun m h0 hn => ?_) ?_ xs.length _ 0 (Int.le_refl 0) (by omega) (by omega)
    · have d1 : decide (m < (xs.length : Int)) = true := decide_eq_true hn
      have d2 : decide (0 ≤ m) = true := decide_eq_true h0
      simp only [R20_2, F20_2, d1, d2, Bool.and_self, cond_true, ovI]
      rw [wrap_in (a := m + 1) (by omega) (by omega)]
      cases rn with
      | false => rfl
      | true =>
        cases hB : fB (xs.getD m.toNat .undef) 2 with
        | false => rfl
        | true => unfold pay9; rw [hB]; rfl
    · simp only [R20_2, F20_2, Int.lt_irrefl, decide_false, cond_false]
  have hn : (findF (fun m => rn && ovI xs fr to m) xs.length 0).isNone = !(rn && !noneB (ovI ws fr to) k.toNat) := by
    rw [Bool.eq_iff_iff]
    have e1 : (findF (fun m => rn && ovI xs fr to m) xs.length 0).isNone = noneB (fun m => rn && ovI xs fr to m) xs.length := rfl
    rw [e1, noneB_iff]
    cases rn with
    | false => simp
    | true =>
      rw [Bool.true_and, Bool.not_not, noneB_iff]
      constructor
      · intro hh m m0 m1
        have := hh m m0 (by omega)
        simp only [Bool.true_and, ovI] at this ⊢
        rw [hg m m0 (by omega)] at this
        exact this
      · intro hh m m0 m1
        have := hh m m0 (by omega)
        simp only [Bool.true_and, ovI] at this ⊢
        rw [hg m m0 (by omega)]
        exact this
  refine ⟨_, hr, ?_⟩
  cases hf : findF (fun m => rn && ovI xs fr to m) xs.length 0 with
  | none =>
    rw [hf] at hn
    simp only [ro]
    cases hx : (rn && !noneB (ovI ws fr to) k.toNat) with
    | false => rfl
    | true => rw [hx] at hn; cases hn
  | some m =>
    rw [hf] at hn
    simp only [ro]
    cases hx : (rn && !noneB (ovI ws fr to) k.toNat) with
    | true => rfl
    | false => rw [hx] at hn; cases hn
def pS (vs ps ws : List AV) (k : Int) : Bool := !wkAt vs ps ws k || (fB (ws.getD k.toNat .undef) 2 && !noneB (ovS ws (fI (ws.getD k.toNat .undef) 3) (fI (ws.getD k.toNat .undef) 4)) k.toNat)
def pI (vs ps ws : List AV) (k : Int) : Bool := !wkAt vs ps ws k || (fB (ws.getD k.toNat .undef) 2 && !noneB (ovI ws (fI (ws.getD k.toNat .undef) 3) (fI (ws.getD k.toNat .undef) 4)) k.toNat)
def resB {R1 R2 : Type} (r : R1 ⊕ R2) (b : Bool) : Prop := b = r.isLeft
/-- A loop that ends early where p holds. -/
theorem runW_none {R1 R2 : Type} {f : Int → Out Int (R1 ⊕ R2)} (n : Nat) (p : Int → Bool) (h1 : ∀ k : Int, 0 ≤ k → k < n → p k = false → f k = .next (k + 1)) (h2 : ∀ k : Int, 0 ≤ k → k < n → p k = true → ∃ r, f k = .stop (.inr r)) (h3 : ∃ r, f n = .stop (.inl r)) :
    ∃ r, runW f (((n : Int) - 0).toNat + 1) 0 = some r ∧ resB r (noneB p n) := by
  refine runW_ends (f := f) (fun k => 0 ≤ k ∧ k ≤ n ∧ ∀ m : Int, 0 ≤ m → m < k → p m = false) (fun r => resB r (noneB p n)) (fun k => ((n : Int) - k).toNat) (fun k hk => ?_) _ 0 ⟨Int.le_refl 0, by omega, fun m m0 m1 => by omega⟩ (by omega)
  obtain ⟨k0, k1, hI⟩ := hk
  by_cases hn : k < n
  · cases hp : p k with
    | false => exact .inl ⟨k + 1, h1 k k0 hn hp, ⟨by omega, by omega, fun m m0 m1 => by
        by_cases e : m = k
        · rw [e]; exact hp
        · exact hI m m0 (by omega)⟩, by omega⟩
    | true =>
      obtain ⟨r, hr⟩ := h2 k k0 hn hp
      refine .inr ⟨_, hr, ?_⟩
      show noneB p n = false
      cases hx : noneB p n with
      | false => rfl
      | true => have := noneB_iff.1 hx k k0 hn; rw [hp] at this; cases this
  · obtain ⟨r, hr⟩ := h3
    have : k = n := by omega
    subst this
    exact .inr ⟨_, hr, noneB_iff.2 hI⟩
def isBS (vs rs ps ws : List AV) (s : Int) (pp : Int → Bool) : Bool := isC vs rs ps && (decide (1 ≤ (ws.length : Int)) && (decide ((ws.length : Int) ≤ 3) && (decide (0 ≤ s) && (decide (s ≤ 100000) && noneB pp ws.length))))
theorem P19 (vs rs ps ws : List AV) (s : Int) (h1 : vs.length ≤ 1048576) (h2 : rs.length ≤ 1048576) (h3 : ps.length ≤ 1048576) (h4 : ws.length ≤ 1048576) (h5 : few20 ws) (h6 : okI ws) :
    q19 vs rs ps ws s = true ∧ v19_0 vs rs ps ws s = isBS vs rs ps ws s (pS vs ps ws) := by
  unfold q19 v19_0 isBS
  rw [(P66 vs rs ps h1 h2 h3).1, (P66 vs rs ps h1 h2 h3).2, v67, v67]
  cases hC : isC vs rs ps with
  | false => exact ⟨rfl, rfl⟩
  | true =>
    have hc := (isC_iff vs rs ps h1).1 hC
    have key : ∃ r, runW (R19_0 vs rs ps ws s) (((ws.length : Int) - 0).toNat + 1) 0 = some r ∧ resB r (noneB (pS vs ps ws) ws.length) := by
      refine runW_none (f := R19_0 vs rs ps ws s) ws.length (pS vs ps ws) (fun k k0 k1 hp => ?_) (fun k k0 k1 hp => ?_) ⟨(), by simp only [R19_0, F19_0, Int.lt_irrefl, decide_false, cond_false]⟩
      · have d1 : decide (k < (ws.length : Int)) = true := decide_eq_true k1
        have d2 : decide (0 ≤ k) = true := decide_eq_true k0
        obtain ⟨a1, a2⟩ := P68 hc h3 ws (fL (ws.getD k.toNat .undef) 0) s (fI (ws.getD k.toNat .undef) 1) (fI (ws.getD k.toNat .undef) 3) (fI (ws.getD k.toNat .undef) 4) (fI (ws.getD k.toNat .undef) 5) (fI (ws.getD k.toNat .undef) 6) (fI (ws.getD k.toNat .undef) 7) (fI (ws.getD k.toNat .undef) 8) (fB (ws.getD k.toNat .undef) 2) (h5 k k0 k1) (h6 k k0 k1).2
        unfold pS wkAt at hp
        rw [Bool.or_eq_false_iff, Bool.not_eq_false'] at hp
        rw [hp.1] at a2
        simp only [R19_0, F19_0, d1, d2, Bool.and_self, cond_true, a1, a2, Bool.not_true, cond_false, in19 vs rs ps ws _ s _ _ _ _ _ _ _ k _ h4 k0 (by omega), hp.2, ro, sumE]
        rw [wrap_in (a := k + 1) (by omega) (by omega)]
      · have d1 : decide (k < (ws.length : Int)) = true := decide_eq_true k1
        have d2 : decide (0 ≤ k) = true := decide_eq_true k0
        obtain ⟨a1, a2⟩ := P68 hc h3 ws (fL (ws.getD k.toNat .undef) 0) s (fI (ws.getD k.toNat .undef) 1) (fI (ws.getD k.toNat .undef) 3) (fI (ws.getD k.toNat .undef) 4) (fI (ws.getD k.toNat .undef) 5) (fI (ws.getD k.toNat .undef) 6) (fI (ws.getD k.toNat .undef) 7) (fI (ws.getD k.toNat .undef) 8) (fB (ws.getD k.toNat .undef) 2) (h5 k k0 k1) (h6 k k0 k1).2
        unfold pS at hp
        cases hw : wkAt vs ps ws k with
        | false =>
          unfold wkAt at hw
          rw [hw] at a2
          refine ⟨?w1, ?h1⟩
          case h1 =>
            simp only [R19_0, F19_0, d1, d2, Bool.and_self, cond_true, a1, a2, Bool.not_false]
            rfl
        | true =>
          rw [hw, Bool.not_true, Bool.false_or] at hp
          unfold wkAt at hw
          rw [hw] at a2
          refine ⟨?w2, ?h2⟩
          case h2 =>
            simp only [R19_0, F19_0, d1, d2, Bool.and_self, cond_true, a1, a2, Bool.not_true, cond_false, in19 vs rs ps ws _ s _ _ _ _ _ _ _ k _ h4 k0 (by omega), hp, ro, sumE]
            rfl
    obtain ⟨r, hr, hp⟩ := key
    rw [hr]
    cases r with
    | inl _ =>
      rw [show noneB (pS vs ps ws) ws.length = true from hp]
      cases decide (1 ≤ (ws.length : Int)) <;> cases decide ((ws.length : Int) ≤ 3) <;> cases decide (0 ≤ s) <;> cases decide (s ≤ 100000) <;> exact ⟨rfl, rfl⟩
    | inr r =>
      rw [show noneB (pS vs ps ws) ws.length = false from hp]
      cases r <;> cases decide (1 ≤ (ws.length : Int)) <;> cases decide ((ws.length : Int) ≤ 3) <;> cases decide (0 ≤ s) <;> cases decide (s ≤ 100000) <;> exact ⟨rfl, rfl⟩
theorem P20 (vs rs ps ws : List AV) (s : Int) (h1 : vs.length ≤ 1048576) (h2 : rs.length ≤ 1048576) (h3 : ps.length ≤ 1048576) (h4 : ws.length ≤ 1048576) (h5 : few20 ws) (h6 : okI ws) :
    q20 vs rs ps ws s = true ∧ v20_0 vs rs ps ws s = isBS vs rs ps ws s (pI vs ps ws) := by
  unfold q20 v20_0 isBS
  rw [(P70 vs rs ps h1 h2 h3).1, (P70 vs rs ps h1 h2 h3).2, dlt, dgt, dlt, dgt]
  cases hC : isC vs rs ps with
  | false => exact ⟨rfl, rfl⟩
  | true =>
    have hc := (isC_iff vs rs ps h1).1 hC
    have key : ∃ r, runW (R20_0 ws ws.length vs rs ps ws s) (((ws.length : Int) - 0).toNat + 1) 0 = some r ∧ resB r (noneB (pI vs ps ws) ws.length) := by
      refine runW_none (f := R20_0 ws ws.length vs rs ps ws s) ws.length (pI vs ps ws) (fun k k0 k1 hp => ?_) (fun k k0 k1 hp => ?_) ⟨(), by simp only [R20_0, F20_0, Int.lt_irrefl, decide_false, cond_false]⟩
      · have d1 : decide (k < (ws.length : Int)) = true := decide_eq_true k1
        have d2 : decide (0 ≤ k) = true := decide_eq_true k0
        have d3 : decide (k ≤ (ws.length : Int)) = true := decide_eq_true (by omega)
        have d4 : decide ((0 : Int) ≤ 0) = true := rfl
        have d5 : decide ((0 : Nat) ≤ 0) = true := rfl
        obtain ⟨a1, a2⟩ := P71w hc h3 (fL (ws.getD k.toNat .undef) 0) (fI (ws.getD k.toNat .undef) 1) (fI (ws.getD k.toNat .undef) 3) (fI (ws.getD k.toNat .undef) 4) (fI (ws.getD k.toNat .undef) 5) (fI (ws.getD k.toNat .undef) 6) (fI (ws.getD k.toNat .undef) 7) (fI (ws.getD k.toNat .undef) 8) (fB (ws.getD k.toNat .undef) 2) (h5 k k0 k1) (h6 k k0 k1).1
        unfold pI wkAt at hp
        rw [Bool.or_eq_false_iff, Bool.not_eq_false'] at hp
        rw [hp.1] at a2
        obtain ⟨w, e1, e2⟩ := in20 vs rs ps ws (fL (ws.getD k.toNat .undef) 0) s (fI (ws.getD k.toNat .undef) 1) (fI (ws.getD k.toNat .undef) 3) (fI (ws.getD k.toNat .undef) 4) (fI (ws.getD k.toNat .undef) 5) (fI (ws.getD k.toNat .undef) 6) (fI (ws.getD k.toNat .undef) 7) (fI (ws.getD k.toNat .undef) 8) k ws.length (fB (ws.getD k.toNat .undef) 2) h4 k0 (by omega)
        cases w with
        | inr w => rw [hp.2] at e2; cases e2
        | inl w =>
          simp only [R20_0, F20_0, d1, d2, d3, d4, d5, Bool.and_self, cond_true, a1, a2, Bool.not_true, cond_false, e1, ro, sumE]
          rw [wrap_in (a := k + 1) (by omega) (by omega)]
      · have d1 : decide (k < (ws.length : Int)) = true := decide_eq_true k1
        have d2 : decide (0 ≤ k) = true := decide_eq_true k0
        have d3 : decide (k ≤ (ws.length : Int)) = true := decide_eq_true (by omega)
        have d4 : decide ((0 : Int) ≤ 0) = true := rfl
        have d5 : decide ((0 : Nat) ≤ 0) = true := rfl
        obtain ⟨a1, a2⟩ := P71w hc h3 (fL (ws.getD k.toNat .undef) 0) (fI (ws.getD k.toNat .undef) 1) (fI (ws.getD k.toNat .undef) 3) (fI (ws.getD k.toNat .undef) 4) (fI (ws.getD k.toNat .undef) 5) (fI (ws.getD k.toNat .undef) 6) (fI (ws.getD k.toNat .undef) 7) (fI (ws.getD k.toNat .undef) 8) (fB (ws.getD k.toNat .undef) 2) (h5 k k0 k1) (h6 k k0 k1).1
        unfold pI at hp
        cases hw : wkAt vs ps ws k with
        | false =>
          unfold wkAt at hw
          rw [hw] at a2
          refine ⟨?w3, ?h3⟩
          case h3 =>
            simp only [R20_0, F20_0, d1, d2, Bool.and_self, cond_true, a1, a2, Bool.not_false]
            rfl
        | true =>
          rw [hw, Bool.not_true, Bool.false_or] at hp
          unfold wkAt at hw
          rw [hw] at a2
          obtain ⟨w, e1, e2⟩ := in20 vs rs ps ws (fL (ws.getD k.toNat .undef) 0) s (fI (ws.getD k.toNat .undef) 1) (fI (ws.getD k.toNat .undef) 3) (fI (ws.getD k.toNat .undef) 4) (fI (ws.getD k.toNat .undef) 5) (fI (ws.getD k.toNat .undef) 6) (fI (ws.getD k.toNat .undef) 7) (fI (ws.getD k.toNat .undef) 8) k ws.length (fB (ws.getD k.toNat .undef) 2) h4 k0 (by omega)
          cases w with
          | inl w => rw [hp] at e2; cases e2
          | inr w =>
            refine ⟨?w4, ?h4⟩
            case h4 =>
              simp only [R20_0, F20_0, d1, d2, d3, d4, d5, Bool.and_self, cond_true, a1, a2, Bool.not_true, cond_false, e1, ro, sumE]
              rfl
    obtain ⟨r, hr, hp⟩ := key
    rw [hr]
    cases r with
    | inl _ =>
      rw [show noneB (pI vs ps ws) ws.length = true from hp]
      cases decide (1 ≤ (ws.length : Int)) <;> cases decide ((ws.length : Int) ≤ 3) <;> cases decide (0 ≤ s) <;> cases decide (s ≤ 100000) <;> exact ⟨rfl, rfl⟩
    | inr r =>
      rw [show noneB (pI vs ps ws) ws.length = false from hp]
      cases r <;> cases decide (1 ≤ (ws.length : Int)) <;> cases decide ((ws.length : Int) ≤ 3) <;> cases decide (0 ≤ s) <;> cases decide (s ≤ 100000) <;> exact ⟨rfl, rfl⟩
/-- Where a running worker works. -/
structure At (ps : List AV) (a b : Int) : Prop where
  a0 : 0 ≤ a
  ab : a ≤ b
  edge : 0 < a → ∃ p : Int, 0 ≤ p ∧ p < ps.length ∧ pat ps p = a
  cut : ∀ p : Int, 0 ≤ p → p < ps.length → pat ps p ≤ a ∨ b ≤ pat ps p
theorem at_of {vs rs ps : List AV} (hc : Col vs rs ps) {T : List AV} {nx fr to i j sw wt : Int} (h : wkB vs ps T nx true fr to i j sw wt = true) : At ps fr to := by
  unfold wkB runB at h
  simp only [cond_true, Bool.and_eq_true, decide_eq_true_eq, Bool.not_eq_true'] at h
  obtain ⟨_, _, _, _, _, _, _, _, _, hf, e1, e2, _⟩ := h
  have hpc := pc_of hc hf
  have pc := piece_of hc hpc
  rw [e1, e2]
  refine ⟨pc.a0, pc.ab, fun h => ?_, pc.cut⟩
  have ht := hpc.t1
  have ht0 := hpc.t0
  unfold pA at h ⊢
  split at h
  · omega
  · rename_i hne
    rw [if_neg hne]
    exact ⟨_, by omega, by omega, rfl⟩
theorem ov72 (fr to x y : Int) : v72_0 fr to x y = decide ((fr < to ∧ fr < y ∧ x < to ∧ x < y) ∨ (fr = x ∧ to = y)) := by
  unfold v72_0
  have e : ((if x > fr then x else fr) < (if y < to then y else to)) ↔ (fr < to ∧ fr < y ∧ x < to ∧ x < y) := by split <;> split <;> omega
  rw [show decide ((if x > fr then x else fr) < (if y < to then y else to)) = decide (fr < to ∧ fr < y ∧ x < to ∧ x < y) from decide_eq_decide.2 e]
  by_cases h1 : (fr < to ∧ fr < y ∧ x < to ∧ x < y) <;> by_cases h2 : fr = x <;> by_cases h3 : to = y <;> simp [h1, h2, h3]
theorem ov69 (T : List AV) (nx x y a b c d fr to : Int) : v69_0 T nx true x y a b c d fr to = decide ((x < to ∧ fr < y) ∨ (x = fr ∧ y = to)) := by
  unfold v69_0
  by_cases h1 : x < to <;> by_cases h2 : fr < y <;> by_cases h3 : x = fr <;> by_cases h4 : y = to <;> simp [h1, h2, h3, h4]
theorem ov_eq {ps : List AV} {fr to x y : Int} (h1 : At ps fr to) (h2 : At ps x y) : ((x < to ∧ fr < y) ∨ (x = fr ∧ y = to)) ↔ ((fr < to ∧ fr < y ∧ x < to ∧ x < y) ∨ (fr = x ∧ to = y)) := by
  have a1 := h1.ab
  have a2 := h2.ab
  have a3 := h1.a0
  have a4 := h2.a0
  have n1 : ¬ (fr = to ∧ x < fr ∧ fr < y) := fun ⟨k1, k2, k3⟩ => by
    obtain ⟨p, p0, p1, e⟩ := h1.edge (by omega)
    have := h2.cut p p0 p1
    omega
  have n2 : ¬ (x = y ∧ fr < x ∧ x < to) := fun ⟨k1, k2, k3⟩ => by
    obtain ⟨p, p0, p1, e⟩ := h2.edge (by omega)
    have := h1.cut p p0 p1
    omega
  omega
theorem pS_pI {vs rs ps ws : List AV} (hc : Col vs rs ps) : noneB (pS vs ps ws) ws.length = noneB (pI vs ps ws) ws.length := by
  rw [Bool.eq_iff_iff, noneB_iff, noneB_iff]
  have same : (∀ k : Int, 0 ≤ k → k < ws.length → wkAt vs ps ws k = true) → ∀ k : Int, 0 ≤ k → k < ws.length → pS vs ps ws k = pI vs ps ws k := by
    intro hw k k0 k1
    unfold pS pI
    cases hk : fB (ws.getD k.toNat .undef) 2 with
    | false => rfl
    | true =>
      have hkk := hw k k0 k1
      unfold wkAt at hkk
      rw [hk] at hkk
      have A1 := at_of hc hkk
      have : noneB (ovS ws (fI (ws.getD k.toNat .undef) 3) (fI (ws.getD k.toNat .undef) 4)) k.toNat = noneB (ovI ws (fI (ws.getD k.toNat .undef) 3) (fI (ws.getD k.toNat .undef) 4)) k.toNat := by
        have e : ∀ m : Int, 0 ≤ m → m < k.toNat → ovS ws (fI (ws.getD k.toNat .undef) 3) (fI (ws.getD k.toNat .undef) 4) m = ovI ws (fI (ws.getD k.toNat .undef) 3) (fI (ws.getD k.toNat .undef) 4) m := fun m m0 m1 => by
          have hm := hw m m0 (by omega)
          unfold wkAt at hm
          unfold ovS ovI
          cases hr : fB (ws.getD m.toNat .undef) 2 with
          | false => rfl
          | true =>
            rw [hr] at hm
            have A2 := at_of hc hm
            rw [ov69, ov72, Bool.true_and, decide_eq_decide]
            exact ov_eq A1 A2
        rw [Bool.eq_iff_iff, noneB_iff, noneB_iff]
        exact ⟨fun h m m0 m1 => by rw [← e m m0 m1]; exact h m m0 m1, fun h m m0 m1 => by rw [e m m0 m1]; exact h m m0 m1⟩
      rw [this]
  constructor
  · intro h k k0 k1
    rw [← same (fun k k0 k1 => by have := h k k0 k1; unfold pS at this; rw [Bool.or_eq_false_iff, Bool.not_eq_false'] at this; exact this.1) k k0 k1]
    exact h k k0 k1
  · intro h k k0 k1
    rw [same (fun k k0 k1 => by have := h k k0 k1; unfold pI at this; rw [Bool.or_eq_false_iff, Bool.not_eq_false'] at this; exact this.1) k k0 k1]
    exact h k k0 k1
/-- IsBoard, both. -/
theorem isB_both (vs rs ps ws : List AV) (s : Int) (h1 : vs.length ≤ 1048576) (h2 : rs.length ≤ 1048576) (h3 : ps.length ≤ 1048576) (h4 : ws.length ≤ 1048576) (h5 : few20 ws) (h6 : okI ws) :
    q19 vs rs ps ws s = true ∧ q20 vs rs ps ws s = true ∧ v20_0 vs rs ps ws s = v19_0 vs rs ps ws s := by
  obtain ⟨a1, a2⟩ := P19 vs rs ps ws s h1 h2 h3 h4 h5 h6
  obtain ⟨b1, b2⟩ := P20 vs rs ps ws s h1 h2 h3 h4 h5 h6
  refine ⟨a1, b1, ?_⟩
  rw [a2, b2]
  unfold isBS
  cases hC : isC vs rs ps with
  | false => rfl
  | true => rw [pS_pI ((isC_iff vs rs ps h1).1 hC)]
theorem i64_wf {n : Int} (h : (Lit.int .i64 n).wf = true) : -9223372036854775808 ≤ n ∧ n ≤ 9223372036854775807 := by
  simp only [Lit.wf, Bool.and_eq_true, decide_eq_true_eq] at h
  exact h
theorem board_args2 {t : Nat} {x : AV} (h : TA Try.prog t x) (ha : aggT Try.prog t = some true) (hc : ctsT Try.prog 7 t = [.sl [.int .i64], .sl [.int .i64], .sl [.int .i64, .int .i64], .sl [.sl [.int .i64], .int .i64, .bool, .int .i64, .int .i64, .int .i64, .int .i64, .int .i64, .int .i64], .int .i64]) :
    ∃ v r p ws s, x = .agg [.sl [.int .i64] v, .sl [.int .i64] r, .sl [.int .i64, .int .i64] p, .sl [.sl [.int .i64], .int .i64, .bool, .int .i64, .int .i64, .int .i64, .int .i64, .int .i64, .int .i64] ws, .int .i64 s] ∧
      v.length ≤ 9223372036854775807 ∧ r.length ≤ 9223372036854775807 ∧ p.length ≤ 9223372036854775807 ∧ ws.length ≤ 9223372036854775807 ∧ (∀ x ∈ ws, (fL x 0).length ≤ 9223372036854775807) ∧ okI ws := by
  obtain ⟨cs, rfl, h1⟩ := ta_agg h ha hc
  obtain ⟨x2, _, rfl, g2, h4⟩ := tws_cons h1
  obtain ⟨x3, _, rfl, g3, h5⟩ := tws_cons h4
  obtain ⟨x4, _, rfl, g4, h6⟩ := tws_cons h5
  obtain ⟨x5, _, rfl, g5, h7⟩ := tws_cons h6
  obtain ⟨x6, _, rfl, g6, h8⟩ := tws_cons h7
  obtain rfl := tws_nil h8
  obtain ⟨v, rfl, l2, _⟩ := tw_sl g2
  obtain ⟨r, rfl, l3, _⟩ := tw_sl g3
  obtain ⟨p, rfl, l4, _⟩ := tw_sl g4
  obtain ⟨ws, rfl, l5, hw⟩ := tw_sl g5
  obtain ⟨s, rfl, _⟩ := tw_int g6
  refine ⟨v, r, p, ws, s, rfl, l2, l3, l4, l5, fun x hx => ?_, fun i i0 i1 => ?_⟩
  · obtain ⟨y, ys, hy, k1, _⟩ := tws_cons (hw x hx)
    obtain ⟨z, rfl, k2, _⟩ := tw_sl k1
    have : fL x 0 = z := by unfold fL; rw [hy]; rfl
    rw [this]
    exact k2
  · have hx := getD_in ws i i0 i1
    generalize ws.getD i.toNat .undef = x at hx
    obtain ⟨_, _, hy, _, t1⟩ := tws_cons (hw x hx)
    obtain ⟨_, _, rfl, _, t2⟩ := tws_cons t1
    obtain ⟨_, _, rfl, _, t3⟩ := tws_cons t2
    obtain ⟨_, _, rfl, _, t4⟩ := tws_cons t3
    obtain ⟨_, _, rfl, _, t5⟩ := tws_cons t4
    obtain ⟨_, _, rfl, u5, t6⟩ := tws_cons t5
    obtain ⟨_, _, rfl, u6, t7⟩ := tws_cons t6
    obtain ⟨n5, rfl, w5⟩ := tw_int u5
    obtain ⟨n6, rfl, w6⟩ := tw_int u6
    have e5 : fI x 5 = n5 := by unfold fI; rw [hy]; rfl
    have e6 : fI x 6 = n6 := by unfold fI; rw [hy]; rfl
    rw [e5, e6]
    exact ⟨(i64_wf w5).2, (i64_wf w6).1⟩

end Go.Proofs.Ytdhhceamknidmaa
