/- the law: PieceLines -/
import Derived.Test.YtiokajbmckcklaaDoorPLq
namespace Go.Proofs.YtiokajbmckcklaaDoor
open Go Go.Proofs.VE
set_option linter.unusedVariables false
set_option linter.unusedSimpArgs false
theorem P29 (xs : List AV) (h : xs.length ≤ 1048577) : q29 xs xs = true ∧ v29_0 xs xs = true := by
  have hr : runW (R29_0 xs xs) (((xs.length : Int) - 0).toNat + 1) 0 = some (ro (findF (fun _ => false) xs.length 0) (.inl ()) fun _ => .inr ()) := by
    refine runW_find (fun i => i) xs.length _ _ _ (fun i h0 hn => ?_) ?_ xs.length _ 0 (Int.le_refl 0) (by omega) (by omega)
    · simp only [R29_0, F29_0, h0, hn, decide_true, Bool.and_self, cond_true]
      rw [wrap_in (a := i + 1) (by omega) (by omega)]
      simp
    · simp only [R29_0, F29_0, Int.lt_irrefl, decide_false, cond_false]
  unfold q29 v29_0
  rw [hr, findF_none _ _ fun _ _ _ => rfl]
  simp [ro, sumE]
theorem isC_at {vs rs ps : List AV} (h : isC vs rs ps = true) (j : Nat) (hj : j < ps.length) : 0 ≤ fI (ps.getD j .undef) 1 ∧ fI (ps.getD j .undef) 1 ≤ vs.length := by
  unfold isC at h
  simp only [Bool.and_eq_true] at h
  have e := (noneB_iff.1 h.2.2.2.2) (j : Int) (by omega) (by omega)
  simp only [badP, badA, v42, Bool.or_eq_false_iff, Bool.not_eq_false', Bool.and_eq_true, decide_eq_true_eq, Int.toNat_natCast] at e
  exact e.1.2.1

def endsP (vs ps : List AV) : List AV := ps ++ [AV.agg [AV.int .i64 0, AV.int .i64 (vs.length : Int)]]
def eP (vs ps : List AV) (k : Int) : Int := fI ((endsP vs ps).getD k.toNat .undef) 1
theorem eP_lt (vs ps : List AV) (k : Int) (h0 : 0 ≤ k) (h : k < ps.length) : eP vs ps k = fI (ps.getD k.toNat .undef) 1 := by
  unfold eP endsP
  rw [List.getD_eq_getElem?_getD, List.getElem?_append_left (by omega), ← List.getD_eq_getElem?_getD]
theorem eP_last (vs ps : List AV) : eP vs ps ps.length = vs.length := by
  unfold eP endsP
  rw [List.getD_eq_getElem?_getD, List.getElem?_append_right (by omega), show ((ps.length : Int).toNat - ps.length) = 0 by omega]
  rfl
theorem eP_in {vs rs ps : List AV} (hC : isC vs rs ps = true) (k : Int) (h0 : 0 ≤ k) (h : k < ps.length + 1) : 0 ≤ eP vs ps k ∧ eP vs ps k ≤ vs.length := by
  by_cases hk : k < ps.length
  · rw [eP_lt vs ps k h0 hk]
    exact isC_at hC k.toNat (by omega)
  · rw [show k = ps.length by omega, eP_last]
    omega
theorem ends68 (vs rs ps : List AV) (h : ps.length ≤ 1048576) : q68 vs rs ps = true ∧ (v68_0 vs rs ps).length = ps.length + 1 ∧ ∀ k : Int, 0 ≤ k → k < ps.length + 1 → fI ((v68_0 vs rs ps).getD k.toNat .undef) 0 = eP vs ps k := by
  have hr := runW_fold (f := R68_0 vs rs ps) (fun i (t : List AV) => (i, t)) ps.length (fun i t => t ++ [(fun i : Int => AV.int .i64 (fI (ps.getD i.toNat .undef) 1)) i]) (fun t => t) (fun i t => (t.length : Int) = i) (fun i t h0 hn hI => by
    refine ⟨?_, by rw [List.length_append]; simp only [List.length_cons, List.length_nil]; omega⟩
    have d0 : decide (i < (ps.length : Int)) = true := decide_eq_true hn
    have d1 : decide (0 ≤ i) = true := decide_eq_true h0
    unfold R68_0 F68_0
    rw [d0, d1, wrap_in (a := i + 1) (by omega) (by omega)]
    have d4 : ∀ s : AV, decide ((t.length + ([s]).length) * 8 ≤ 140737488355328) = true := fun s => decide_eq_true (by simp only [List.length_cons, List.length_nil]; omega)
    have d5 : ∀ s : AV, decide ((t.length + ([s]).length) ≤ 140737488355328) = true := fun s => decide_eq_true (by simp only [List.length_cons, List.length_nil]; omega)
    rw [d4, d5]
    rfl) (fun t _ => by
    unfold R68_0 F68_0
    rw [decide_eq_false (Int.lt_irrefl _)]
    rfl) ps.length (((ps.length : Int) - 0).toNat + 1) 0 [] (Int.le_refl 0) (by omega) (by omega) rfl
  rw [app_fold (fun i : Int => AV.int .i64 (fI (ps.getD i.toNat .undef) 1)), List.nil_append] at hr
  have hl : ((List.range ps.length).map (fun k : Nat => (fun i : Int => AV.int .i64 (fI (ps.getD i.toNat .undef) 1)) (0 + (k : Int)))).length = ps.length := by simp
  unfold q68 v68_0
  rw [hr]
  simp only [ro]
  refine ⟨?_, ?_, fun k h0 hk => ?_⟩
  · simp only [Bool.and_eq_true, decide_eq_true_eq, List.length_map, List.length_range, List.length_cons, List.length_nil]
    omega
  · rw [List.length_append, hl]
    rfl
  · by_cases hk2 : k < ps.length
    · rw [eP_lt vs ps k h0 hk2, List.getD_eq_getElem?_getD, List.getElem?_append_left (by rw [hl]; omega), ← List.getD_eq_getElem?_getD, getD_range _ _ _ (by omega)]
      show fI (ps.getD (0 + ((k.toNat : Nat) : Int)).toNat .undef) 1 = _
      rw [show (0 + ((k.toNat : Nat) : Int)).toNat = k.toNat by omega]
    · rw [show k = ps.length by omega, eP_last, List.getD_eq_getElem?_getD, List.getElem?_append_right (by rw [hl]; omega), hl, show ((ps.length : Int).toNat - ps.length) = 0 by omega]
      rfl
def sub (vs : List AV) (a b : Int) : List AV := (vs.take (Int.toNat b)).drop (Int.toNat a)
def lineB (vs rs ps : List AV) (a b : Int) : ByteArray :=
  bif v71_0 vs rs ps a b then ((((itoaB a ++ ByteArray.mk #[46, 46]) ++ itoaB b) ++ ByteArray.mk #[32]) ++ v69_0 (v70_0 (sub vs a b)) (v70_1 (sub vs a b)) (v70_2 (sub vs a b)) (v70_3 (sub vs a b))) ++ ByteArray.mk #[32, 115, 111, 114, 116, 101, 100]
  else (((itoaB a ++ ByteArray.mk #[46, 46]) ++ itoaB b) ++ ByteArray.mk #[32]) ++ v69_0 (v70_0 (sub vs a b)) (v70_1 (sub vs a b)) (v70_2 (sub vs a b)) (v70_3 (sub vs a b))
theorem in_getD (xs : List AV) (hv : ∀ y ∈ xs, In64 (fI y 0)) (i : Int) : In64 (fI (xs.getD i.toNat .undef) 0) := by
  by_cases hi : i.toNat < xs.length
  · rw [List.getD_eq_getElem?_getD, List.getElem?_eq_getElem hi]
    exact hv _ (List.getElem_mem hi)
  · rw [List.getD_eq_getElem?_getD, List.getElem?_eq_none (by omega)]
    exact ⟨by decide, by decide⟩
theorem sub_in (vs : List AV) (hv : ∀ y ∈ vs, In64 (fI y 0)) (a b : Int) (i : Int) : In64 (fI ((sub vs a b).getD i.toNat .undef) 0) :=
  in_getD _ (fun y hy => hv y (List.mem_of_mem_take (List.mem_of_mem_drop hy))) i
theorem sub_len (vs : List AV) (a b : Int) : (sub vs a b).length ≤ vs.length := by
  unfold sub
  rw [List.length_drop, List.length_take]
  omega
structure Cx (vs rs ps : List AV) : Prop where
  v : vs.length ≤ 1048576
  p : ps.length ≤ 1048576
  r : (rs.length : Int) = vs.length
  c : isC vs rs ps = true
  n : ∀ y ∈ vs, In64 (fI y 0)
  q : q64 vs rs ps = true
  w : v64_0 vs rs ps = true
def gP (vs rs ps : List AV) (e : Int → Int) (i : Int) (t : Int × List AV) : Int × List AV := (e i, bif decide (e i > t.1) then t.2 ++ [AV.str (lineB vs rs ps t.1 (e i))] else t.2)
theorem run39 {vs rs ps : List AV} (X : Cx vs rs ps) (es : List AV) (e : Int → Int) (hl : es.length = ps.length + 1) (he : ∀ k : Int, 0 ≤ k → k < es.length → fI (es.getD k.toNat .undef) 0 = e k) (hb : ∀ k : Int, 0 ≤ k → k < es.length → 0 ≤ e k ∧ e k ≤ vs.length) :
    runW (R39_0 vs rs ps es) (((es.length : Int) - 0).toNat + 1) (0, 0, ([] : List AV)) = some (foldF (gP vs rs ps e) es.length 0 (0, [])).2 :=
  runW_fold (f := R39_0 vs rs ps es) (fun i (t : Int × List AV) => (t.1, i, t.2)) es.length (gP vs rs ps e) (fun t => t.2) (fun i t => 0 ≤ t.1 ∧ t.1 ≤ vs.length ∧ (t.2.length : Int) ≤ i) (fun i t h0 hn hI => by
    obtain ⟨a, L⟩ := t
    obtain ⟨i1, i2, i3⟩ := hI
    simp only at i1 i2 i3
    obtain ⟨b0, b1⟩ := hb i h0 hn
    have hlen := X.v
    have hpl := X.p
    refine ⟨?_, b0, b1, ?_⟩
    · have d0 : decide (i < (es.length : Int)) = true := decide_eq_true hn
      have d1 : decide (0 ≤ i) = true := decide_eq_true h0
      unfold R39_0 F39_0 gP
      simp only
      rw [he i h0 hn]
      generalize e i = b at *
      rw [d0, d1, X.q, X.w, wrap_in (a := i + 1) (by omega) (by omega)]
      cases hab : decide (b > a) with
      | false => rfl
      | true =>
        have hab' := of_decide_eq_true hab
        have ia : In64 a := by unfold In64; omega
        have ib : In64 b := by unfold In64; omega
        obtain ⟨a1, a2⟩ := fmtInt a ia.1 ia.2
        obtain ⟨b1', b2⟩ := fmtInt b ib.1 ib.2
        have la := itoaB_len a ia.1 ia.2
        have lb := itoaB_len b ib.1 ib.2
        obtain ⟨g1, g2, _, k0, k1, k2, k3⟩ := agg_eq (sub vs a b) (Nat.le_trans (sub_len vs a b) X.v) (sub_in vs X.n a b)
        obtain ⟨f1, _, _, f4⟩ := fagg_eq _ _ _ _ k0 k1 k2 k3
        obtain ⟨s1, _, _⟩ := sorted_eq vs rs ps a b X.v X.r i1 hab' b1
        have d2 : decide (0 ≤ a) = true := decide_eq_true i1
        have d3 : decide (a ≤ b) = true := decide_eq_true (by omega)
        have d4 : decide (b ≤ (vs.length : Int)) = true := decide_eq_true b1
        unfold lineB
        change _ = Out.next (b, i + 1, L ++ [AV.str (bif v71_0 vs rs ps a b then _ else _)])
        rw [show (vs.take (Int.toNat b)).drop (Int.toNat a) = sub vs a b from rfl, a1, a2, b1', b2, g1, f1, s1, d2, d3, d4]
        generalize v69_0 (v70_0 (sub vs a b)) (v70_1 (sub vs a b)) (v70_2 (sub vs a b)) (v70_3 (sub vs a b)) = W at *
        generalize itoaB a = A at *
        generalize itoaB b = B at *
        have o1 : (ByteArray.mk #[46, 46]).size = 2 := rfl
        have o2 : (ByteArray.mk #[32]).size = 1 := rfl
        have o3 : (ByteArray.mk #[32, 115, 111, 114, 116, 101, 100]).size = 7 := rfl
        have c1 : decide (A.size + (ByteArray.mk #[46, 46]).size ≤ 4611686018427387904) = true := decide_eq_true (by omega)
        have c2 : decide ((A ++ ByteArray.mk #[46, 46]).size + B.size ≤ 4611686018427387904) = true := decide_eq_true (by simp only [ByteArray.size_append]; omega)
        have c3 : decide (((A ++ ByteArray.mk #[46, 46]) ++ B).size + (ByteArray.mk #[32]).size ≤ 4611686018427387904) = true := decide_eq_true (by simp only [ByteArray.size_append]; omega)
        have c4 : decide ((((A ++ ByteArray.mk #[46, 46]) ++ B) ++ ByteArray.mk #[32]).size + W.size ≤ 4611686018427387904) = true := decide_eq_true (by simp only [ByteArray.size_append]; omega)
        have c5 : decide (((((A ++ ByteArray.mk #[46, 46]) ++ B) ++ ByteArray.mk #[32]) ++ W).size + (ByteArray.mk #[32, 115, 111, 114, 116, 101, 100]).size ≤ 4611686018427387904) = true := decide_eq_true (by simp only [ByteArray.size_append]; omega)
        have c6 : ∀ s : AV, decide ((L.length + ([s]).length) * 16 ≤ 140737488355328) = true := fun s => decide_eq_true (by simp only [List.length_cons, List.length_nil]; omega)
        have c7 : ∀ s : AV, decide ((L.length + ([s]).length) ≤ 140737488355328) = true := fun s => decide_eq_true (by simp only [List.length_cons, List.length_nil]; omega)
        simp only [c1, c2, c3, c4, c5, c6, c7, Bool.and_self, cond_true]
        cases v71_0 vs rs ps a b <;> rfl
    · unfold gP
      simp only
      cases decide (e i > a)
      · simp only [cond_false]; omega
      · simp only [cond_true, List.length_append, List.length_cons, List.length_nil]; omega) (fun t _ => by
    unfold R39_0 F39_0
    rw [decide_eq_false (Int.lt_irrefl _)]
    rfl) es.length _ 0 (0, []) (Int.le_refl 0) (by omega) (by omega) ⟨by decide, by simp, by simp⟩
/-! The program's pieces. -/
def gQ (e : Int → Int) (i : Int) (t : Int × List AV) : Int × List AV := (e i, bif decide (e i > t.1) then t.2 ++ [AV.agg [AV.int .i64 t.1, AV.int .i64 (e i)]] else t.2)
def okP (N : Int) (p : AV) : Prop := ∃ x y : Int, p = AV.agg [AV.int .i64 x, AV.int .i64 y] ∧ 0 ≤ x ∧ x < y ∧ y ≤ N
def lineOf (vs rs ps : List AV) (p : AV) : AV := AV.str (lineB vs rs ps (fI p 0) (fI p 1))
theorem gQ_inv (e : Int → Int) (N : Int) : ∀ (m : Nat) (i a : Int) (L : List AV), (∀ k, i ≤ k → k < i + m → 0 ≤ e k ∧ e k ≤ N) → 0 ≤ a → (∀ p ∈ L, okP N p) → (∀ p ∈ (foldF (gQ e) m i (a, L)).2, okP N p) ∧ (foldF (gQ e) m i (a, L)).2.length ≤ L.length + m
  | 0, _, _, _, _, _, h => ⟨h, Nat.le_refl _⟩
  | m + 1, i, a, L, hb, ha, h => by
    have e0 := hb i (Int.le_refl _) (by omega)
    show (∀ p ∈ (foldF (gQ e) m (i + 1) (gQ e i (a, L))).2, okP N p) ∧ _
    have hstep : gQ e i (a, L) = (e i, bif decide (e i > a) then L ++ [AV.agg [AV.int .i64 a, AV.int .i64 (e i)]] else L) := rfl
    rw [show foldF (gQ e) (m + 1) i (a, L) = foldF (gQ e) m (i + 1) (gQ e i (a, L)) from rfl, hstep]
    cases hd : decide (e i > a) with
    | false =>
      have := gQ_inv e N m (i + 1) (e i) L (fun k h1 h2 => hb k (by omega) (by omega)) e0.1 h
      exact ⟨this.1, by have := this.2; simp only [cond_false]; omega⟩
    | true =>
      have hgt := of_decide_eq_true hd
      have := gQ_inv e N m (i + 1) (e i) (L ++ [AV.agg [AV.int .i64 a, AV.int .i64 (e i)]]) (fun k h1 h2 => hb k (by omega) (by omega)) e0.1 (fun p hp => by
        rcases List.mem_append.1 hp with hp | hp
        · exact h p hp
        · obtain rfl := List.mem_singleton.1 hp
          exact ⟨a, e i, rfl, ha, by omega, e0.2⟩)
      refine ⟨this.1, ?_⟩
      have h2 := this.2
      simp only [List.length_append, List.length_cons, List.length_nil] at h2
      simp only [cond_true]
      omega
theorem gQ_rel (vs rs ps : List AV) (e : Int → Int) : ∀ (m : Nat) (i a : Int) (L : List AV), foldF (gP vs rs ps e) m i (a, L.map (lineOf vs rs ps)) = ((foldF (gQ e) m i (a, L)).1, (foldF (gQ e) m i (a, L)).2.map (lineOf vs rs ps))
  | 0, _, _, _ => rfl
  | m + 1, i, a, L => by
    show foldF (gP vs rs ps e) m (i + 1) (gP vs rs ps e i (a, L.map (lineOf vs rs ps))) = ((foldF (gQ e) m (i + 1) (gQ e i (a, L))).1, (foldF (gQ e) m (i + 1) (gQ e i (a, L))).2.map (lineOf vs rs ps))
    have h1 : gP vs rs ps e i (a, L.map (lineOf vs rs ps)) = ((gQ e i (a, L)).1, (gQ e i (a, L)).2.map (lineOf vs rs ps)) := by
      unfold gP gQ
      simp only
      cases decide (e i > a)
      · rfl
      · simp only [cond_true, List.map_append, List.map_cons, List.map_nil]
        rfl
    rw [h1]
    exact gQ_rel vs rs ps e m (i + 1) _ _
theorem run72 {vs rs ps : List AV} (X : Cx vs rs ps) : runW (R72_0 ((endsP vs ps).length : Int) (endsP vs ps)) ((((endsP vs ps).length : Int) - 0).toNat + 1) (0, 0, ([] : List AV)) = some (foldF (gQ (eP vs ps)) (endsP vs ps).length 0 (0, [])).2 :=
  runW_fold (f := R72_0 ((endsP vs ps).length : Int) (endsP vs ps)) (fun i (t : Int × List AV) => (t.1, i, t.2)) (endsP vs ps).length (gQ (eP vs ps)) (fun t => t.2) (fun i t => (t.2.length : Int) ≤ i) (fun i t h0 hn hI => by
    have hp := X.p
    have hl : (endsP vs ps).length = ps.length + 1 := by unfold endsP; simp
    obtain ⟨a, L⟩ := t
    simp only at hI
    refine ⟨?_, ?_⟩
    · have d0 : decide (i < ((endsP vs ps).length : Int)) = true := decide_eq_true hn
      have d1 : decide (0 ≤ i) = true := decide_eq_true h0
      unfold R72_0 F72_0 gQ
      simp only
      rw [d0, d1, wrap_in (a := i + 1) (by omega) (by omega), show fI ((endsP vs ps).getD i.toNat .undef) 1 = eP vs ps i from rfl]
      have c6 : ∀ s : AV, decide ((L.length + ([s]).length) * 16 ≤ 140737488355328) = true := fun s => decide_eq_true (by simp only [List.length_cons, List.length_nil]; omega)
      have c7 : ∀ s : AV, decide ((L.length + ([s]).length) ≤ 140737488355328) = true := fun s => decide_eq_true (by simp only [List.length_cons, List.length_nil]; omega)
      rw [c6, c7]
      cases decide (eP vs ps i > a) <;> rfl
    · unfold gQ
      simp only
      cases decide (eP vs ps i > a)
      · simp only [cond_false]; omega
      · simp only [cond_true, List.length_append, List.length_cons, List.length_nil]; omega) (fun t _ => by
    unfold R72_0 F72_0
    rw [decide_eq_false (Int.lt_irrefl _)]
    rfl) (endsP vs ps).length _ 0 (0, []) (Int.le_refl 0) (by omega) (by omega) (by simp)
theorem run40 {vs rs ps : List AV} (X : Cx vs rs ps) (L : List AV) (hL : L.length ≤ 1048577) (hok : ∀ p ∈ L, okP vs.length p) :
    runW (R40_0 (L.length : Int) vs rs ps L) (((L.length : Int) - 0).toNat + 1) (0, ([] : List AV)) = some (L.map (lineOf vs rs ps)) := by
  have hr := runW_fold (f := R40_0 (L.length : Int) vs rs ps L) (fun i (t : List AV) => (i, t)) L.length (fun i t => t ++ [(fun i : Int => lineOf vs rs ps (L.getD i.toNat .undef)) i]) (fun t => t) (fun i t => (t.length : Int) = i) (fun i t h0 hn hI => by
    refine ⟨?_, by rw [List.length_append]; simp only [List.length_cons, List.length_nil]; omega⟩
    have hm : L.getD i.toNat .undef ∈ L := by
      rw [List.getD_eq_getElem?_getD, List.getElem?_eq_getElem (by omega : i.toNat < L.length)]
      exact List.getElem_mem _
    obtain ⟨a, b, hp, i1, hab', b1⟩ := hok _ hm
    have hlen := X.v
    have e0 : fI (L.getD i.toNat .undef) 0 = a := by rw [hp]; rfl
    have e1 : fI (L.getD i.toNat .undef) 1 = b := by rw [hp]; rfl
    have ia : In64 a := by unfold In64; omega
    have ib : In64 b := by unfold In64; omega
    obtain ⟨a1, a2⟩ := fmtInt' a ia.1 ia.2
    obtain ⟨b1', b2⟩ := fmtInt' b ib.1 ib.2
    have la := itoaB_len a ia.1 ia.2
    have lb := itoaB_len b ib.1 ib.2
    obtain ⟨g1, g2, ⟨w0, w1, w2, w3⟩, k0, k1, k2, k3⟩ := agg_eq (sub vs a b) (Nat.le_trans (sub_len vs a b) X.v) (sub_in vs X.n a b)
    obtain ⟨_, f2, f3, f4⟩ := fagg_eq _ _ _ _ k0 k1 k2 k3
    obtain ⟨_, s2, s3⟩ := sorted_eq vs rs ps a b X.v X.r i1 hab' b1
    have d0 : decide (i < (L.length : Int)) = true := decide_eq_true hn
    have d1 : decide (0 ≤ i) = true := decide_eq_true h0
    have d2 : decide (0 ≤ a) = true := decide_eq_true i1
    have d3 : decide (a ≤ b) = true := decide_eq_true (by omega)
    have d4 : decide (b ≤ (vs.length : Int)) = true := decide_eq_true b1
    unfold R40_0 F40_0 lineOf lineB
    simp only
    rw [e0, e1, d0, d1, wrap_in (a := i + 1) (by omega) (by omega)]
    rw [show (vs.take (Int.toNat b)).drop (Int.toNat a) = sub vs a b from rfl, w0, w1, w2, w3, a1, a2, b1', b2, g2, f2, f3, s2, s3, d2, d3, d4]
    generalize v69_0 (v70_0 (sub vs a b)) (v70_1 (sub vs a b)) (v70_2 (sub vs a b)) (v70_3 (sub vs a b)) = W at *
    generalize itoaB a = A at *
    generalize itoaB b = B at *
    have o1 : (ByteArray.mk #[46, 46]).size = 2 := rfl
    have o2 : (ByteArray.mk #[32]).size = 1 := rfl
    have o3 : (ByteArray.mk #[32, 115, 111, 114, 116, 101, 100]).size = 7 := rfl
    have c1 : decide (A.size + (ByteArray.mk #[46, 46]).size ≤ 4611686018427387904) = true := decide_eq_true (by omega)
    have c2 : decide ((A ++ ByteArray.mk #[46, 46]).size + B.size ≤ 4611686018427387904) = true := decide_eq_true (by simp only [ByteArray.size_append]; omega)
    have c3 : decide (((A ++ ByteArray.mk #[46, 46]) ++ B).size + (ByteArray.mk #[32]).size ≤ 4611686018427387904) = true := decide_eq_true (by simp only [ByteArray.size_append]; omega)
    have c4 : decide ((((A ++ ByteArray.mk #[46, 46]) ++ B) ++ ByteArray.mk #[32]).size + W.size ≤ 4611686018427387904) = true := decide_eq_true (by simp only [ByteArray.size_append]; omega)
    have c5 : decide (((((A ++ ByteArray.mk #[46, 46]) ++ B) ++ ByteArray.mk #[32]) ++ W).size + (ByteArray.mk #[32, 115, 111, 114, 116, 101, 100]).size ≤ 4611686018427387904) = true := decide_eq_true (by simp only [ByteArray.size_append]; omega)
    have c6 : ∀ s : AV, decide ((t.length + ([s]).length) * 16 ≤ 140737488355328) = true := fun s => decide_eq_true (by simp only [List.length_cons, List.length_nil]; omega)
    have c7 : ∀ s : AV, decide ((t.length + ([s]).length) ≤ 140737488355328) = true := fun s => decide_eq_true (by simp only [List.length_cons, List.length_nil]; omega)
    simp only [c1, c2, c3, c4, c5, c6, c7, Bool.and_self, cond_true]
    cases v71_0 vs rs ps a b <;> rfl) (fun t _ => by
    unfold R40_0 F40_0
    rw [decide_eq_false (Int.lt_irrefl _)]
    rfl) L.length (((L.length : Int) - 0).toNat + 1) 0 [] (Int.le_refl 0) (by omega) (by omega) rfl
  rw [app_fold (fun i : Int => lineOf vs rs ps (L.getD i.toNat .undef)), List.nil_append] at hr
  rw [hr]
  congr 1
  apply List.ext_getElem?
  intro k
  rw [List.getElem?_map, List.getElem?_map]
  by_cases hk : k < L.length
  · rw [List.getElem?_range hk, List.getElem?_eq_getElem hk]
    show some (lineOf vs rs ps (L.getD (0 + (k : Int)).toNat .undef)) = some (lineOf vs rs ps L[k])
    rw [show (0 + (k : Int)).toNat = k by omega, List.getD_eq_getElem?_getD, List.getElem?_eq_getElem hk]
    rfl
  · rw [List.getElem?_eq_none (by rw [List.length_range]; omega), List.getElem?_eq_none (by omega)]
    rfl
theorem piecel (vs rs ps : List AV) (h1 : vs.length ≤ 1048576) (h2 : rs.length ≤ 1048576) (h : ps.length ≤ 1048576) (hn : ∀ y ∈ vs, In64 (fI y 0)) :
    q39 vs rs ps = true ∧ q40 vs rs ps = true ∧ v40_0 vs rs ps = v39_0 vs rs ps ∧ (v39_0 vs rs ps).length ≤ 1048577 := by
  obtain ⟨s1, s2⟩ := P64 vs rs ps h1 h2 h
  obtain ⟨s3, s4⟩ := P66 vs rs ps h1 h2 h
  obtain ⟨e1, e2, e3⟩ := ends68 vs rs ps h
  cases hc : isC vs rs ps with
  | false =>
    have hr : runW (R39_0 vs rs ps (v68_0 vs rs ps)) ((((v68_0 vs rs ps).length : Int) - 0).toNat + 1) (0, 0, ([] : List AV)) = some [] := by
      unfold runW R39_0 F39_0
      rw [s1, s2, hc, decide_eq_true (by omega : (0 : Int) < ((v68_0 vs rs ps).length : Int))]
      rfl
    unfold q39 q40 v39_0 v40_0
    rw [s3, s4, hc, e1, hr]
    exact ⟨rfl, rfl, rfl, Nat.zero_le _⟩
  | true =>
    have X : Cx vs rs ps := ⟨h1, h, by
      unfold isC at hc
      simp only [Bool.and_eq_true, decide_eq_true_eq] at hc
      exact hc.2.1, hc, hn, s1, s2.trans hc⟩
    have hl : (endsP vs ps).length = ps.length + 1 := by unfold endsP; simp
    have r39 := run39 X (v68_0 vs rs ps) (eP vs ps) e2 (fun k a b => e3 k a (by omega)) (fun k a b => eP_in hc k a (by omega))
    have inv := gQ_inv (eP vs ps) vs.length (endsP vs ps).length 0 0 [] (fun k a b => eP_in hc k a (by omega)) (Int.le_refl 0) (fun p hp => by cases hp)
    have rel := gQ_rel vs rs ps (eP vs ps) (endsP vs ps).length 0 0 []
    have r72 := run72 X
    have v72 : v72_0 vs rs ps = (foldF (gQ (eP vs ps)) (endsP vs ps).length 0 (0, [])).2 := by
      show ro (runW (R72_0 ((endsP vs ps).length : Int) (endsP vs ps)) ((((endsP vs ps).length : Int) - 0).toNat + 1) (0, 0, ([] : List AV))) [] (fun p => p) = _
      rw [r72]
      rfl
    have q72' : q72 vs rs ps = true := by
      show ((decide (ps.length * 16 ≤ 140737488355328) && decide (ps.length ≤ 140737488355328)) && ((decide ((ps.length + 1) * 16 ≤ 140737488355328) && decide ((ps.length + 1) ≤ 140737488355328)) && (ro (runW (R72_0 ((endsP vs ps).length : Int) (endsP vs ps)) ((((endsP vs ps).length : Int) - 0).toNat + 1) (0, 0, ([] : List AV))) false (fun p => true)))) = true
      rw [r72, decide_eq_true (by omega), decide_eq_true (by omega), decide_eq_true (by omega), decide_eq_true (by omega)]
      rfl
    generalize hLL : (foldF (gQ (eP vs ps)) (endsP vs ps).length 0 (0, [])).2 = L at *
    have hLn : L.length ≤ 1048577 := by have := inv.2; simp only [List.length_nil] at this; omega
    have r40 := run40 X L hLn inv.1
    have hP : (foldF (gP vs rs ps (eP vs ps)) (v68_0 vs rs ps).length 0 (0, [])).2 = L.map (lineOf vs rs ps) := by
      rw [e2, ← hl]
      have := congrArg Prod.snd rel
      simp only [List.map_nil] at this
      exact this
    unfold q39 q40 v39_0 v40_0
    rw [s3, s4, hc, e1, r39, q72', v72, r40, hP]
    refine ⟨rfl, rfl, rfl, ?_⟩
    show (L.map (lineOf vs rs ps)).length ≤ _
    rw [List.length_map]
    exact hLn
theorem mt_step (n : Int) (s : ByteArray) (h : 0 < n) (h1 : n ≤ 9223372036854775807) (hs : s.size ≤ 100) :
    R61_0 (n, s) = .next (Int.tdiv n 10, ⟨(UInt8.ofNat (48 + n.natAbs % 10) :: s.data.toList).toArray⟩) := by
  unfold R61_0 F61_0
  have d1 : decide ((10 : Nat) = 0) = false := rfl
  have d2 : ∀ x, decide ((bytesA [AV.int .u8 x]).size + s.size ≤ 4611686018427387904) = true := fun x => decide_eq_true (by rw [bytes_one_size]; omega)
  have e : (Int.tdiv n 10).natAbs = n.natAbs / 10 := by rw [Int.natAbs_tdiv]; rfl
  rw [wrap_in (a := Int.tdiv n 10) (by omega) (by omega)]
  have et : Int.tmod n 10 = ((n.natAbs % 10 : Nat) : Int) := by
    have : n = (n.natAbs : Int) := by omega
    conv => lhs; rw [this]
    rfl
  simp only [decide_eq_true (by omega : n > 0), d1, d2, Bool.not_false, cond_true, et]
  rw [bytes_one]
  obtain ⟨e1, e2⟩ := digit_wrap (n.natAbs % 10) (Nat.mod_lt _ (by decide))
  rw [e1, e2]
theorem mt_run : ∀ (f k : Nat) (n : Int) (s : ByteArray), n.natAbs < 10 ^ k → n.natAbs < f → s.size + k ≤ 100 → 0 ≤ n → n ≤ 9223372036854775807 → ∃ r, runW R61_0 f (n, s) = some r ∧ r.size ≤ 100
  | 0, _, _, _, _, h, _, _, _ => by omega
  | f + 1, k, n, s, hk, hf, hs, h0, h1 => by
    by_cases hz : n = 0
    · subst hz
      refine ⟨s, ?_, by omega⟩
      unfold runW R61_0 F61_0
      rfl
    · have e : (Int.tdiv n 10).natAbs = n.natAbs / 10 := by rw [Int.natAbs_tdiv]; rfl
      have e0 : 0 ≤ Int.tdiv n 10 := Int.tdiv_nonneg h0 (by decide)
      cases k with
      | zero => simp at hk; omega
      | succ k =>
        rw [Nat.pow_succ] at hk
        obtain ⟨r, h2, h3⟩ := mt_run f k (Int.tdiv n 10) ⟨(UInt8.ofNat (48 + n.natAbs % 10) :: s.data.toList).toArray⟩ (by rw [e]; omega) (by rw [e]; omega) (by
          show (_ :: s.data.toList).toArray.size + k ≤ 100
          rw [List.size_toArray, List.length_cons, Array.length_toList]
          have : s.data.size = s.size := rfl
          omega) e0 (by omega)
        refine ⟨r, ?_, h3⟩
        unfold runW
        rw [mt_step n s (by omega) h1 (by omega)]
        exact h2
theorem mt_ok (n : Int) (h0 : 0 ≤ n) (h1 : n ≤ 4398046511104) : q61 n = true := by
  unfold q61
  by_cases hz : n ≤ 0
  · rw [decide_eq_true hz]
    rfl
  · obtain ⟨r, h2, h3⟩ := mt_run ((n - 0).toNat + 1) 19 n ByteArray.empty (by omega) (by omega) (by decide) h0 (by omega)
    rw [decide_eq_false hz, h2]
    have o1 : (ByteArray.mk #[109]).size = 1 := rfl
    exact decide_eq_true (by omega)
def mk32 (t : Int) : AV := AV.agg [AV.str (v61_0 t)]
theorem P32 (xs : List AV) (k : Int) (h : xs.length ≤ 1048577) (hk : 0 ≤ k) (hk' : k ≤ 1099511627776) : ∃ ys, q32 k xs = true ∧ v32_0 k xs = k + 1 * xs.length ∧ v32_1 k xs = ys ∧ ys.length = xs.length ∧ ∀ i : Nat, i < xs.length → ys.getD i .undef = mk32 (k + 1 * i) := by
  have step : ∀ (t i : Int) (ys : List AV), 0 ≤ i → i < xs.length → ys.length = xs.length → 0 ≤ t → t + 1 ≤ 4398046511104 → R32_0 (t, i, ys) = .next (t + 1, i + 1, ys.set i.toNat (mk32 t)) := fun t i ys h0 hn hl ht hM => by
    have hl' : i < ys.length := by omega
    simp only [R32_0, F32_0, mt_ok t ht (by omega), h0, hl', decide_true, Bool.and_self, cond_true]
    rw [wrap_in (a := i + 1) (by omega) (by omega), wrap_in (a := t + 1) (by omega) (by omega)]
    rfl
  obtain ⟨ys, e1, e2, e3⟩ := runW_mark (f := R32_0) 1 mk32 xs k 4398046511104 (by omega) hk (by omega) step (fun t ys hl => by simp only [R32_0, F32_0, hl, Int.lt_irrefl, decide_false, cond_false])
  refine ⟨ys, ?_, ?_, ?_, e2, e3⟩
  · unfold q32; rw [e1]; rfl
  · unfold v32_0; rw [e1]; rfl
  · unfold v32_1; rw [e1]; rfl
theorem P33 (ys : List AV) (k : Int) (h : ys.length ≤ 1048577) (hk : 0 ≤ k) (hk' : k ≤ 1099511627776) (hy : ∀ i : Nat, i < ys.length → ys.getD i .undef = mk32 (k + 1 * i)) : q33 ys k = true ∧ v33_0 ys k = k + 1 * ys.length := by
  have hr := runW_held (f := R33_0 ys) 1 ys.length k 4398046511104 (by omega) hk (by omega) (fun i h0 hn ht hM => by
    have e := hy i.toNat (by omega)
    rw [show ((i.toNat : Nat) : Int) = i by omega] at e
    simp only [R33_0, F33_0, h0, hn, decide_true, Bool.and_self, cond_true]
    rw [e]
    generalize k + 1 * i = t at *
    have f0 : fS (mk32 t) 0 = v61_0 t := rfl
    rw [f0, mt_ok t ht (by omega), beq_self_eq_true, wrap_in (a := i + 1) (by omega) (by omega), wrap_in (a := t + 1) (by omega) (by omega)]
    simp [Int.add_assoc]) (fun t => by simp only [R33_0, F33_0, Int.lt_irrefl, decide_false, cond_false])
  unfold q33 v33_0
  rw [hr]
  exact ⟨rfl, rfl⟩
theorem getD_map (c : AV → AV) (xs : List AV) (i : Nat) (h : i < xs.length) : (xs.map c).getD i .undef = c (xs.getD i .undef) := by
  rw [List.getD_eq_getElem?_getD, List.getD_eq_getElem?_getD, List.getElem?_map, List.getElem?_eq_getElem h]
  rfl
theorem tw_in {x : AV} (h : TW (.int .i64) x) : ∃ n, x = .int .i64 n ∧ In64 n := by
  obtain ⟨n, rfl, hn⟩ := tw_int h
  exact ⟨n, rfl, of_decide_eq_true (Bool.and_eq_true_iff.1 hn).1, of_decide_eq_true (Bool.and_eq_true_iff.1 hn).2⟩
theorem raw9_true (v r p : List AV) (a2 : v.length ≤ 9223372036854775807) (a3 : r.length ≤ 9223372036854775807) (a4 : p.length ≤ 9223372036854775807) (hx : ∀ y ∈ v, TWs [.int .i64] y.cells) : raw9 v r p = some (.bool true) := by
  unfold raw9
  rw [P34 a2 a3 a4 (by omega) (by omega)]
  by_cases c1 : 1048576 < ((v.length : Int) + (r.length : Int) + (p.length : Int))
  · rw [if_pos c1]
    rfl
  rw [if_neg c1, decide_eq_false (by omega : ¬ (1048576 : Int) - ((v.length : Int) + (r.length : Int) + (p.length : Int)) < 0)]
  obtain ⟨t1, t2, t3, t4⟩ := P36 v r p (by omega) (by omega) (by omega)
  have l2 : (v.map cp14).length ≤ 1048576 := by rw [List.length_map]; omega
  have l3 : (r.map cp14).length ≤ 1048576 := by rw [List.length_map]; omega
  have l4 : (p.map cp65).length ≤ 1048575 + 1 := by rw [List.length_map]; omega
  have hv : ∀ y ∈ v.map cp14, In64 (fI y 0) := fun y hy => by
    obtain ⟨x, hm, rfl⟩ := List.mem_map.1 hy
    obtain ⟨z, zs, e1, e2, _⟩ := tws_cons (hx _ hm)
    obtain ⟨n, rfl, hn⟩ := tw_in e2
    have f0 : fI (cp14 x) 0 = n := by
      show fI x 0 = n
      unfold fI
      rw [e1]
      rfl
    rw [f0]
    exact hn
  generalize v.map cp14 = v' at *
  generalize r.map cp14 = r' at *
  generalize p.map cp65 = p' at *
  obtain ⟨x1, x2, x3, x4⟩ := piecel v' r' p' l2 l3 l4 hv
  obtain ⟨z1, z2⟩ := P38s v' r' p' l2 l3 l4
  obtain ⟨m1, m2⟩ := mC v' r' p' 1 l2 l3 l4 (by decide) (by decide)
  generalize hw : v39_0 v' r' p' = w at *
  obtain ⟨j1, j2⟩ := P29 w (by omega)
  obtain ⟨ys, k1, k2, k3, k4, k5⟩ := P32 w 1 (by omega) (by decide) (by decide)
  obtain ⟨h1, h2⟩ := P33 ys 1 (by omega) (by decide) (by decide) (fun i hi => k5 i (by omega))
  have n1 : decide (v41_0 1 v' r' p' < 0) = false := decide_eq_false (by omega)
  have n2 : decide (v33_0 ys 1 < 0) = false := decide_eq_false (by omega)
  have n3 : decide (v33_0 ys 1 = v32_0 1 w) = true := decide_eq_true (by omega)
  simp only [t1, t2, t3, t4, x1, x2, x3, hw, z1, z2, m1, n1, j1, j2, k1, k3, h1, n2, n3, Bool.not_true, cond_false, cond_true]
theorem law9 {x0 : AV} (t0 : TA Tryd.prog 59 x0) : m9 [x0] = some (true, .bool true) := by
  obtain ⟨cs, rfl, h1⟩ := ta_agg (cts := [.sl [.int .i64], .sl [.int .i64], .sl [.int .i64, .int .i64]]) t0 (by kernel_rfl) (by kernel_rfl)
  obtain ⟨x2, _, rfl, g2, h4⟩ := tws_cons h1
  obtain ⟨x3, _, rfl, g3, h5⟩ := tws_cons h4
  obtain ⟨x4, _, rfl, g4, h6⟩ := tws_cons h5
  obtain rfl := tws_nil h6
  obtain ⟨v, rfl, a2, hx⟩ := tw_sl g2
  obtain ⟨r, rfl, a3, _⟩ := tw_sl g3
  obtain ⟨p, rfl, a4, _⟩ := tw_sl g4
  show (raw9 v r p).map (fun r => (true, r)) = _
  rw [raw9_true v r p a2 a3 a4 hx]
  rfl

end Go.Proofs.YtiokajbmckcklaaDoor
