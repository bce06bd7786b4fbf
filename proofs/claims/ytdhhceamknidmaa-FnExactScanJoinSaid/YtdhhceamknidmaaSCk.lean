/- joins, 2 -/
import Derived.Test.YtdhhceamknidmaaSCj
namespace Go.Proofs.Ytdhhceamknidmaa
open Go Go.Proofs.VE
set_option linter.unusedVariables false
set_option linter.unusedSimpArgs false
/-! ### the reference's scan -/
theorem v125_eq (a b x : Int) : v125_0 a b x = v133_0 a b x := by
  unfold v125_0 v144_0 v133_0 v149_0
  simp only [v67]
  have e : (bif (decide (-1000 ≤ a) && decide (a ≤ 1000)) then (decide (a ≤ b) && decide (b ≤ 1000)) else false) = (bif decide (-1000 ≤ a) then bif decide (a ≤ b) then decide (b ≤ 1000) else false else false) := by
    apply Bool.eq_iff_iff.2
    simp only [Bool.cond_eq_ite, Bool.and_eq_true, decide_eq_true_eq]
    constructor
    · intro h
      split at h
      · rename_i h1
        rw [if_pos h1.1]
        simp only [Bool.and_eq_true, decide_eq_true_eq] at h
        rw [if_pos h.1]
        exact decide_eq_true h.2
      · cases h
    · intro h
      split at h
      · rename_i h1
        split at h
        · rename_i h2
          have h3 := of_decide_eq_true h
          rw [if_pos ⟨h1, by omega⟩]
          simp only [Bool.and_eq_true, decide_eq_true_eq]
          exact ⟨h2, h3⟩
        · cases h
      · cases h
  rw [e]
  cases he : (bif decide (-1000 ≤ a) then bif decide (a ≤ b) then decide (b ≤ 1000) else false else false) with
  | false => rfl
  | true =>
    have : -1000 ≤ a ∧ a ≤ b ∧ b ≤ 1000 := by
      by_cases h1 : -1000 ≤ a
      · by_cases h2 : a ≤ b
        · by_cases h3 : b ≤ 1000
          · exact ⟨h1, h2, h3⟩
          · rw [decide_eq_true h1, decide_eq_true h2, decide_eq_false h3] at he; cases he
        · rw [decide_eq_true h1, decide_eq_false h2] at he; cases he
      · rw [decide_eq_false h1] at he; cases he
    rw [wrap_in (a := b - 1) (by omega) (by omega), show decide (x ≤ b - 1) = decide (x < b) from decide_eq_decide.2 (by omega)]
    cases decide (a ≤ x) <;> rfl
/-- The place of a row. -/
def fr (r : List AV) (i : Int) : Option Int := findF (fun k => decide (fI (r.getD k.toNat .undef) 0 = i)) r.length 0
theorem P124f (v r p : List AV) (i : Int) (h : r.length ≤ 1048576) : q124 v r p i = true ∧ v124_0 v r p i = ro (fr r i) (-1) id := by
  have key := runW_find (f := R124_0 i v r p) (fun k => k) r.length (fun k => decide (fI (r.getD k.toNat .undef) 0 = i)) (.inl ()) (fun k => .inr k) (fun k h0 hn => by
    simp only [R124_0, F124_0, h0, hn, decide_true, Bool.and_self, cond_true]
    rw [wrap_in (a := k + 1) (by omega) (by omega)]) (by simp only [R124_0, F124_0, Int.lt_irrefl, decide_false, cond_false]) r.length (((r.length : Int) - 0).toNat + 1) 0 (Int.le_refl 0) (by omega) (by omega)
  unfold q124 v124_0 fr
  rw [key]
  cases findF (fun k => decide (fI (r.getD k.toNat .undef) 0 = i)) r.length 0 <;> exact ⟨rfl, rfl⟩
theorem fr_some {r : List AV} {i k : Int} (h : fr r i = some k) : 0 ≤ k ∧ k < r.length ∧ el r k = i := by
  obtain ⟨h1, h2, h3⟩ := findF_some _ _ h
  exact ⟨h1, by omega, of_decide_eq_true h3⟩
/-- The rows that an element meets. -/
def ls1 (x y : AV) : List AV := bif decide (fI x 0 = fI y 0) then [.int .i64 (fI y 1)] else []
def lsq (x : AV) (B : List AV) : List AV := B.flatMap (ls1 x)
theorem ls1_len (x y : AV) : (ls1 x y).length ≤ 1 := by unfold ls1; cases decide (fI x 0 = fI y 0) <;> simp
theorem lsq_len (x : AV) (B : List AV) : (lsq x B).length ≤ B.length := by
  have := flat_len (g := ls1 x) (c := 1) B fun y _ => ls1_len x y
  unfold lsq
  omega
/-- The element at place k. -/
def eK (v r : List AV) (k : Int) : AV := avP (el v k, el r k)
def rowQ (v r v' r' : List AV) (a b i : Int) : List (Int × Int) := match fr r i with
  | none => []
  | some k => bif keepR a b (eK v r k) then (srt (lsq (eK v r k) (els v' r'))).map fun z => (i, z) else []
theorem rowQ_len (v r v' r' : List AV) (a b i : Int) : (rowQ v r v' r' a b i).length ≤ v'.length := by
  unfold rowQ
  cases fr r i with
  | none => exact Nat.zero_le _
  | some k =>
    have := lsq_len (eK v r k) (els v' r')
    rw [els_len] at this
    simp only
    cases keepR a b (eK v r k)
    · exact Nat.zero_le _
    · rw [cond_true, List.length_map, srt_len]; exact this
theorem inner1 (v r p v' r' p' zs : List AV) (a b i k : Int) (k0 : 0 ≤ k) (k1 : k < v.length) (h4 : v'.length ≤ 1048576) (hl : r'.length = v'.length) :
    runW (R95_2 i k v r p v' r' p' a b zs) (((v'.length : Int) - 0).toNat + 1) (0, []) = some (lsq (eK v r k) (els v' r')) := by
  have key := runW_flat (f := R95_2 i k v r p v' r' p' a b zs) (fun i zs => (i, zs)) id (els v' r') (ls1 (eK v r k)) 1 (fun y _ => ls1_len _ y) []
    (fun j us j0 jn hu => by
      rw [els_len] at jn
      simp only [List.length_nil, Nat.zero_add, Nat.one_mul] at hu
      have d1 : decide (j < (v'.length : Int)) = true := decide_eq_true jn
      have d2 : decide (0 ≤ j) = true := decide_eq_true j0
      have d3 : decide (0 ≤ k) = true := decide_eq_true k0
      have d4 : decide (k < (v.length : Int)) = true := decide_eq_true k1
      have d5 : decide (j < (r'.length : Int)) = true := decide_eq_true (by omega)
      have wj : IntKind.i64.wrap (j + 1) = j + 1 := wrap_in (by omega) (by omega)
      rw [els_get v' r' j j0 jn]
      simp only [R95_2, F95_2, d1, d2, d3, d4, d5, wj, Bool.and_self, cond_true, List.length_singleton]
      rw [decide_eq_true (by omega : (us.length + 1) * 8 ≤ 140737488355328), decide_eq_true (by omega : us.length + 1 ≤ 140737488355328)]
      unfold ls1 eK
      rw [avP0, avP0, avP1]
      show (bif decide (el v' j = el v k) then _ else _) = _
      rw [show decide (el v' j = el v k) = decide (el v k = el v' j) from decide_eq_decide.2 ⟨Eq.symm, Eq.symm⟩]
      cases decide (el v k = el v' j)
      · simp
      · rfl)
    (fun us => by rw [els_len]; simp only [R95_2, F95_2, Int.lt_irrefl, decide_false, cond_false]; rfl) v'.length (els_len v' r').symm
  rw [key]
  rfl
theorem inner2 (v r p v' r' p' L zs : List AV) (a b i : Int) (hL : L.length ≤ 64) (hz : zs.length ≤ 1048576) :
    runW (R95_4 i v r p v' r' p' a b L) (((L.length : Int) - 0).toNat + 1) (0, zs) = some (zs ++ (ints L).map fun z => avP (i, z)) := by
  have key := runW_flat (f := R95_4 i v r p v' r' p' a b L) (fun i zs => (i, zs)) id L (fun y => [avP (i, fI y 0)]) 1 (fun y _ => Nat.le_refl _) zs
    (fun j us j0 jn hu => by
      have d1 : decide (j < (L.length : Int)) = true := decide_eq_true jn
      have d2 : decide (0 ≤ j) = true := decide_eq_true j0
      have wj : IntKind.i64.wrap (j + 1) = j + 1 := wrap_in (by omega) (by omega)
      simp only [R95_4, F95_4, d1, d2, wj, Bool.and_self, cond_true, List.length_singleton]
      rw [decide_eq_true (by omega : (us.length + 1) * 16 ≤ 140737488355328), decide_eq_true (by omega : us.length + 1 ≤ 140737488355328)]
      rfl)
    (fun us => by simp only [R95_4, F95_4, Int.lt_irrefl, decide_false, cond_false]; rfl) L.length rfl
  rw [key]
  unfold ints
  rw [List.map_map, id]
  have : ∀ L : List AV, L.flatMap (fun y => [avP (i, fI y 0)]) = L.map ((fun z => avP (i, z)) ∘ fun x => fI x 0) := fun L => by
    induction L with
    | nil => rfl
    | cons y L ih => rw [List.flatMap_cons, ih, List.map_cons]; rfl
  rw [this]
theorem step95 (v r p v' r' p' zs : List AV) (a b i : Int) (h2 : r.length ≤ 1048576) (hl : r.length = v.length) (h4 : v'.length ≤ 64) (hl' : r'.length = v'.length) (i0 : 0 ≤ i) (i1 : i < 1000) (hz : zs.length ≤ 1048576) :
    R95_0 v r p v' r' p' a b (i, zs) = .next (i + 1, zs ++ (rowQ v r v' r' a b i).map avP) := by
  obtain ⟨e1, e2⟩ := P124f v r p i h2
  have d1 : decide (i < 1000) = true := decide_eq_true i1
  have wi : IntKind.i64.wrap (i + 1) = i + 1 := wrap_in (by omega) (by omega)
  generalize hw : v124_0 v r p i = w at e2
  unfold rowQ
  cases hf : fr r i with
  | none =>
    rw [hf] at e2
    have hw2 : w = -1 := e2
    subst hw2
    have d2 : decide ((-1 : Int) < 0) = true := rfl
    simp only [R95_0, F95_0, d1, e1, hw, d2, wi, cond_true, List.map_nil, List.append_nil]
  | some k =>
    rw [hf] at e2
    have hw2 : w = k := e2
    subst hw2
    obtain ⟨k0, k1, k2⟩ := fr_some hf
    have d2 : decide (w < 0) = false := decide_eq_false (by omega)
    have d3 : decide (0 ≤ w) = true := decide_eq_true k0
    have d4 : decide (w < (v.length : Int)) = true := decide_eq_true (by omega)
    have ek : fI (v.getD w.toNat AV.undef) 0 = el v w := rfl
    have kp : keepR a b (eK v r w) = v133_0 a b (el v w) := rfl
    simp only
    rw [kp]
    cases hk : v133_0 a b (el v w) with
    | false =>
      simp only [R95_0, F95_0, d1, e1, hw, d2, d3, d4, ek, v125_eq, hk, wi, Bool.and_self, Bool.not_false, cond_true, cond_false, List.map_nil, List.append_nil]
    | true =>
      have n1 := inner1 v r p v' r' p' zs a b i w k0 (by omega) (by omega) hl'
      have hll := lsq_len (eK v r w) (els v' r')
      rw [els_len] at hll
      obtain ⟨s1, s2, s3⟩ := P92 (lsq (eK v r w) (els v' r')) (by omega)
      have n2 := inner2 v r p v' r' p' (v92_0 (lsq (eK v r w) (els v' r'))) zs a b i (by omega) hz
      rw [s3] at n2
      simp only [R95_0, F95_0, d1, e1, hw, d2, d3, d4, ek, v125_eq, hk, wi, n1, s1, n2, ro, Bool.and_self, Bool.not_true, cond_true, cond_false, List.map_map]
      rfl
/-- All pairs of the reference's scan. -/
def scanQ (v r v' r' : List AV) (a b : Int) : List (Int × Int) := (List.range 1000).flatMap fun n : Nat => rowQ v r v' r' a b n
theorem P95 (v r p v' r' p' : List AV) (a b : Int) (h2 : r.length ≤ 1048576) (hl : r.length = v.length) (h4 : v'.length ≤ 64) (hl' : r'.length = v'.length) :
    q95 v r p v' r' p' a b = true ∧ v95_0 v r p v' r' p' a b = (scanQ v r v' r' a b).map avP := by
  have hxl : ((List.range 1000).map fun n : Nat => AV.int .i64 (n : Int)).length = 1000 := by rw [List.length_map, List.length_range]
  have key : runW (R95_0 v r p v' r' p' a b) ((1000 - 0 : Int).toNat + 1) (0, []) = some ([] ++ ((List.range 1000).map fun n : Nat => AV.int .i64 (n : Int)).flatMap fun x => (rowQ v r v' r' a b (fI x 0)).map avP) :=
    runW_flat (f := R95_0 v r p v' r' p' a b) (fun i zs => (i, zs)) id ((List.range 1000).map fun n : Nat => AV.int .i64 (n : Int)) (fun x => (rowQ v r v' r' a b (fI x 0)).map avP) 64
      (fun x _ => by
        have := rowQ_len v r v' r' a b (fI x 0)
        rw [List.length_map]
        omega) []
      (fun i zs i0 hn hz => by
        rw [hxl] at hn
        simp only [List.length_nil, Nat.zero_add] at hz
        have e : ((List.range 1000).map fun n : Nat => AV.int .i64 (n : Int)).getD i.toNat .undef = AV.int .i64 i := by
          have : i.toNat < 1000 := by omega
          rw [List.getD_eq_getElem?_getD, List.getElem?_map, List.getElem?_range this]
          show AV.int .i64 ((i.toNat : Nat) : Int) = _
          rw [show ((i.toNat : Nat) : Int) = i by omega]
        rw [e]
        exact step95 v r p v' r' p' zs a b i h2 hl h4 hl' i0 (by omega) (by omega))
      (fun zs => by rw [hxl]; rfl) 1000 hxl.symm
  unfold q95 v95_0
  rw [key]
  refine ⟨rfl, ?_⟩
  show [] ++ _ = _
  rw [List.nil_append, List.flatMap_map]
  unfold scanQ
  rw [List.map_flatMap]
  rfl
/-! ### both scans -/
theorem flat_congr {α β : Type} {f g : α → List β} : ∀ (xs : List α), (∀ x ∈ xs, f x = g x) → xs.flatMap f = xs.flatMap g
  | [], _ => rfl
  | x :: xs, h => by rw [List.flatMap_cons, List.flatMap_cons, h x (List.mem_cons_self ..), flat_congr xs fun y hy => h y (List.mem_cons_of_mem _ hy)]
theorem flat_perm {α β : Type} {f g : α → List β} : ∀ (xs : List α), (∀ x ∈ xs, (f x).Perm (g x)) → (xs.flatMap f).Perm (xs.flatMap g)
  | [], _ => List.Perm.refl _
  | x :: xs, h => by
    rw [List.flatMap_cons, List.flatMap_cons]
    exact (h x (List.mem_cons_self ..)).append (flat_perm xs fun y hy => h y (List.mem_cons_of_mem _ hy))
theorem filter_flat {α β : Type} {p : α → Bool} {f : α → List β} : ∀ (xs : List α), (xs.filter p).flatMap f = xs.flatMap fun x => bif p x then f x else []
  | [] => rfl
  | x :: xs => by
    rw [List.flatMap_cons, ← filter_flat xs]
    cases hp : p x
    · rw [List.filter_cons_of_neg (by simp [hp])]; rfl
    · rw [List.filter_cons_of_pos hp]; rfl
theorem fmap_flat {α β γ : Type} {f : α → Option β} {g : β → List γ} : ∀ (xs : List α), (xs.filterMap f).flatMap g = xs.flatMap fun x => match f x with | none => [] | some y => g y
  | [] => rfl
  | x :: xs => by
    rw [List.flatMap_cons, ← fmap_flat xs]
    cases hp : f x
    · rw [List.filterMap_cons_none hp]; rfl
    · rw [List.filterMap_cons_some hp]; rfl
theorem sortPL_map (J : List (Int × Int)) : sortPL (J.map avP) = (J.mergeSort leP).map avP := by
  unfold sortPL
  rw [List.map_map]
  have : J.map ((fun x => (fI x 0, fI x 1)) ∘ avP) = J := (List.map_congr_left (g := id) fun x _ => rfl).trans (List.map_id _)
  rw [this]
def pairQ (v r v' r' : List AV) (a b k : Int) : List (Int × Int) := bif keepR a b (eK v r k) then (ints (lsq (eK v r k) (els v' r'))).map fun z => (el r k, z) else []
theorem jn_keep {a b : Int} {x : AV} (h : keepR a b x = true) (B : List AV) : jn x (B.filter (keepR a b)) = jn x B := by
  unfold jn
  rw [filter_flat]
  refine flat_congr B fun y _ => ?_
  unfold jn1
  by_cases e : fI x 0 = fI y 0
  · have : keepR a b y = true := by unfold keepR at *; rw [← e]; exact h
    rw [this]; rfl
  · rw [decide_eq_false e]
    cases keepR a b y <;> rfl
theorem jn_pairs (x : AV) (B : List AV) : jn x B = ((ints (lsq x B)).map fun z => (fI x 1, z)).map avP := by
  unfold jn lsq ints
  rw [List.map_map, List.map_map, List.map_flatMap]
  refine flat_congr B fun y _ => ?_
  unfold jn1 ls1
  cases decide (fI x 0 = fI y 0) <;> rfl
theorem scanJ_eq (v r v' r' : List AV) (a b : Int) : scanJ v r v' r' a b = ((List.range v.length).flatMap fun k : Nat => pairQ v r v' r' a b k).map avP := by
  unfold scanJ jns
  rw [filter_flat, List.map_flatMap, show els v r = (List.range v.length).map fun k : Nat => eK v r k from rfl, List.flatMap_map]
  refine flat_congr _ fun k _ => ?_
  unfold pairQ
  cases hk : keepR a b (eK v r k) with
  | false => rfl
  | true =>
    rw [cond_true, cond_true, jn_keep hk, jn_pairs]
    rfl
theorem leP_trans (x y z : Int × Int) (h1 : leP x y = true) (h2 : leP y z = true) : leP x z = true := by
  unfold leP at *
  simp only [Bool.or_eq_true, Bool.and_eq_true, decide_eq_true_eq] at *
  omega
theorem leP_total (x y : Int × Int) : (leP x y || leP y x) = true := by
  unfold leP
  simp only [Bool.or_eq_true, Bool.and_eq_true, decide_eq_true_eq]
  omega
theorem leP_anti (x y : Int × Int) (h1 : leP x y = true) (h2 : leP y x = true) : x = y := by
  unfold leP at *
  simp only [Bool.or_eq_true, Bool.and_eq_true, decide_eq_true_eq] at *
  exact Prod.ext (by omega) (by omega)
theorem fr_none {r : List AV} {i : Int} (h : fr r i = none) : ∀ k : Int, 0 ≤ k → k < r.length → el r k ≠ i := fun k k0 k1 e => by
  have : (fr r i).isNone = true := by rw [h]; rfl
  exact absurd e (of_decide_eq_false ((findF_isNone _ _).1 this k k0 (by omega)))
theorem fr_at {v r p : List AV} (hc : Col v r p) (k : Int) (k0 : 0 ≤ k) (k1 : k < v.length) : fr r (el r k) = some k := by
  have hl := hc.len
  cases hf : fr r (el r k) with
  | none => exact absurd rfl (fr_none hf k k0 (by omega))
  | some j =>
    obtain ⟨j0, j1, j2⟩ := fr_some hf
    rcases Int.lt_trichotomy j k with h | h | h
    · exact absurd j2 (hc.dist j k j0 h (by omega))
    · rw [h]
    · exact absurd j2.symm (hc.dist k j k0 h (by omega))
theorem rowQ_fst {v r v' r' : List AV} {a b i : Int} {x : Int × Int} (h : x ∈ rowQ v r v' r' a b i) : x.1 = i := by
  unfold rowQ at h
  cases hf : fr r i with
  | none => rw [hf] at h; cases h
  | some k =>
    rw [hf] at h
    simp only at h
    cases hk : keepR a b (eK v r k)
    · rw [hk] at h; cases h
    · rw [hk, cond_true] at h
      obtain ⟨z, _, rfl⟩ := List.mem_map.1 h
      rfl
theorem scanQ_pair (v r v' r' : List AV) (a b : Int) : (scanQ v r v' r' a b).Pairwise fun x y => leP x y = true := by
  unfold scanQ
  rw [List.pairwise_flatMap]
  constructor
  · intro n _
    unfold rowQ
    cases fr r n with
    | none => exact List.Pairwise.nil
    | some k =>
      simp only
      cases keepR a b (eK v r k)
      · exact List.Pairwise.nil
      · rw [cond_true, List.pairwise_map]
        refine (srt_pair _).imp fun {x y} h => ?_
        show (decide ((n : Int) < n) || (decide ((n : Int) = n) && decide (x ≤ y))) = true
        rw [h]
        simp
  · refine List.pairwise_lt_range.imp fun {m n} h x hx y hy => ?_
    have e1 := rowQ_fst hx
    have e2 := rowQ_fst hy
    unfold leP
    simp only [Bool.or_eq_true, Bool.and_eq_true, decide_eq_true_eq]
    omega
theorem scan_perm {v r p : List AV} (hc : Col v r p) (v' r' : List AV) (a b : Int) : (scanQ v r v' r' a b).Perm ((List.range v.length).flatMap fun k : Nat => pairQ v r v' r' a b k) := by
  have hl := hc.len
  obtain ⟨gS, hgS⟩ : ∃ gS : Nat → List (Int × Int), gS = fun k : Nat => bif keepR a b (eK v r k) then (srt (lsq (eK v r k) (els v' r'))).map fun z => (el r k, z) else [] := ⟨_, rfl⟩
  obtain ⟨frN, hfr⟩ : ∃ frN : Nat → Option Nat, frN = fun n : Nat => (fr r n).map Int.toNat := ⟨_, rfl⟩
  have e1 : scanQ v r v' r' a b = ((List.range 1000).filterMap frN).flatMap gS := by
    rw [fmap_flat]
    refine flat_congr _ fun n _ => ?_
    unfold rowQ
    rw [hfr, hgS]
    cases hf : fr r n with
    | none => simp [hf]
    | some k =>
      obtain ⟨k0, k1, k2⟩ := fr_some hf
      simp only [hf, Option.map_some]
      rw [show ((k.toNat : Nat) : Int) = k by omega, k2]
  have p1 : ((List.range 1000).filterMap frN).Perm (List.range v.length) := by
    refine (List.perm_ext_iff_of_nodup ?_ List.nodup_range).2 fun k => ?_
    · refine List.Pairwise.filterMap frN (fun m n hmn x hx y hy e => hmn ?_) (List.nodup_range (n := 1000))
      rw [hfr] at hx hy
      simp only [Option.map_eq_some_iff] at hx hy
      obtain ⟨x', hx1, rfl⟩ := hx
      obtain ⟨y', hy1, rfl⟩ := hy
      obtain ⟨a1, a2, a3⟩ := fr_some hx1
      obtain ⟨b1, b2, b3⟩ := fr_some hy1
      have : x' = y' := by omega
      subst this
      omega
    · rw [List.mem_filterMap, List.mem_range]
      constructor
      · rintro ⟨n, _, hn⟩
        rw [hfr] at hn
        simp only [Option.map_eq_some_iff] at hn
        obtain ⟨x', hx1, rfl⟩ := hn
        obtain ⟨a1, a2, a3⟩ := fr_some hx1
        omega
      · intro hk
        obtain ⟨r0, r1⟩ := hc.rows k (by omega) (by omega)
        refine ⟨(el r k).toNat, List.mem_range.2 (by omega), ?_⟩
        rw [hfr]
        simp only
        rw [show (((el r k).toNat : Nat) : Int) = el r k by omega, fr_at hc k (by omega) (by omega)]
        simp
  rw [e1]
  refine (p1.flatMap_right gS).trans (flat_perm _ fun k _ => ?_)
  rw [hgS]
  unfold pairQ
  simp only
  cases keepR a b (eK v r k)
  · exact List.Perm.refl _
  · exact (List.mergeSort_perm _ _).map _
theorem scan_eq {v r p : List AV} (hc : Col v r p) (v' r' : List AV) (a b : Int) : sortPL (scanJ v r v' r' a b) = (scanQ v r v' r' a b).map avP := by
  rw [scanJ_eq, sortPL_map]
  refine congrArg (List.map avP) ?_
  exact List.Perm.eq_of_pairwise (le := fun x y => leP x y = true) (fun x y _ _ => leP_anti x y) (List.pairwise_mergeSort leP_trans leP_total _) (scanQ_pair v r v' r' a b)
    ((List.mergeSort_perm _ _).trans (scan_perm hc v' r' a b).symm)
theorem P45 (v r p v' r' p' : List AV) (a b : Int) (h1 : v.length ≤ 1048576) (h2 : r.length ≤ 1048576) (h3 : p.length ≤ 1048576) (h4 : v'.length ≤ 1048576) (h5 : r'.length ≤ 1048576) (h6 : p'.length ≤ 1048576) :
    q45 v r p v' r' p' a b = true ∧ v45_0 v r p v' r' p' a b = v47_0 v r p v' r' p' a b ∧ (v47_0 v r p v' r' p' a b).length ≤ 64000 := by
  unfold q45 v45_0
  rw [(P47 v r p v' r' p' a b h1 h2 h3 h4 h5 h6).2, (P66 v r p h1 h2 h3).1, (P66 v r p h1 h2 h3).2, (P66 v' r' p' h4 h5 h6).1, (P66 v' r' p' h4 h5 h6).2]
  cases c1 : isC v r p
  · exact ⟨rfl, rfl, Nat.zero_le _⟩
  cases c2 : isC v' r' p'
  · exact ⟨rfl, rfl, Nat.zero_le _⟩
  obtain ⟨l1, l2⟩ := isC_len h1 c1
  obtain ⟨l3, l4⟩ := isC_len h4 c2
  obtain ⟨e1, e2⟩ := P95 v r p v' r' p' a b h2 l2 l3 l4
  rw [e1, e2]
  refine ⟨rfl, ?_, ?_⟩
  · simp only [Bool.not_true, cond_false, Bool.and_self, cond_true]
    exact (scan_eq ((isC_iff v r p h1).1 c1) v' r' a b).symm
  · show (sortPL (scanJ v r v' r' a b)).length ≤ 64000
    rw [sortPL_len]
    unfold scanJ
    refine Nat.le_trans (jns_len _ _) ?_
    have f1 : ((els v r).filter (keepR a b)).length ≤ 64 := Nat.le_trans (List.length_filter_le ..) (by rw [els_len]; exact l1)
    have f2 : ((els v' r').filter (keepR a b)).length ≤ 64 := Nat.le_trans (List.length_filter_le ..) (by rw [els_len]; exact l3)
    exact Nat.le_trans (Nat.mul_le_mul f2 f1) (by omega)

end Go.Proofs.Ytdhhceamknidmaa
