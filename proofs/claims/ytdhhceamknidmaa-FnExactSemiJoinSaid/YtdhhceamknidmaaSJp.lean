/- the law -/
import Derived.Test.YtdhhceamknidmaaSJl
namespace Go.Proofs.Ytdhhceamknidmaa
open Go Go.Proofs.VE
set_option linter.unusedVariables false
set_option linter.unusedSimpArgs false
theorem avP0' (z : Int × Int) : fI (avP z) 0 = z.1 := rfl
/-- The rows whose values meet one of the others. -/
def sm1 (us : List AV) (x : AV) : List AV := bif hasI us (fI x 0) then [.int .i64 (fI x 1)] else []
def smL (v r us : List AV) : List AV := (els v r).flatMap (sm1 us)
theorem sm1_len (us : List AV) (x : AV) : (sm1 us x).length ≤ 1 := by unfold sm1; cases hasI us (fI x 0) <;> simp
theorem smL_len (v r us : List AV) : (smL v r us).length ≤ v.length := by
  have := flat_len (g := sm1 us) (c := 1) (els v r) fun x _ => sm1_len us x
  rw [els_len] at this
  unfold smL
  omega
theorem srt_nil : srt [] = [] := List.eq_nil_of_length_eq_zero (srt_len [])
theorem P41 (v r p v' r' p' : List AV) (h1 : v.length ≤ 1048576) (h2 : r.length ≤ 1048576) (h3 : p.length ≤ 1048576) (h4 : v'.length ≤ 1048576) (h5 : r'.length ≤ 1048576) (h6 : p'.length ≤ 1048576) :
    q41 v r p v' r' p' = true ∧ ints (v41_0 v r p v' r' p') = srt (bif isC v r p && isC v' r' p' then smL v r v' else []) := by
  obtain ⟨a1, a2⟩ := P66 v r p h1 h2 h3
  obtain ⟨a3, a4⟩ := P66 v' r' p' h4 h5 h6
  have key : runW (R41_0 v r p v' r' p') (((v.length : Int) - 0).toNat + 1) (0, []) = some (bif isC v r p && isC v' r' p' then smL v r v' else []) := by
    cases hc : isC v r p && isC v' r' p' with
    | false =>
      show (R41_0 v r p v' r' p' (0, [])).el _ _ _ = _
      by_cases hn : 0 < v.length
      · have d1 : decide ((0 : Int) < (v.length : Int)) = true := decide_eq_true (by omega)
        simp only [R41_0, F41_0, d1, a1, a2, a3, a4, cond_true]
        cases c1 : isC v r p
        · rfl
        · rw [c1] at hc
          rw [show isC v' r' p' = false from hc]
          rfl
      · have d1 : decide ((0 : Int) < (v.length : Int)) = false := decide_eq_false (by omega)
        simp only [R41_0, F41_0, d1, cond_false]
        rfl
    | true =>
      rw [Bool.and_eq_true] at hc
      obtain ⟨c1, c2⟩ := hc
      obtain ⟨l1, l2⟩ := isC_len h1 c1
      have k2 := runW_flat (f := R41_0 v r p v' r' p') (fun i zs => (i, zs)) id (els v r) (sm1 v') 1 (fun x _ => sm1_len v' x) []
        (fun i zs i0 hi hz => by
          rw [els_len] at hi
          simp only [List.length_nil, Nat.zero_add, Nat.one_mul] at hz
          have d1 : decide (i < (v.length : Int)) = true := decide_eq_true hi
          have d2 : decide (0 ≤ i) = true := decide_eq_true i0
          have d3 : decide (i < (r.length : Int)) = true := decide_eq_true (by omega)
          have wi : IntKind.i64.wrap (i + 1) = i + 1 := wrap_in (by omega) (by omega)
          obtain ⟨b1, b2⟩ := P91 v' (fI (v.getD i.toNat .undef) 0) h4
          rw [els_get v r i i0 hi]
          simp only [R41_0, F41_0, d1, d2, d3, a1, a2, a3, a4, c1, c2, b1, b2, wi, Bool.and_self, cond_true, List.length_singleton]
          rw [decide_eq_true (by omega : (zs.length + 1) * 8 ≤ 140737488355328), decide_eq_true (by omega : zs.length + 1 ≤ 140737488355328)]
          unfold sm1
          rw [avP0]
          show (bif hasI v' (el v i) then _ else _) = _
          cases hasI v' (el v i)
          · simp
          · rfl)
        (fun zs => by rw [els_len]; simp only [R41_0, F41_0, Int.lt_irrefl, decide_false, cond_false]; rfl) v.length (els_len v r).symm
      rw [k2]
      rfl
  have hl : (bif isC v r p && isC v' r' p' then smL v r v' else []).length ≤ 1048576 := by
    have := smL_len v r v'
    cases isC v r p && isC v' r' p'
    · exact Nat.zero_le _
    · rw [cond_true]; omega
  unfold q41 v41_0
  rw [key]
  obtain ⟨e1, e2, e3⟩ := P92 _ hl
  exact ⟨e1, e3⟩
theorem asc_pair {xs : List AV} (h : (ints xs).Pairwise (· ≤ ·)) : asc xs xs.length := fun a b a0 ab hb => by
  rw [List.pairwise_iff_getElem] at h
  have := h a.toNat b.toNat (by rw [ints_len]; omega) (by rw [ints_len]; omega) (by omega)
  rw [ints_get, ints_get] at this
  rw [show ((a.toNat : Nat) : Int) = a by omega, show ((b.toNat : Nat) : Int) = b by omega] at this
  exact this
theorem firsts (w : List AV) : ints (w.flatMap fun y => [AV.int .i64 (fI y 0)]) = w.map fun y => fI y 0 := by
  unfold ints
  induction w with
  | nil => rfl
  | cons y w ih => rw [List.flatMap_cons, List.map_append, ih]; rfl
theorem sortPL_firsts (J : List AV) : ((sortPL J).map fun y => fI y 0).Pairwise (· ≤ ·) := by
  unfold sortPL
  rw [List.map_map, List.pairwise_map]
  refine (List.pairwise_mergeSort (le := leP) (fun x y z h1 h2 => ?_) (fun x y => ?_) _).imp fun {x y} h => ?_
  · unfold leP at *
    simp only [Bool.or_eq_true, Bool.and_eq_true, decide_eq_true_eq] at *
    omega
  · unfold leP
    simp only [Bool.or_eq_true, Bool.and_eq_true, decide_eq_true_eq]
    omega
  · show x.1 ≤ y.1
    unfold leP at h
    simp only [Bool.or_eq_true, Bool.and_eq_true, decide_eq_true_eq] at h
    omega
theorem sortPL_mem (J : List AV) (z : Int) : (z ∈ (sortPL J).map fun y => fI y 0) ↔ ∃ y ∈ J, fI y 0 = z := by
  unfold sortPL
  rw [List.map_map, List.mem_map]
  constructor
  · rintro ⟨x, hx, rfl⟩
    have := (List.mergeSort_perm _ _).mem_iff.1 hx
    obtain ⟨y, hy, rfl⟩ := List.mem_map.1 this
    exact ⟨y, hy, rfl⟩
  · rintro ⟨y, hy, rfl⟩
    exact ⟨(fI y 0, fI y 1), (List.mergeSort_perm _ _).mem_iff.2 (List.mem_map.2 ⟨y, hy, rfl⟩), rfl⟩
theorem els_mem {v r : List AV} {x : AV} : x ∈ els v r ↔ ∃ k : Int, 0 ≤ k ∧ k < v.length ∧ x = avP (el v k, el r k) := by
  unfold els
  rw [List.mem_map]
  constructor
  · rintro ⟨k, hk, rfl⟩
    rw [List.mem_range] at hk
    exact ⟨k, by omega, by omega, rfl⟩
  · rintro ⟨k, k0, k1, rfl⟩
    refine ⟨k.toNat, List.mem_range.2 (by omega), ?_⟩
    rw [show ((k.toNat : Nat) : Int) = k by omega]
theorem jns_mem {A B : List AV} {z : Int} : (∃ y ∈ jns A B, fI y 0 = z) ↔ ∃ x ∈ A, fI x 1 = z ∧ ∃ y ∈ B, fI x 0 = fI y 0 := by
  unfold jns jn
  constructor
  · rintro ⟨u, hu, rfl⟩
    obtain ⟨x, hx, hu⟩ := List.mem_flatMap.1 hu
    obtain ⟨y, hy, hu⟩ := List.mem_flatMap.1 hu
    unfold jn1 at hu
    by_cases e : fI x 0 = fI y 0
    · rw [decide_eq_true e, cond_true, List.mem_singleton] at hu
      subst hu
      exact ⟨x, hx, rfl, y, hy, e⟩
    · rw [decide_eq_false e] at hu
      cases hu
  · rintro ⟨x, hx, rfl, y, hy, e⟩
    refine ⟨avP (fI x 1, fI y 1), List.mem_flatMap.2 ⟨x, hx, List.mem_flatMap.2 ⟨y, hy, ?_⟩⟩, rfl⟩
    unfold jn1
    rw [decide_eq_true e]
    exact List.mem_singleton.2 rfl
theorem smL_mem {v r v' : List AV} {z : Int} : z ∈ ints (smL v r v') ↔ ∃ x ∈ els v r, fI x 1 = z ∧ hasI v' (fI x 0) = true := by
  unfold ints smL
  rw [List.map_flatMap]
  constructor
  · intro h
    obtain ⟨x, hx, hu⟩ := List.mem_flatMap.1 h
    unfold sm1 at hu
    cases hh : hasI v' (fI x 0) with
    | false => rw [hh] at hu; cases hu
    | true =>
      rw [hh] at hu
      have : z = fI x 1 := List.mem_singleton.1 hu
      exact ⟨x, hx, this.symm, hh⟩
  · rintro ⟨x, hx, rfl, hh⟩
    refine List.mem_flatMap.2 ⟨x, hx, ?_⟩
    unfold sm1
    rw [hh]
    exact List.mem_singleton.2 rfl
theorem meets_mem {v r v' r' : List AV} {z : Int} : (∃ y ∈ jns (els v r) (els v' r'), fI y 0 = z) ↔ z ∈ ints (smL v r v') := by
  rw [jns_mem, smL_mem]
  refine exists_congr fun x => and_congr_right fun _ => and_congr_right fun _ => ?_
  rw [hasI_iff]
  constructor
  · rintro ⟨y, hy, e⟩
    obtain ⟨k, k0, k1, rfl⟩ := els_mem.1 hy
    exact ⟨k, k0, k1, e.symm⟩
  · rintro ⟨k, k0, k1, e⟩
    exact ⟨_, els_mem.2 ⟨k, k0, k1, rfl⟩, e.symm⟩
theorem smL_nodup {v r p : List AV} (hc : Col v r p) (v' : List AV) : (ints (smL v r v')).Nodup := by
  have hl := hc.len
  unfold ints smL els
  rw [List.map_flatMap, List.flatMap_map]
  refine List.pairwise_flatMap.2 ⟨fun k _ => ?_, ?_⟩
  · unfold sm1
    cases hasI v' (fI (avP (el v k, el r k)) 0)
    · exact List.Pairwise.nil
    · exact List.pairwise_singleton ..
  · refine List.pairwise_lt_range.imp_of_mem fun {i j} _ hj h x hx y hy e => ?_
    rw [List.mem_range] at hj
    have f1 : ∀ (k : Nat) (x : Int), x ∈ (sm1 v' (avP (el v k, el r k))).map (fun x => fI x 0) → x = el r k := fun k x hx => by
      unfold sm1 at hx
      cases hh : hasI v' (fI (avP (el v k, el r k)) 0) with
      | false => rw [hh] at hx; cases hx
      | true => rw [hh] at hx; exact List.mem_singleton.1 hx
    have e1 := f1 i x hx
    have e2 := f1 j y hy
    exact hc.dist i j (by omega) (by omega) (by omega) (by rw [← e1, ← e2, e])
theorem srt_SM {v r p : List AV} (hc : Col v r p) (v' : List AV) : SM (srt (smL v r v')) (ints (smL v r v')) := by
  have hp : (srt (smL v r v')).Perm (ints (smL v r v')) := List.mergeSort_perm _ _
  refine ⟨?_, fun z => hp.mem_iff⟩
  have hn : (srt (smL v r v')).Nodup := hp.nodup_iff.2 (smL_nodup hc v')
  refine ((srt_pair (smL v r v')).and hn).imp fun {a b} h => ?_
  have := of_decide_eq_true h.1
  have := h.2
  omega
theorem P42 (v r p v' r' p' : List AV) (h1 : v.length ≤ 1048576) (h2 : r.length ≤ 1048576) (h3 : p.length ≤ 1048576) (h4 : v'.length ≤ 1048576) (h5 : r'.length ≤ 1048576) (h6 : p'.length ≤ 1048576) :
    q42 v r p v' r' p' = true ∧ ints (v42_0 v r p v' r' p') = ints (v41_0 v r p v' r' p') := by
  obtain ⟨a1, a2⟩ := P47 v r p v' r' p' (-1000) 1000 h1 h2 h3 h4 h5 h6
  obtain ⟨w, hw⟩ : ∃ w, w = v47_0 v r p v' r' p' (-1000) 1000 := ⟨_, rfl⟩
  have hlen : w.length ≤ 4096 := by
    rw [hw, a2]
    cases hc : isC v r p && isC v' r' p' with
    | false => exact Nat.zero_le _
    | true =>
      rw [Bool.and_eq_true] at hc
      obtain ⟨l1, _⟩ := isC_len h1 hc.1
      obtain ⟨l3, _⟩ := isC_len h4 hc.2
      rw [cond_true, sortPL_len]
      unfold scanJ
      refine Nat.le_trans (jns_len _ _) ?_
      have f1 : ((els v r).filter (keepR (-1000) 1000)).length ≤ 64 := Nat.le_trans (List.length_filter_le ..) (by rw [els_len]; exact l1)
      have f2 : ((els v' r').filter (keepR (-1000) 1000)).length ≤ 64 := Nat.le_trans (List.length_filter_le ..) (by rw [els_len]; exact l3)
      exact Nat.le_trans (Nat.mul_le_mul f2 f1) (by omega)
  have key := runW_flat (f := R42_0 w.length w) (fun i zs => (i, zs)) id w (fun y => [AV.int .i64 (fI y 0)]) 1 (fun _ _ => Nat.le_refl _) []
    (fun i zs i0 hi hz => by
      simp only [List.length_nil, Nat.zero_add, Nat.one_mul] at hz
      have d1 : decide (i < (w.length : Int)) = true := decide_eq_true hi
      have d2 : decide (0 ≤ i) = true := decide_eq_true i0
      have wi : IntKind.i64.wrap (i + 1) = i + 1 := wrap_in (by omega) (by omega)
      simp only [R42_0, F42_0, d1, d2, wi, Bool.and_self, cond_true, List.length_singleton]
      rw [decide_eq_true (by omega : (zs.length + 1) * 8 ≤ 140737488355328), decide_eq_true (by omega : zs.length + 1 ≤ 140737488355328)]
      rfl)
    (fun zs => by simp only [R42_0, F42_0, Int.lt_irrefl, decide_false, cond_false]; rfl) w.length rfl
  obtain ⟨L, hL⟩ : ∃ L, L = w.flatMap fun y => [AV.int .i64 (fI y 0)] := ⟨_, rfl⟩
  have hiL : ints L = w.map fun y => fI y 0 := by rw [hL]; exact firsts w
  have hLl : L.length ≤ 1048576 := by
    have := flat_len (g := fun y => [AV.int .i64 (fI y 0)]) (c := 1) w fun _ _ => Nat.le_refl _
    rw [hL]
    omega
  have hpw : (w.map fun y => fI y 0).Pairwise (· ≤ ·) := by
    rw [hw, a2]
    cases isC v r p && isC v' r' p'
    · exact List.Pairwise.nil
    · exact sortPL_firsts _
  have hasc : asc L L.length := asc_pair (by rw [hiL]; exact hpw)
  obtain ⟨b1, b2⟩ := P93 L hLl hasc
  have e0 : q42 v r p v' r' p' = q93 L ∧ v42_0 v r p v' r' p' = ((v93_2 L).drop (v93_0 L)).take (v93_1 L) := by
    unfold q42 v42_0
    rw [a1, ← hw, key, ← hL]
    exact ⟨rfl, rfl⟩
  rw [e0.1, e0.2]
  refine ⟨b1, ?_⟩
  rw [(P41 v r p v' r' p' h1 h2 h3 h4 h5 h6).2]
  rw [hiL, hw, a2] at b2
  cases hc : isC v r p && isC v' r' p' with
  | false =>
    rw [hc] at b2
    rw [cond_false, srt_nil]
    exact SM.uniq b2 (T' := []) (zs' := []) ⟨List.Pairwise.nil, fun z => Iff.rfl⟩ fun z => Iff.rfl
  | true =>
    rw [hc] at b2
    rw [Bool.and_eq_true] at hc
    have c1 := (isC_iff v r p h1).1 hc.1
    have c2 := (isC_iff v' r' p' h4).1 hc.2
    refine SM.uniq b2 (srt_SM c1 v') fun z => ?_
    rw [cond_true, sortPL_mem]
    unfold scanJ
    rw [keep_all c1, keep_all c2]
    exact meets_mem
theorem eqL_ints {xs ys : List AV} (h : ints xs = ints ys) : eqL ee1 xs ys = true := by
  have hl : xs.length = ys.length := by rw [← ints_len xs, ← ints_len ys, h]
  unfold eqL
  rw [findF_none _ _ fun j j0 j1 => by
    have := el_ints h j j0 (by omega)
    unfold el at this
    unfold ee1
    rw [this, decide_eq_true rfl]
    rfl, hl]
  simp
theorem mC2 (v r p : List AV) (k : Int) (h1 : v.length ≤ 1048576) (h2 : r.length ≤ 1048576) (h3 : p.length ≤ 1048576) (hk : 0 ≤ k) (hk' : k ≤ 100000000) : q43 k v r p = true ∧ 0 ≤ v43_0 k v r p ∧ v43_0 k v r p ≤ k + 6000000 := by
  unfold q43 v43_0
  obtain ⟨v', b1, b2, b3, b4, b5⟩ := P32 v k h1 (by omega) (by omega)
  obtain ⟨r', c1, c2, c3, c4, c5⟩ := P32 r (k + 1 * v.length) h2 (by omega) (by omega)
  obtain ⟨p', d1, d2, d3, d4, d5⟩ := P94 p (k + 1 * v.length + 1 * r.length) h3 (by omega) (by omega)
  simp only [b1, b2, b3, c1, c2, c3, d1, d2, d3, Bool.and_self, true_and]
  omega
theorem raw9_true (v r p v' r' p' : List AV) (a1 : v.length ≤ 9223372036854775807) (a2 : r.length ≤ 9223372036854775807) (a3 : p.length ≤ 9223372036854775807)
    (b1 : v'.length ≤ 9223372036854775807) (b2 : r'.length ≤ 9223372036854775807) (b3 : p'.length ≤ 9223372036854775807) : raw9 v r p v' r' p' = some (.bool true) := by
  unfold raw9
  rw [P36 a1 a2 a3 (by omega) (by omega)]
  by_cases c1 : 1048576 < ((v.length : Int) + (r.length : Int) + (p.length : Int))
  · rw [if_pos c1]
    rfl
  rw [if_neg c1, decide_eq_false (by omega : ¬ (1048576 : Int) - ((v.length : Int) + (r.length : Int) + (p.length : Int)) < 0)]
  rw [P36 b1 b2 b3 (by omega) (by omega)]
  by_cases c2 : (1048576 : Int) - ((v.length : Int) + (r.length : Int) + (p.length : Int)) < ((v'.length : Int) + (r'.length : Int) + (p'.length : Int))
  · rw [if_pos c2]
    rfl
  rw [if_neg c2, decide_eq_false (by omega : ¬ (1048576 : Int) - ((v.length : Int) + (r.length : Int) + (p.length : Int)) - ((v'.length : Int) + (r'.length : Int) + (p'.length : Int)) < 0)]
  obtain ⟨s1, s2, s3, s4⟩ := P38 v r p (by omega) (by omega) (by omega)
  obtain ⟨t1, t2, t3, t4⟩ := P38 v' r' p' (by omega) (by omega) (by omega)
  have l1 : (v.map cp27).length ≤ 1048576 := by rw [List.length_map]; omega
  have l2 : (r.map cp27).length ≤ 1048576 := by rw [List.length_map]; omega
  have l3 : (p.map cp89).length ≤ 1048576 := by rw [List.length_map]; omega
  have m1 : (v'.map cp27).length ≤ 1048576 := by rw [List.length_map]; omega
  have m2 : (r'.map cp27).length ≤ 1048576 := by rw [List.length_map]; omega
  have m3 : (p'.map cp89).length ≤ 1048576 := by rw [List.length_map]; omega
  have l0 : (v.map cp27).length + (v'.map cp27).length ≤ 1048576 := by rw [List.length_map, List.length_map]; omega
  rw [s1, s2, s3, s4, t1, t2, t3, t4]
  generalize v.map cp27 = v1 at *
  generalize r.map cp27 = r1 at *
  generalize p.map cp89 = p1 at *
  generalize v'.map cp27 = v2 at *
  generalize r'.map cp27 = r2 at *
  generalize p'.map cp89 = p2 at *
  obtain ⟨x1, x2⟩ := P41 v1 r1 p1 v2 r2 p2 l1 l2 l3 m1 m2 m3
  obtain ⟨y1, y2⟩ := P42 v1 r1 p1 v2 r2 p2 l1 l2 l3 m1 m2 m3
  have hwl : (v42_0 v1 r1 p1 v2 r2 p2).length ≤ 1048576 := by
    rw [← ints_len, y2, x2, srt_len]
    have := smL_len v1 r1 v2
    cases isC v1 r1 p1 && isC v2 r2 p2
    · exact Nat.zero_le _
    · rw [cond_true]; omega
  rw [x1, y1]
  have e2 := eqL_ints y2
  generalize v42_0 v1 r1 p1 v2 r2 p2 = w at *
  generalize v41_0 v1 r1 p1 v2 r2 p2 = u at *
  obtain ⟨z1, z2⟩ := P40s v1 r1 p1 l1 l2 l3
  obtain ⟨w1, w2⟩ := P40s v2 r2 p2 m1 m2 m3
  obtain ⟨e1, e3⟩ := P30 w u hwl
  rw [e2] at e3
  obtain ⟨k1, k2, k3⟩ := mC2 v1 r1 p1 1 l1 l2 l3 (by omega) (by omega)
  obtain ⟨k4, k5, _⟩ := mC2 v2 r2 p2 (v43_0 1 v1 r1 p1) m1 m2 m3 k2 (by omega)
  obtain ⟨o1, o2, o3, o4, _⟩ := mhI w 1 (by omega) (by omega) (by omega)
  have n1 : decide (v43_0 (v43_0 1 v1 r1 p1) v2 r2 p2 < 0) = false := decide_eq_false (by omega)
  have n2 : decide (v32_0 1 w < 0) = false := decide_eq_false (by omega)
  simp only [z1, z2, w1, w2, e1, e3, k1, k4, n1, o1, o2, o3, n2, decide_true, Bool.not_true, cond_true, cond_false]
theorem law9 {x0 x1 : AV} (t0 : TA Try.prog 25 x0) (t1 : TA Try.prog 25 x1) : m9 [x0, x1] = some (true, .bool true) := by
  obtain ⟨v, r, p, rfl, a1, a2, a3⟩ := crack_args t0 (by kernel_rfl) (by kernel_rfl)
  obtain ⟨v', r', p', rfl, b1, b2, b3⟩ := crack_args t1 (by kernel_rfl) (by kernel_rfl)
  show (raw9 v r p v' r' p').map (fun r => (true, r)) = _
  rw [raw9_true v r p v' r' p' a1 a2 a3 b1 b2 b3]
  rfl

end Go.Proofs.Ytdhhceamknidmaa
