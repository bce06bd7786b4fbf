/- the law -/
import Derived.Test.YtepfklcdpkpepaaDVs
namespace Go.Proofs.Ytepfklcdpkpepaa
open Go Go.Proofs.VE
set_option linter.unusedVariables false
set_option linter.unusedSimpArgs false
theorem P127 (v r p : List AV) (h1 : v.length ≤ 1048576) (h2 : r.length ≤ 1048576) (h3 : p.length ≤ 1048576) : q127 v r p = true ∧ v127_0 v r p = v ∧ v127_1 v r p = r ∧ v127_2 v r p = p := by
  unfold q127 v127_0 v127_1 v127_2
  simp only [List.length_nil, Nat.zero_add, List.nil_append]
  rw [decide_eq_true (by omega : v.length * 8 ≤ 140737488355328), decide_eq_true (by omega : v.length ≤ 140737488355328), decide_eq_true (by omega : r.length * 8 ≤ 140737488355328), decide_eq_true (by omega : r.length ≤ 140737488355328), decide_eq_true (by omega : p.length * 16 ≤ 140737488355328), decide_eq_true (by omega : p.length ≤ 140737488355328)]
  simp
theorem P74 (s : List AV) (n : Int) (v r p : List AV) (h0 : s.length ≤ 1048576) (h1 : v.length ≤ 1048576) (h2 : r.length ≤ 1048576) (h3 : p.length ≤ 1048576) : q74 s n v r p = true ∧ v74_0 s n v r p = s ∧ v74_1 s n v r p = n ∧ v74_2 s n v r p = v ∧ v74_3 s n v r p = r ∧ v74_4 s n v r p = p := by
  obtain ⟨a, b, c, d⟩ := P127 v r p h1 h2 h3
  unfold q74 v74_0 v74_1 v74_2 v74_3 v74_4
  simp only [List.length_nil, Nat.zero_add, List.nil_append, a, b, c, d]
  rw [decide_eq_true (by omega : s.length * 32 ≤ 140737488355328), decide_eq_true (by omega : s.length ≤ 140737488355328)]
  simp
theorem P128 (xs : List AV) (h : xs.length ≤ 1048576) : q128 xs = true ∧ v128_0 xs = xs := by
  unfold q128 v128_0
  rw [decide_eq_true (by omega : xs.length * 32 ≤ 140737488355328), decide_eq_true (by omega : xs.length ≤ 140737488355328)]
  exact ⟨rfl, rfl⟩
theorem P139 (xs : List AV) (h : xs.length ≤ 1048576) : q139 xs = true ∧ v139_0 xs = xs := by
  unfold q139 v139_0
  rw [decide_eq_true (by omega : xs.length * 8 ≤ 140737488355328), decide_eq_true (by omega : xs.length ≤ 140737488355328)]
  exact ⟨rfl, rfl⟩
theorem P164 (xs : List AV) (h : xs.length ≤ 1048576) : q164 xs = true ∧ v164_0 xs = xs := by
  unfold q164 v164_0
  rw [decide_eq_true (by omega : xs.length * 16 ≤ 140737488355328), decide_eq_true (by omega : xs.length ≤ 140737488355328)]
  exact ⟨rfl, rfl⟩
theorem P129 (v r p : List AV) (h1 : v.length ≤ 1048576) (h2 : r.length ≤ 1048576) (h3 : p.length ≤ 1048576) : q129 v r p = true ∧ v129_0 v r p = v ∧ v129_1 v r p = r ∧ v129_2 v r p = p := by
  unfold q129 v129_0 v129_1 v129_2
  rw [(P139 v h1).1, (P139 r h2).1, (P164 p h3).1]
  exact ⟨rfl, rfl, rfl, rfl⟩
theorem P75 (s : List AV) (n : Int) (v r p : List AV) (h0 : s.length ≤ 1048576) (h1 : v.length ≤ 1048576) (h2 : r.length ≤ 1048576) (h3 : p.length ≤ 1048576) : q75 s n v r p = true ∧ v75_0 s n v r p = s ∧ v75_1 s n v r p = n ∧ v75_2 s n v r p = v ∧ v75_3 s n v r p = r ∧ v75_4 s n v r p = p := by
  obtain ⟨a, b, c, d⟩ := P129 v r p h1 h2 h3
  unfold q75 v75_0 v75_1 v75_2 v75_3 v75_4
  rw [(P128 s h0).1, a]
  exact ⟨rfl, rfl, rfl, b, c, d⟩
theorem markheld (s : List AV) (n : Int) (v r p : List AV) (k : Int) (h0 : s.length ≤ 1048576) (h1 : v.length ≤ 1048576) (h2 : r.length ≤ 1048576) (h3 : p.length ≤ 1048576) (hk : 0 ≤ k) (hk' : k ≤ 1000000000) :
    q22 n k s v r p = true ∧ q23 (v22_1 n k s v r p) n (v22_2 n k s v r p) (v22_3 n k s v r p) (v22_4 n k s v r p) k = true ∧ v23_0 (v22_1 n k s v r p) n (v22_2 n k s v r p) (v22_3 n k s v r p) (v22_4 n k s v r p) k = v22_0 n k s v r p ∧ 0 ≤ v22_0 n k s v r p ∧ v22_0 n k s v r p ≤ k + 11000000 := by
  unfold q23 v23_0 q22 v22_0 v22_1 v22_2 v22_3 v22_4 q44 v44_0 v44_1 v44_2 v44_3 q50 v50_0
  obtain ⟨s', a1, a2, a3, a4, a5⟩ := P78 s k h0 (by omega) (by omega)
  obtain ⟨v', b1, b2, b3, b4, b5⟩ := P49 v (k + 4 * s.length) h1 (by omega) (by omega)
  obtain ⟨r', c1, c2, c3, c4, c5⟩ := P49 r (k + 4 * s.length + 1 * v.length) h2 (by omega) (by omega)
  obtain ⟨p', d1, d2, d3, d4, d5⟩ := P101 p (k + 4 * s.length + 1 * v.length + 1 * r.length) h3 (by omega) (by omega)
  obtain ⟨f1, f2⟩ := P79 s' k (by omega) (by omega) (by omega) (by rw [a4]; exact a5)
  obtain ⟨g1, g2⟩ := P59 v' (k + 4 * s.length) (by omega) (by omega) (by omega) (by rw [b4]; exact b5)
  obtain ⟨i1, i2⟩ := P59 r' (k + 4 * s.length + 1 * v.length) (by omega) (by omega) (by omega) (by rw [c4]; exact c5)
  obtain ⟨j1, j2⟩ := P109 p' (k + 4 * s.length + 1 * v.length + 1 * r.length) (by omega) (by omega) (by omega) (by rw [d4]; exact d5)
  have n1 : decide (k + 4 * s.length < 0) = false := decide_eq_false (by omega)
  have n2 : decide (k + 4 * s.length + 1 * v.length < 0) = false := decide_eq_false (by omega)
  have n3 : decide (k + 4 * s.length + 1 * v.length + 1 * r.length < 0) = false := decide_eq_false (by omega)
  have n4 : decide (k + 4 * s.length + 1 * v.length + 1 * r.length + 2 * p.length < 0) = false := decide_eq_false (by omega)
  simp only [a1, a2, a3, b1, b2, b3, c1, c2, c3, d1, d2, d3, f1, f2, a4, g1, g2, b4, i1, i2, c4, j1, j2, d4, n1, n2, n3, n4, cond_false, Bool.and_self, true_and]
  omega

def pD (ss : List AV) (row : Int) (i : Int) : Bool := decide (fI (ss.getD i.toNat .undef) 1 = row) && decide (fI (ss.getD i.toNat .undef) 3 = -1)
def cD (ss : List AV) (now : Int) (i : Int) : AV := AV.agg [AV.int .i64 (fI (ss.getD i.toNat AV.undef) 0), AV.int .i64 (fI (ss.getD i.toNat AV.undef) 1), AV.int .i64 (fI (ss.getD i.toNat AV.undef) 2), AV.int .i64 (now + 1)]
theorem run20 (row : Int) (s : List AV) (n : Int) (v r p v' r' p' : List AV) (z n' : Int) (hs : s.length ≤ 1048576) (hn : 0 ≤ n) (hn' : n ≤ 1000) :
    runW (R20_0 row s s n v r p v' r' z p' n') (((s.length : Int) - 0).toNat + 1) 0 = some (ro (findF (pD s row) s.length 0) (.inl ()) fun i => .inr (s.set i.toNat (cD s n i), n + 1, n + 1)) := by
  refine runW_find (fun i => i) s.length _ _ _ (fun i h0 hl => ?_) ?_ s.length _ 0 (Int.le_refl 0) (by omega) (by omega)
  · simp only [R20_0, F20_0, h0, hl, decide_true, Bool.and_self, cond_true, pD, cD]
    rw [wrap_in (a := i + 1) (by omega) (by omega), wrap_in (a := n + 1) (by omega) (by omega)]
    cases decide (fI (s.getD i.toNat AV.undef) 1 = row) <;> cases decide (fI (s.getD i.toNat AV.undef) 3 = -1) <;> rfl
  · simp only [R20_0, F20_0, Int.lt_irrefl, decide_false, cond_false]
theorem P76 (s : List AV) (row : Int) (hs : s.length ≤ 1048576) : q76 s (.int .i64 row) = true ∧ v76_0 s (.int .i64 row) = ro (findF (pD s row) s.length 0) (-1) id := by
  have hr : runW (R76_0 s (.int .i64 row) s.length) (((s.length : Int) - 0).toNat + 1) 0 = some (ro (findF (pD s row) s.length 0) (.inl ()) fun i => .inr i) := by
    refine runW_find (fun i => i) s.length _ _ _ (fun i h0 hl => ?_) ?_ s.length _ 0 (Int.le_refl 0) (by omega) (by omega)
    · simp only [R76_0, F76_0, h0, hl, decide_true, Bool.and_self, cond_true]
      rw [wrap_in (a := i + 1) (by omega) (by omega)]
      have e : v77_0 (fI (s.getD i.toNat AV.undef) 0) (fI (s.getD i.toNat AV.undef) 1) (fI (s.getD i.toNat AV.undef) 2) (fI (s.getD i.toNat AV.undef) 3) (AV.int .i64 row) = pD s row i := by
        unfold v77_0 pD
        rw [show fI (AV.int .i64 row) 0 = row from rfl]
        cases decide (fI (s.getD i.toNat AV.undef) 1 = row) <;> rfl
      rw [e]
    · simp only [R76_0, F76_0, Int.lt_irrefl, decide_false, cond_false]
  unfold q76 v76_0
  rw [hr]
  cases findF (pD s row) s.length 0 <;> exact ⟨rfl, rfl⟩
def DB (s : List AV) (n : Int) (v r p : List AV) (row : Int) : Bool := isS s n v r p && (decide (n < 1000) && (findF (pD s row) s.length 0).isSome)
def DS (s : List AV) (n : Int) (v r p : List AV) (row : Int) : List AV := bif DB s n v r p row then ro (findF (pD s row) s.length 0) s (fun i => s.set i.toNat (cD s n i)) else s
def DN (s : List AV) (n : Int) (v r p : List AV) (row : Int) : Int := bif DB s n v r p row then n + 1 else n
theorem DS_len (s : List AV) (n : Int) (v r p : List AV) (row : Int) : (DS s n v r p row).length = s.length := by
  unfold DS
  cases DB s n v r p row
  · rfl
  · cases findF (pD s row) s.length 0
    · rfl
    · simp [ro]
theorem isS_now {s : List AV} {n : Int} {v r p : List AV} (h : isS s n v r p = true) : 0 ≤ n ∧ n ≤ 1000 := by
  unfold isS at h
  simp only [Bool.and_eq_true, decide_eq_true_eq] at h
  exact h.2.2.1
theorem dge (z n : Int) : decide (z ≥ n) = !decide (z < n) := by
  by_cases h : z < n
  · rw [decide_eq_true h, decide_eq_false (by omega)]; rfl
  · rw [decide_eq_false h, decide_eq_true (by omega)]; rfl
theorem P20 (s : List AV) (n : Int) (v r p : List AV) (row : Int) (h0 : s.length ≤ 1048576) (h1 : v.length ≤ 1048576) (h2 : r.length ≤ 1048576) (h3 : p.length ≤ 1048576) :
    q20 s n v r p row = true ∧ v20_0 s n v r p row = DS s n v r p row ∧ v20_1 s n v r p row = DN s n v r p row ∧ v20_2 s n v r p row = v ∧ v20_3 s n v r p row = r ∧ v20_4 s n v r p row = p ∧ v20_5 s n v r p row = DB s n v r p row := by
  obtain ⟨a, b, c, d, e, f⟩ := P74 s n v r p h0 h1 h2 h3
  unfold q20 v20_0 v20_1 v20_2 v20_3 v20_4 v20_5 DS DN DB
  rw [a, b, c, d, e, f, (P16 s n v r p h0 h1 h2 h3).1, (P16 s n v r p h0 h1 h2 h3).2, dge]
  cases hS : isS s n v r p with
  | false => exact ⟨rfl, rfl, rfl, rfl, rfl, rfl, rfl⟩
  | true =>
    cases decide (n < 1000) with
    | false => exact ⟨rfl, rfl, rfl, rfl, rfl, rfl, rfl⟩
    | true =>
      rw [run20 row s n v r p v r p 0 n h0 (isS_now hS).1 (isS_now hS).2]
      cases findF (pD s row) s.length 0 <;> exact ⟨rfl, rfl, rfl, rfl, rfl, rfl, rfl⟩
theorem P21 (s : List AV) (n : Int) (v r p : List AV) (row : Int) (h0 : s.length ≤ 1048576) (h1 : v.length ≤ 1048576) (h2 : r.length ≤ 1048576) (h3 : p.length ≤ 1048576) :
    q21 s n v r p row = true ∧ v21_0 s n v r p row = DS s n v r p row ∧ v21_1 s n v r p row = DN s n v r p row ∧ v21_2 s n v r p row = v ∧ v21_3 s n v r p row = r ∧ v21_4 s n v r p row = p ∧ v21_5 s n v r p row = DB s n v r p row := by
  obtain ⟨a, b, c, d, e, f⟩ := P75 s n v r p h0 h1 h2 h3
  unfold q21 v21_0 v21_1 v21_2 v21_3 v21_4 v21_5 DS DN DB
  rw [a, b, c, d, e, f, (P18 s n v r p h0 h1 h2 h3).1, (P18 s n v r p h0 h1 h2 h3).2, dge, (P76 s row h0).1, (P76 s row h0).2]
  cases hS : isS s n v r p with
  | false => exact ⟨rfl, rfl, rfl, rfl, rfl, rfl, rfl⟩
  | true =>
    cases decide (n < 1000) with
    | false => exact ⟨rfl, rfl, rfl, rfl, rfl, rfl, rfl⟩
    | true =>
      cases hf : findF (pD s row) s.length 0 with
      | none => exact ⟨rfl, rfl, rfl, rfl, rfl, rfl, rfl⟩
      | some i =>
        obtain ⟨f1, f2, f3⟩ := findF_some _ _ hf
        have e1 : decide (ro (some i) (-1) id < 0) = false := decide_eq_false (by simp [ro]; omega)
        have e2 : decide (0 ≤ ro (some i) (-1) id) = true := decide_eq_true (by simp [ro]; omega)
        have e3 : decide (ro (some i) (-1) id < (s.length : Int)) = true := decide_eq_true (by simp [ro]; omega)
        obtain ⟨g1, g2⟩ := isS_now hS
        rw [e1, e2, e3, wrap_in (a := n + 1) (by omega) (by omega)]
        exact ⟨rfl, rfl, rfl, rfl, rfl, rfl, rfl⟩
theorem raw4_true (s : List AV) (n : Int) (v r p : List AV) (row : Int) (a1 : s.length ≤ 9223372036854775807) (a2 : v.length ≤ 9223372036854775807) (a3 : r.length ≤ 9223372036854775807) (a4 : p.length ≤ 9223372036854775807) : raw4 s n v r p row = some (.bool true) := by
  unfold raw4
  rw [P15 a1 a2 a3 a4 (by omega) (by omega)]
  by_cases c1 : 1048576 < (s.length : Int) + ((v.length : Int) + (r.length : Int) + (p.length : Int))
  · rw [if_pos c1]
    rfl
  rw [if_neg c1, decide_eq_false (by omega : ¬ (1048576 : Int) - ((s.length : Int) + ((v.length : Int) + (r.length : Int) + (p.length : Int))) < 0)]
  obtain ⟨t1, t2, t3, t4, t5, t6⟩ := P17 s n v r p (by omega) (by omega) (by omega) (by omega)
  have l1 : (s.map cp70).length ≤ 1048576 := by rw [List.length_map]; omega
  have l2 : (v.map cp30).length ≤ 1048576 := by rw [List.length_map]; omega
  have l3 : (r.map cp30).length ≤ 1048576 := by rw [List.length_map]; omega
  have l4 : (p.map cp93).length ≤ 1048576 := by rw [List.length_map]; omega
  generalize s.map cp70 = s' at *
  generalize v.map cp30 = v' at *
  generalize r.map cp30 = r' at *
  generalize p.map cp93 = p' at *
  obtain ⟨x1, x2, x3, x4, x5, x6, x7⟩ := P20 s' n v' r' p' row l1 l2 l3 l4
  obtain ⟨w1, w2, w3, w4, w5, w6, w7⟩ := P21 s' n v' r' p' row l1 l2 l3 l4
  have ld : (DS s' n v' r' p' row).length ≤ 1048576 := by rw [DS_len]; exact l1
  generalize DS s' n v' r' p' row = d at *
  generalize DN s' n v' r' p' row = m at *
  generalize DB s' n v' r' p' row = b at *
  obtain ⟨y1, y2⟩ := P19s s' n v' r' p' l1 l2 l3 l4
  obtain ⟨z1, z2⟩ := P19s d m v' r' p' ld l2 l3 l4
  obtain ⟨k1, k2, k3, k4, _⟩ := markheld s' n v' r' p' 1 l1 l2 l3 l4 (by omega) (by omega)
  obtain ⟨m1, m2, m3, m4, _⟩ := markheld d m v' r' p' 1 ld l2 l3 l4 (by omega) (by omega)
  have n1 : decide (v22_0 n 1 s' v' r' p' < 0) = false := decide_eq_false (by omega)
  have n2 : decide (v22_0 m 1 d v' r' p' < 0) = false := decide_eq_false (by omega)
  simp only [t1, t2, t3, t4, t5, t6, x1, x2, x3, x4, x5, x6, x7, w1, w2, w3, w4, w5, w6, w7, y1, y2, z1, z2, k1, n1, m1, m2, m3, n2, beq_self_eq_true, decide_true, Bool.not_true, cond_false, cond_true]
theorem law4 {x0 x1 : AV} (t0 : TA Try.prog 28 x0) (t1 : TA Try.prog 3 x1) : m4 [x0, x1] = some (true, .bool true) := by
  obtain ⟨s, n, v, r, p, rfl, a1, a2, a3, a4⟩ := store_args t0 (by kernel_rfl) (by kernel_rfl)
  obtain ⟨row, rfl, _⟩ := tw_int (ta_one (ct := .int .i64) t1 (by kernel_rfl) (by kernel_rfl))
  show (raw4 s n v r p row).map (fun r => (true, r)) = _
  rw [raw4_true s n v r p row a1 a2 a3 a4]
  rfl

end Go.Proofs.Ytepfklcdpkpepaa
