/- valid workers -/
import Derived.Test.YtdhhceamknidmaaBLq
namespace Go.Proofs.Ytdhhceamknidmaa
open Go Go.Proofs.VE
set_option linter.unusedVariables false
set_option linter.unusedSimpArgs false
/-! ### valid workers -/
theorem q118_true (n : Nat) (ps : List AV) (v : Int) (hl : ps.length ≤ 1048576) : q118 n ps v = true := by
  obtain ⟨r, h1, _⟩ := runW_ends (f := R118_0 ps v (n : Int)) (fun s : Int × Int => 0 ≤ s.2 ∧ s.2 ≤ ps.length) (fun _ => True) (fun s => ((ps.length : Int) - s.2).toNat) (fun s hs => by
      obtain ⟨t8, k⟩ := s
      obtain ⟨k0, k1⟩ := hs
      simp only at k0 k1
      by_cases hk : k < ps.length
      · have d1 : decide (k < (ps.length : Int)) = true := decide_eq_true hk
        have d2 : decide (0 ≤ k) = true := decide_eq_true k0
        have wk : IntKind.i64.wrap (k + 1) = k + 1 := wrap_in (by omega) (by omega)
        by_cases hv : fI (ps.getD k.toNat .undef) 0 ≤ v
        · exact .inl ⟨(fI (ps.getD k.toNat .undef) 1, k + 1), by simp only [R118_0, F118_0, d1, d2, decide_eq_true hv, Bool.and_self, cond_true, wk], ⟨by simp only; omega, by simp only; omega⟩, by simp only; omega⟩
        · exact .inl ⟨(t8, k + 1), by simp only [R118_0, F118_0, d1, d2, decide_eq_false hv, Bool.and_self, cond_true, cond_false, wk], ⟨by simp only; omega, by simp only; omega⟩, by simp only; omega⟩
      · exact .inr ⟨t8, by simp only [R118_0, F118_0, decide_eq_false hk, cond_false], trivial⟩) (((ps.length : Int) - 0).toNat + 1) (0, 0) ⟨Int.le_refl _, by simp only; omega⟩ (by simp only; omega)
  have hw : IntKind.i64.wrap ((ps.length : Int) - 1) = ps.length - 1 := wrap_in (by omega) (by omega)
  obtain ⟨r', h2, _⟩ := runW_ends (f := R118_2 ps v r) (fun s : Int × Int => -1 ≤ s.2 ∧ s.2 < ps.length) (fun _ => True) (fun s => (s.2 + 1).toNat) (fun s hs => by
      obtain ⟨t9, k⟩ := s
      obtain ⟨k0, k1⟩ := hs
      simp only at k0 k1
      by_cases hk : k ≥ 0
      · have d1 : decide (k ≥ 0) = true := decide_eq_true hk
        have d0 : decide (0 ≤ k) = true := decide_eq_true hk
        have d2 : decide (k < (ps.length : Int)) = true := decide_eq_true k1
        have wk : IntKind.i64.wrap (k - 1) = k - 1 := wrap_in (by omega) (by omega)
        by_cases hv : fI (ps.getD k.toNat .undef) 0 ≥ v
        · exact .inl ⟨(fI (ps.getD k.toNat .undef) 1, k - 1), by simp only [R118_2, F118_2, d0, d1, d2, decide_eq_true hv, Bool.and_self, cond_true, wk], ⟨by simp only; omega, by simp only; omega⟩, by simp only; omega⟩
        · exact .inl ⟨(t9, k - 1), by simp only [R118_2, F118_2, d0, d1, d2, decide_eq_false hv, Bool.and_self, cond_true, cond_false, wk], ⟨by simp only; omega, by simp only; omega⟩, by simp only; omega⟩
      · exact .inr ⟨t9, by simp only [R118_2, F118_2, decide_eq_false hk, cond_false], trivial⟩) (((ps.length : Int) - 1 - 0 + 1).toNat + 1) ((n : Int), (ps.length : Int) - 1) ⟨by simp only; omega, by simp only; omega⟩ (by simp only; omega)
  unfold q118
  rw [h1, hw]
  simp only [ro]
  rw [h2]
def pA (ps : List AV) (v : Int) : Int := if place ps v = 0 then 0 else pat ps (place ps v - 1)
def pB (vs ps : List AV) (v : Int) : Int := if place ps v = ps.length then (vs.length : Int) else pat ps (place ps v)
theorem P76b {vs rs ps : List AV} (hc : Col vs rs ps) (hp : ps.length ≤ 1048576) {v : Int} (h0 : -1000 ≤ v) (h1 : v ≤ 1000) :
    q76 vs rs ps v = true ∧ ((findP ps v).isSome = false → v76_0 vs rs ps v = pA ps v ∧ v76_1 vs rs ps v = pB vs ps v) := by
  have n64 := hc.n64
  have hlen := hc.len
  have e := P66 vs rs ps (by omega) (by omega) hp
  rw [(isC_iff vs rs ps (by omega)).2 hc] at e
  have hb : v67_0 v (-1000) 1000 = true := by rw [v67, decide_eq_true h0, decide_eq_true h1]; rfl
  unfold q76 v76_0 v76_1
  rw [e.1, e.2, hb]
  refine ⟨?_, fun hf => ?_⟩
  · rw [q118_true vs.length ps v hp]; rfl
  · have hpc := pc_of hc hf
    obtain ⟨_, k1, k2⟩ := P118 hpc hp
    exact ⟨k1, k2⟩
def okP (vs : List AV) (v i j k : Int) : Bool := (decide (k < i) && decide (fI (vs.getD k.toNat .undef) 0 ≥ v)) || (decide (k > j) && decide (fI (vs.getD k.toNat .undef) 0 < v))
def okLoop (vs : List AV) (v a b i j : Int) : Bool := (findF (okP vs v i j) (b - a).toNat a).isNone
theorem run68 (vs rs ps ws T : List AV) (s v nx fr to i j sw wt a b : Int) (rn : Bool) (h : vs.length ≤ 1048576) (a0 : 0 ≤ a) (ab : a ≤ b) (b1 : b ≤ vs.length) :
    runW (R68_0 v b vs rs ps ws s T nx rn fr to i j sw wt) ((b - a).toNat + 1) a = some (ro (findF (okP vs v i j) (b - a).toNat a) (.inl ()) fun _ => .inr ()) := by
  refine runW_find (fun i => i) b _ _ _ (fun k h0 hn => ?_) ?_ (b - a).toNat _ a a0 (by omega) (by omega)
  · have d1 : decide (k < b) = true := decide_eq_true hn
    have d2 : decide (0 ≤ k) = true := decide_eq_true h0
    have d3 : decide (k < (vs.length : Int)) = true := decide_eq_true (by omega)
    simp only [R68_0, F68_0, d1, d2, d3, Bool.and_self, cond_true, okP]
    rw [wrap_in (a := k + 1) (by omega) (by omega)]
    cases decide (k < i) <;> cases decide (fI (vs.getD k.toNat AV.undef) 0 ≥ v) <;> cases decide (k > j) <;> cases decide (fI (vs.getD k.toNat AV.undef) 0 < v) <;> rfl
  · simp only [R68_0, F68_0, Int.lt_irrefl, decide_false, cond_false]
theorem run71 (vs rs ps T : List AV) (v nx fr to i j sw wt a b : Int) (rn : Bool) (h : vs.length ≤ 1048576) (a0 : 0 ≤ a) (ab : a ≤ b) (b1 : b ≤ vs.length) :
    runW (R71_0 v b vs rs ps T nx rn fr to i j sw wt) ((b - a).toNat + 1) a = some (ro (findF (okP vs v i j) (b - a).toNat a) (.inl ()) fun _ => .inr ()) := by
  refine runW_find (fun i => i) b _ _ _ (fun k h0 hn => ?_) ?_ (b - a).toNat _ a a0 (by omega) (by omega)
  · have d1 : decide (k < b) = true := decide_eq_true hn
    have d2 : decide (0 ≤ k) = true := decide_eq_true h0
    have d3 : decide (k < (vs.length : Int)) = true := decide_eq_true (by omega)
    simp only [R71_0, F71_0, d1, d2, d3, Bool.and_self, cond_true, okP]
    rw [wrap_in (a := k + 1) (by omega) (by omega)]
    cases decide (k < i) <;> cases decide (fI (vs.getD k.toNat AV.undef) 0 ≥ v) <;> cases decide (k > j) <;> cases decide (fI (vs.getD k.toNat AV.undef) 0 < v) <;> rfl
  · simp only [R71_0, F71_0, Int.lt_irrefl, decide_false, cond_false]
/-- What a running worker must be. -/
def runB (vs ps : List AV) (v fr to i j : Int) : Bool :=
  !(findP ps v).isSome && (decide (fr = pA ps v) && (decide (to = pB vs ps v) && (decide (pA ps v ≤ i) && (decide (i ≤ j + 1) && (decide (j < pB vs ps v) && okLoop vs v (pA ps v) (pB vs ps v) i j)))))
/-- A worker that is valid, beside a valid column. -/
def wkB (vs ps T : List AV) (nx : Int) (rn : Bool) (fr to i j sw wt : Int) : Bool :=
  noneB (fun k => !v67_0 (fI (T.getD k.toNat .undef) 0) (-1000) 1000) T.length && (decide ((T.length : Int) ≤ 6) && (decide (0 ≤ nx) && (decide (nx ≤ T.length) && (decide (0 ≤ sw) && (decide (sw ≤ 100000) && (decide (0 ≤ wt) && (decide (wt ≤ 100000) &&
    (bif rn then !decide (nx = T.length) && runB vs ps (fI (T.getD nx.toNat .undef) 0) fr to i j else decide (fr = 0) && (decide (to = 0) && (decide (i = 0) && decide (j = 0)))))))))))
theorem deq (a b : Int) : decide (a = b) = decide (b = a) := by
  by_cases h : a = b
  · rw [decide_eq_true h, decide_eq_true h.symm]
  · rw [decide_eq_false h, decide_eq_false fun e => h e.symm]
theorem tail68 {vs rs ps : List AV} (hc : Col vs rs ps) (hp : ps.length ≤ 1048576) (ws T : List AV) (s : Int) (nx fr to i j sw wt v : Int) (rn : Bool) (v0 : -1000 ≤ v) (v1 : v ≤ 1000) (j0 : -9223372036854775808 ≤ j) :
    (q76 vs rs ps v && (q75 vs rs ps v && (bif (v75_1 vs rs ps v) then true else (bif !decide ((v76_0 vs rs ps v) = fr) then true else (bif !decide ((v76_1 vs rs ps v) = to) then true else (bif !(v67_0 i (v76_0 vs rs ps v) (IntKind.i64.wrap (j + 1))) then true else (bif decide (j ≥ (v76_1 vs rs ps v)) then true else (ro (runW (R68_0 v (v76_1 vs rs ps v) vs rs ps ws s T nx rn fr to i j sw wt) (((v76_1 vs rs ps v) - (v76_0 vs rs ps v)).toNat + 1) (v76_0 vs rs ps v)) false (sumE (fun _ => true) (fun _ => true)))))))))) = true ∧
    (bif (v75_1 vs rs ps v) then false else (bif !decide ((v76_0 vs rs ps v) = fr) then false else (bif !decide ((v76_1 vs rs ps v) = to) then false else (bif !(v67_0 i (v76_0 vs rs ps v) (IntKind.i64.wrap (j + 1))) then false else (bif decide (j ≥ (v76_1 vs rs ps v)) then false else (ro (runW (R68_0 v (v76_1 vs rs ps v) vs rs ps ws s T nx rn fr to i j sw wt) (((v76_1 vs rs ps v) - (v76_0 vs rs ps v)).toNat + 1) (v76_0 vs rs ps v)) false (sumE (fun _ => true) (fun _ => false)))))))) = runB vs ps v fr to i j := by
  have n64 := hc.n64
  obtain ⟨a1, _, a3⟩ := P75 vs rs ps v hp
  obtain ⟨b1, b2⟩ := P76b hc hp v0 v1
  unfold runB
  rw [a1, a3, b1]
  cases hf : (findP ps v).isSome with
  | true => exact ⟨rfl, rfl⟩
  | false =>
    obtain ⟨b3, b4⟩ := b2 hf
    have pc := piece_of hc (pc_of hc hf)
    have q0 := pc.a0
    have q1 := pc.ab
    have q2 := pc.b1
    change 0 ≤ pA ps v at q0
    change pA ps v ≤ pB vs ps v at q1
    change pB vs ps v ≤ vs.length at q2
    rw [b3, b4, run68 vs rs ps ws T s v nx fr to i j sw wt _ _ rn (by omega) q0 q1 q2, v67, deq (pA ps v) fr, deq (pB vs ps v) to]
    by_cases hj : j < pB vs ps v
    · rw [wrap_in (a := j + 1) (by omega) (by omega), decide_eq_true hj, decide_eq_false (by omega : ¬ j ≥ pB vs ps v)]
      unfold okLoop
      cases decide (fr = pA ps v) <;> cases decide (to = pB vs ps v) <;> cases decide (pA ps v ≤ i) <;> cases decide (i ≤ j + 1) <;> cases findF (okP vs v i j) (pB vs ps v - pA ps v).toNat (pA ps v) <;> exact ⟨rfl, rfl⟩
    · rw [decide_eq_false hj, decide_eq_true (by omega : j ≥ pB vs ps v)]
      cases decide (fr = pA ps v) <;> cases decide (to = pB vs ps v) <;> cases decide (pA ps v ≤ i) <;> cases decide (i ≤ j + 1) <;> cases decide (i ≤ IntKind.i64.wrap (j + 1)) <;> exact ⟨rfl, rfl⟩
theorem tail71 {vs rs ps : List AV} (hc : Col vs rs ps) (hp : ps.length ≤ 1048576) (T : List AV) (nx fr to i j sw wt v : Int) (rn d : Bool) (hd : d = true) (v0 : -1000 ≤ v) (v1 : v ≤ 1000) (i1 : i ≤ 9223372036854775807) :
    (q77 vs rs ps v && (bif (v77_0 vs rs ps v) then true else (d && (q116 vs rs ps v && (bif !decide (fr = (v116_0 vs rs ps v)) then true else (bif !decide (to = (v116_1 vs rs ps v)) then true else (bif decide (i < (v116_0 vs rs ps v)) then true else (bif decide (j ≥ (v116_1 vs rs ps v)) then true else (bif decide (IntKind.i64.wrap (i - 1) > j) then true else (ro (runW (R71_0 v (v116_1 vs rs ps v) vs rs ps T nx rn fr to i j sw wt) (((v116_1 vs rs ps v) - (v116_0 vs rs ps v)).toNat + 1) (v116_0 vs rs ps v)) false (sumE (fun _ => true) (fun _ => true)))))))))))) = true ∧
    (bif (v77_0 vs rs ps v) then false else (bif !decide (fr = (v116_0 vs rs ps v)) then false else (bif !decide (to = (v116_1 vs rs ps v)) then false else (bif decide (i < (v116_0 vs rs ps v)) then false else (bif decide (j ≥ (v116_1 vs rs ps v)) then false else (bif decide (IntKind.i64.wrap (i - 1) > j) then false else (ro (runW (R71_0 v (v116_1 vs rs ps v) vs rs ps T nx rn fr to i j sw wt) (((v116_1 vs rs ps v) - (v116_0 vs rs ps v)).toNat + 1) (v116_0 vs rs ps v)) false (sumE (fun _ => true) (fun _ => false))))))))) = runB vs ps v fr to i j := by
  subst hd
  have n64 := hc.n64
  obtain ⟨a1, a3⟩ := P77 vs rs ps v hp
  unfold runB
  rw [a1, a3]
  cases hf : (findP ps v).isSome with
  | true => exact ⟨rfl, rfl⟩
  | false =>
    have hpc := pc_of hc hf
    obtain ⟨b1, b3, b4⟩ := P116 hpc hp
    change v116_0 vs rs ps v = pA ps v at b3
    change v116_1 vs rs ps v = pB vs ps v at b4
    have pc := piece_of hc hpc
    have q0 := pc.a0
    have q1 := pc.ab
    have q2 := pc.b1
    change 0 ≤ pA ps v at q0
    change pA ps v ≤ pB vs ps v at q1
    change pB vs ps v ≤ vs.length at q2
    rw [b1, b3, b4, run71 vs rs ps T v nx fr to i j sw wt _ _ rn (by omega) q0 q1 q2, dlt i (pA ps v), show decide (j ≥ pB vs ps v) = !decide (j < pB vs ps v) by rw [dlt, Bool.not_not]]
    by_cases hi : pA ps v ≤ i
    · rw [wrap_in (a := i - 1) (by omega) (by omega), decide_eq_true hi]
      have e : decide (i - 1 > j) = !decide (i ≤ j + 1) := by
        by_cases h : i ≤ j + 1
        · rw [decide_eq_true h, decide_eq_false (by omega)]; rfl
        · rw [decide_eq_false h, decide_eq_true (by omega)]; rfl
      rw [e]
      unfold okLoop
      cases decide (fr = pA ps v) <;> cases decide (to = pB vs ps v) <;> cases decide (j < pB vs ps v) <;> cases decide (i ≤ j + 1) <;> cases findF (okP vs v i j) (pB vs ps v - pA ps v).toNat (pA ps v) <;> exact ⟨rfl, rfl⟩
    · rw [decide_eq_false hi]
      cases decide (fr = pA ps v) <;> cases decide (to = pB vs ps v) <;> exact ⟨rfl, rfl⟩
theorem P68 {vs rs ps : List AV} (hc : Col vs rs ps) (hp : ps.length ≤ 1048576) (ws T : List AV) (s nx fr to i j sw wt : Int) (rn : Bool) (hT : T.length ≤ 1048576) (j0 : -9223372036854775808 ≤ j) :
    q68 vs rs ps ws s T nx rn fr to i j sw wt = true ∧ v68_0 vs rs ps ws s T nx rn fr to i j sw wt = wkB vs ps T nx rn fr to i j sw wt := by
  unfold q68 v68_0 wkB
  rw [(P111 T hT).1, (P111 T hT).2, v67 nx 0 T.length, v67 sw 0 100000, v67 wt 0 100000]
  cases hN : noneB (fun k => !v67_0 (fI (T.getD k.toNat .undef) 0) (-1000) 1000) T.length with
  | false => exact ⟨rfl, rfl⟩
  | true =>
  by_cases h6 : (T.length : Int) ≤ 6
  · rw [decide_eq_true (by omega : T.length ≤ 60), decide_eq_false (by omega : ¬ (T.length : Int) > 6), decide_eq_true h6]
    cases c1 : decide (0 ≤ nx) with
    | false => exact ⟨rfl, rfl⟩
    | true =>
    cases c2 : decide (nx ≤ (T.length : Int)) with
    | false => exact ⟨rfl, rfl⟩
    | true =>
    cases c3 : decide (0 ≤ sw) with
    | false => exact ⟨rfl, rfl⟩
    | true =>
    cases c4 : decide (sw ≤ 100000) with
    | false => exact ⟨rfl, rfl⟩
    | true =>
    cases c5 : decide (0 ≤ wt) with
    | false => exact ⟨rfl, rfl⟩
    | true =>
    cases c6 : decide (wt ≤ 100000) with
    | false => exact ⟨rfl, rfl⟩
    | true =>
    cases rn with
    | false =>
      simp only [band]
      exact ⟨rfl, rfl⟩
    | true =>
      have n0 := of_decide_eq_true c1
      have n1 := of_decide_eq_true c2
      by_cases hn : nx = T.length
      · rw [decide_eq_true hn]; exact ⟨rfl, rfl⟩
      · have hv := (noneB_iff.1 hN) nx n0 (by omega)
        rw [Bool.not_eq_false', v67, Bool.and_eq_true, decide_eq_true_eq, decide_eq_true_eq] at hv
        obtain ⟨k1, k2⟩ := tail68 hc hp ws T s nx fr to i j sw wt (fI (T.getD nx.toNat .undef) 0) true hv.1 hv.2 j0
        rw [decide_eq_false hn, decide_eq_true (by omega : nx < (T.length : Int)), k1, k2]
        exact ⟨rfl, rfl⟩
  · rw [decide_eq_false h6, decide_eq_true (by omega : (T.length : Int) > 6)]
    cases decide (T.length ≤ 60) <;> exact ⟨rfl, rfl⟩
theorem P71w {vs rs ps : List AV} (hc : Col vs rs ps) (hp : ps.length ≤ 1048576) (T : List AV) (nx fr to i j sw wt : Int) (rn : Bool) (hT : T.length ≤ 1048576) (i1 : i ≤ 9223372036854775807) :
    q71 vs rs ps T nx rn fr to i j sw wt = true ∧ v71_0 vs rs ps T nx rn fr to i j sw wt = wkB vs ps T nx rn fr to i j sw wt := by
  unfold q71 v71_0 wkB
  rw [(P115 T hT).1, (P115 T hT).2, (P111 T hT).2, dlt nx 0, dgt nx, dlt sw 0, dgt sw, dlt wt 0, dgt wt]
  by_cases h6 : (T.length : Int) ≤ 6
  · rw [decide_eq_true (by omega : T.length ≤ 60), decide_eq_false (by omega : ¬ (T.length : Int) > 6), decide_eq_true h6]
    cases hN : noneB (fun k => !v67_0 (fI (T.getD k.toNat .undef) 0) (-1000) 1000) T.length with
    | false => exact ⟨rfl, rfl⟩
    | true =>
    cases c1 : decide (0 ≤ nx) with
    | false => exact ⟨rfl, rfl⟩
    | true =>
    cases c2 : decide (nx ≤ (T.length : Int)) with
    | false => exact ⟨rfl, rfl⟩
    | true =>
    cases c3 : decide (0 ≤ sw) with
    | false => exact ⟨rfl, rfl⟩
    | true =>
    cases c4 : decide (sw ≤ 100000) with
    | false => exact ⟨rfl, rfl⟩
    | true =>
    cases c5 : decide (0 ≤ wt) with
    | false => exact ⟨rfl, rfl⟩
    | true =>
    cases c6 : decide (wt ≤ 100000) with
    | false => exact ⟨rfl, rfl⟩
    | true =>
    cases rn with
    | false =>
      simp only [band]
      exact ⟨rfl, rfl⟩
    | true =>
      have n0 := of_decide_eq_true c1
      have n1 := of_decide_eq_true c2
      by_cases hn : nx = T.length
      · rw [decide_eq_true hn]; exact ⟨rfl, rfl⟩
      · have hv := (noneB_iff.1 hN) nx n0 (by omega)
        rw [Bool.not_eq_false', v67, Bool.and_eq_true, decide_eq_true_eq, decide_eq_true_eq] at hv
        obtain ⟨k1, k2⟩ := tail71 hc hp T nx fr to i j sw wt (fI (T.getD nx.toNat .undef) 0) true (true && true) rfl hv.1 hv.2 i1
        rw [decide_eq_false hn, decide_eq_true (by omega : nx < (T.length : Int)), k1, k2]
        exact ⟨rfl, rfl⟩
  · rw [decide_eq_false h6, decide_eq_true (by omega : (T.length : Int) > 6)]
    cases noneB (fun k => !v67_0 (fI (T.getD k.toNat .undef) 0) (-1000) 1000) T.length <;> exact ⟨rfl, rfl⟩

end Go.Proofs.Ytdhhceamknidmaa
