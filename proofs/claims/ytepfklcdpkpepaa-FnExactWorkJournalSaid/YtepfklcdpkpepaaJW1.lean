/- The walk of what this claim reaches: printed by a program, each equation checked by the kernel. -/
import Derived.Test.YtepfklcdpkpepaaINS
import Derived.Test.YtepfklcdpkpepaaProg
import Derived.KernelRfl
namespace Go.Proofs.Ytepfklcdpkpepaa
open Go Go.Proofs.VE
set_option linter.unusedVariables false
set_option linter.unusedSimpArgs false
set_option maxRecDepth 100000
set_option maxHeartbeats 4000000
theorem mixed : Try.prog.follows .mixedOrders = true := by kernel_rfl
/-! ### 30 loop.example/g01984/laws.toIntS -/
def F30_0 (t0 : List AV) (t4 : Int) (h0 : List AV) : Out ((Int × (List AV))) (((List AV))) := (bif decide (t4 < (t0.length : Int)) then (bif (decide (0 ≤ t4) && decide (t4 < (t0.length : Int))) then (bif (decide (0 ≤ t4) && decide (t4 < (h0.length : Int))) then .next (IntKind.i64.wrap (t4 + 1), h0.set t4.toNat (AV.agg [AV.int .i64 (fI (t0.getD t4.toNat AV.undef) 0)]))
    else .fail)
   else .fail)
  else .stop h0)
def R30_0 (t0 : List AV) : ((Int × (List AV))) → Out ((Int × (List AV))) (((List AV))) := fun s : Int × (List AV) => F30_0 t0 s.1 s.2
def l30_0 : LModel := fun _ _ st k => match st with
  | ⟨[(0, .sl g0 t0), (3, .own g1), (4, .int .i64 t4)], [(g2, ⟨false, g3, h0⟩)]⟩ => bif ctsEq g0 ([.int .i64]) && nmEq g1 ([0, 3]) && nmEq g2 ([0, 3]) && ctsEq g3 ([.int .i64]) then ro (runW (R30_0 t0) (((t0.length : Int) - t4).toNat + 1) (t4, h0)) none (fun p : (List AV) => k (.exit 0) ⟨[(3, AV.own [0, 3])], [([0, 3], ⟨false, [.int .i64], p⟩)]⟩) else none
  | _ => none
noncomputable def c30 : Cfg := cfg Try.prog [(30, 0, [0, 3, 4]), (30, 999, [2]), (30, 1000, [3]), (30, 1001, [0, 3, 4])] [] [] [] [(30, 0, l30_0)]
theorem s30_0 (ce : CallE) (t0 : List AV) (t4 : Int) (h0 : List AV) (next : St → Option AV) (k : Kont) : stepA (codeA c30 ce [] 30 0 (sub [1, 1, 0, 1, 0, 0] (body Try.f30))) (normA [] [0, 3, 4]) next ⟨[(0, AV.sl [.int .i64] t0), (3, AV.own [0, 3]), (4, AV.int .i64 t4)], [([0, 3], ⟨false, [.int .i64], h0⟩)]⟩ k = (bif decide (t4 < (t0.length : Int)) then (bif (decide (0 ≤ t4) && decide (t4 < (t0.length : Int))) then (bif (decide (0 ≤ t4) && decide (t4 < (h0.length : Int))) then next ⟨[(0, AV.sl [.int .i64] t0), (3, AV.own [0, 3]), (4, AV.int .i64 (IntKind.i64.wrap (t4 + 1)))], [([0, 3], ⟨false, [.int .i64], h0.set t4.toNat (AV.agg [AV.int .i64 (fI (t0.getD t4.toNat AV.undef) 0)])⟩)]⟩
    else none)
   else none)
  else k (.exit 0) ⟨[(3, AV.own [0, 3])], [([0, 3], ⟨false, [.int .i64], h0⟩)]⟩) := by kernel_rfl
theorem st30_0 (t0 : List AV) (ce : CallE) (k : Kont) (s : (Int × (List AV))) (next : St → Option AV) : stepA (codeA c30 ce [] 30 0 (sub [1, 1, 0, 1, 0, 0] (body Try.f30))) (normA [] [0, 3, 4]) next ((fun s : Int × (List AV) => ⟨[(0, AV.sl [.int .i64] t0), (3, AV.own [0, 3]), (4, AV.int .i64 s.1)], [([0, 3], ⟨false, [.int .i64], s.2⟩)]⟩) s) k = (R30_0 t0 s).el none (fun s => next ((fun s : Int × (List AV) => ⟨[(0, AV.sl [.int .i64] t0), (3, AV.own [0, 3]), (4, AV.int .i64 s.1)], [([0, 3], ⟨false, [.int .i64], s.2⟩)]⟩) s)) (fun p : (List AV) => k (.exit 0) ⟨[(3, AV.own [0, 3])], [([0, 3], ⟨false, [.int .i64], p⟩)]⟩) := (s30_0 ce t0 s.1 s.2 next k).trans (by unfold R30_0; unfold F30_0; simp only [el_cond, el_ro, el_sum, el_fail, el_next, el_stop] <;> rfl)
theorem ok30_0 {ce : CallE} : LoopOK c30 ce [] 30 0 (sub [1, 1, 0, 1, 0, 0] (body Try.f30)) := by
  intro m hm st k r h
  obtain rfl : l30_0 = m := Option.some.inj hm
  unfold l30_0 at h
  split at h
  · rename_i g0 t0 g1 t4 g2 g3 h0
    obtain ⟨hg, h⟩ := bif_some h
    simp only [Bool.and_eq_true] at hg
    obtain ⟨⟨⟨q0, q1⟩, q2⟩, q3⟩ := hg
    obtain rfl := ctsEq_eq _ _ q0
    obtain rfl := (nmEq_iff _ _).1 q1
    obtain rfl := (nmEq_iff _ _).1 q2
    obtain rfl := ctsEq_eq _ _ q3
    refine ⟨(((t0.length : Int) - t4).toNat + 1), ?_⟩
    rw [← h]
    exact loop_run (fun s : Int × (List AV) => ⟨[(0, AV.sl [.int .i64] t0), (3, AV.own [0, 3]), (4, AV.int .i64 s.1)], [([0, 3], ⟨false, [.int .i64], s.2⟩)]⟩) (fun p : (List AV) => k (.exit 0) ⟨[(3, AV.own [0, 3])], [([0, 3], ⟨false, [.int .i64], p⟩)]⟩) (st30_0 t0 ce k) _ (t4, h0)
  · cases h
def q30 (a0 : List AV) : Bool := ((decide (0 ≤ (a0.length : Int)) && decide ((a0.length : Int) ≤ (a0.length : Int)) && decide ((a0.length : Int) * 8 ≤ 140737488355328) && decide ((a0.length : Int) ≤ 140737488355328)) && (ro (runW (R30_0 a0) (((a0.length : Int) - 0).toNat + 1) (0, List.replicate (Int.toNat (a0.length : Int)) (AV.int .i64 0))) false (fun p1 => true)))
def v30_0 (a0 : List AV) : List AV := (ro (runW (R30_0 a0) (((a0.length : Int) - 0).toNat + 1) (0, List.replicate (Int.toNat (a0.length : Int)) (AV.int .i64 0))) [] (fun p1 => p1))
theorem e30 (a0 : List AV) : funA c30 0 30 [AV.sl [.int .i64] a0] = (bif (decide (0 ≤ (a0.length : Int)) && decide ((a0.length : Int) ≤ (a0.length : Int)) && decide ((a0.length : Int) * 8 ≤ 140737488355328) && decide ((a0.length : Int) ≤ 140737488355328)) then (ro (runW (R30_0 a0) (((a0.length : Int) - 0).toNat + 1) (0, List.replicate (Int.toNat (a0.length : Int)) (AV.int .i64 0))) none (fun p1 => some (AV.fl [.int .i64] p1)))
  else none) := by kernel_rfl
theorem r30 (a0 : List AV) (h : q30 a0 = true) : funA c30 0 30 [AV.sl [.int .i64] a0] = some (AV.fl [.int .i64] (v30_0 a0)) := (e30 a0).trans ((brL (brO (fun o : Option (((List AV))) => some (AV.fl [.int .i64] (ro o [] (fun p1 => p1)))) (fun p1 => (fun _ => rfl)))) h)
def m30 : TModel
  | [.sl g0 a0] => bif ctsEq g0 ([.int .i64]) then some (q30 a0, AV.fl [.int .i64] (v30_0 a0)) else none
  | _ => none
theorem k30 : Known Try.prog 30 := ⟨Try.f30, Try.func30, by kernel_rfl, by kernel_rfl⟩
theorem meets30 : Meets Try.prog 30 m30 := by
  refine meet (f := Try.f30) (l := [(0, sub [1, 1, 0, 1, 0, 0] (body Try.f30))]) (hs := [(30, 0, [0, 3, 4]), (30, 999, [2]), (30, 1000, [3]), (30, 1001, [0, 3, 4])]) (ts := []) (ws := []) (is := []) (ls := [(30, 0, l30_0)]) (lvl := 0) mixed k30 Try.func30 (by kernel_rfl) (loops_cons ok30_0 noLoop) allT_nil allM_nil noI fun w xs us r hl hv h => ?_
  unfold m30 at h
  split at h
  · rename_i g0 a0
    obtain ⟨hg, h⟩ := bif_pair h
    have q0 := hg
    obtain rfl := ctsEq_eq _ _ q0
    obtain ⟨h1, rfl⟩ := pair_inj h
    exact r30 a0 h1
  · cases h

/-! ### 68 loop.example/g01984/spec.l1In -/
noncomputable def c68 : Cfg := cfg Try.prog [(68, 999, [6])] [] [] [] []
def q68 (a0 : Int) (a1 : Int) (a2 : Int) : Bool := true
def v68_0 (a0 : Int) (a1 : Int) (a2 : Int) : Bool := (bif decide (a0 ≥ a1) then decide (a0 ≤ a2) else false)
theorem e68 (a0 : Int) (a1 : Int) (a2 : Int) : funA c68 0 68 [AV.int .i64 a0, AV.int .i64 a1, AV.int .i64 a2] = (bif decide (a0 ≥ a1) then some (AV.bool (decide (a0 ≤ a2)))
  else some (AV.bool false)) := by kernel_rfl
theorem r68 (a0 : Int) (a1 : Int) (a2 : Int) : funA c68 0 68 [AV.int .i64 a0, AV.int .i64 a1, AV.int .i64 a2] = some (AV.bool (v68_0 a0 a1 a2)) := (e68 a0 a1 a2).trans (of_tt (brT (fun b => some (AV.bool (bif b then decide (a0 ≤ a2) else false))) (fun _ => rfl) (fun _ => rfl)))
def m68 : TModel
  | [.int .i64 a0, .int .i64 a1, .int .i64 a2] => some (true, AV.bool (v68_0 a0 a1 a2))
  | _ => none
theorem k68 : Known Try.prog 68 := ⟨Try.f68, Try.func68, by kernel_rfl, by kernel_rfl⟩
theorem meets68 : Meets Try.prog 68 m68 := by
  refine meet (f := Try.f68) (l := []) (hs := [(68, 999, [6])]) (ts := []) (ws := []) (is := []) (ls := []) (lvl := 0) mixed k68 Try.func68 (by kernel_rfl) noLoop allT_nil allM_nil noI fun w xs us r hl hv h => ?_
  unfold m68 at h
  split at h
  · rename_i a0 a1 a2
    obtain ⟨h1, rfl⟩ := pair_inj h
    exact r68 a0 a1 a2
  · cases h

/-! ### 103 loop.example/g01984/spec.AreValues -/
def F103_0 (t0 : List AV) (t3 : Int) : Out (Int) (Unit ⊕ Unit) := (bif decide (t3 < (t0.length : Int)) then (bif (decide (0 ≤ t3) && decide (t3 < (t0.length : Int))) then (bif !(v68_0 (fI (t0.getD t3.toNat AV.undef) 0) (-999) 999) then .stop (.inr ())
    else .next (IntKind.i64.wrap (t3 + 1)))
   else .fail)
  else .stop (.inl ()))
def R103_0 (t0 : List AV) : (Int) → Out (Int) (Unit ⊕ Unit) := fun s : Int => F103_0 t0 s
def l103_0 : LModel := fun _ _ st k => match st with
  | ⟨[(0, .sl g0 t0), (3, .int .i64 t3)], []⟩ => bif ctsEq g0 ([.int .i64]) then ro (runW (R103_0 t0) (((t0.length : Int) - t3).toNat + 1) t3) none (sumE (fun _ : Unit => k (.exit 0) ⟨[(0, AV.sl [.int .i64] t0)], []⟩) (fun _ : Unit => k .ret ⟨[(2, AV.bool false)], []⟩)) else none
  | _ => none
noncomputable def c103 : Cfg := cfg Try.prog [(103, 0, [0, 3]), (103, 999, [2]), (103, 1000, [0]), (103, 1001, [0, 3])] [(68, m68)] [] [] [(103, 0, l103_0)]
theorem s103_0 (ce : CallE) (t0 : List AV) (t3 : Int) (next : St → Option AV) (k : Kont) : stepA (codeA c103 ce [] 103 0 (sub [1, 0, 1, 0, 0] (body Try.f103))) (normA [] [0, 3]) next ⟨[(0, AV.sl [.int .i64] t0), (3, AV.int .i64 t3)], []⟩ k = (bif decide (t3 < (t0.length : Int)) then (bif (decide (0 ≤ t3) && decide (t3 < (t0.length : Int))) then (bif !(v68_0 (fI (t0.getD t3.toNat AV.undef) 0) (-999) 999) then k .ret ⟨[(2, AV.bool false)], []⟩
    else next ⟨[(0, AV.sl [.int .i64] t0), (3, AV.int .i64 (IntKind.i64.wrap (t3 + 1)))], []⟩)
   else none)
  else k (.exit 0) ⟨[(0, AV.sl [.int .i64] t0)], []⟩) := by kernel_rfl
theorem st103_0 (t0 : List AV) (ce : CallE) (k : Kont) (s : Int) (next : St → Option AV) : stepA (codeA c103 ce [] 103 0 (sub [1, 0, 1, 0, 0] (body Try.f103))) (normA [] [0, 3]) next ((fun s : Int => ⟨[(0, AV.sl [.int .i64] t0), (3, AV.int .i64 s)], []⟩) s) k = (R103_0 t0 s).el none (fun s => next ((fun s : Int => ⟨[(0, AV.sl [.int .i64] t0), (3, AV.int .i64 s)], []⟩) s)) (sumE (fun _ : Unit => k (.exit 0) ⟨[(0, AV.sl [.int .i64] t0)], []⟩) (fun _ : Unit => k .ret ⟨[(2, AV.bool false)], []⟩)) := (s103_0 ce t0 s next k).trans (by unfold R103_0; unfold F103_0; simp only [el_cond, el_ro, el_sum, el_fail, el_next, el_stop] <;> rfl)
theorem ok103_0 {ce : CallE} : LoopOK c103 ce [] 103 0 (sub [1, 0, 1, 0, 0] (body Try.f103)) := by
  intro m hm st k r h
  obtain rfl : l103_0 = m := Option.some.inj hm
  unfold l103_0 at h
  split at h
  · rename_i g0 t0 t3
    obtain ⟨hg, h⟩ := bif_some h
    have q0 := hg
    obtain rfl := ctsEq_eq _ _ q0
    refine ⟨(((t0.length : Int) - t3).toNat + 1), ?_⟩
    rw [← h]
    exact loop_run (fun s : Int => ⟨[(0, AV.sl [.int .i64] t0), (3, AV.int .i64 s)], []⟩) (sumE (fun _ : Unit => k (.exit 0) ⟨[(0, AV.sl [.int .i64] t0)], []⟩) (fun _ : Unit => k .ret ⟨[(2, AV.bool false)], []⟩)) (st103_0 t0 ce k) _ t3
  · cases h
def q103 (a0 : List AV) : Bool := (ro (runW (R103_0 a0) (((a0.length : Int) - 0).toNat + 1) 0) false (sumE (fun _ => true) (fun _ => true)))
def v103_0 (a0 : List AV) : Bool := (ro (runW (R103_0 a0) (((a0.length : Int) - 0).toNat + 1) 0) false (sumE (fun _ => decide ((a0.length : Int) ≤ 64)) (fun _ => false)))
theorem e103 (a0 : List AV) : funA c103 0 103 [AV.sl [.int .i64] a0] = (ro (runW (R103_0 a0) (((a0.length : Int) - 0).toNat + 1) 0) none (sumE (fun _ => some (AV.bool (decide ((a0.length : Int) ≤ 64)))) (fun _ => some (AV.bool false)))) := by kernel_rfl
theorem r103 (a0 : List AV) (h : q103 a0 = true) : funA c103 0 103 [AV.sl [.int .i64] a0] = some (AV.bool (v103_0 a0)) := (e103 a0).trans ((brO (fun o : Option (Unit ⊕ Unit) => some (AV.bool (ro o false (sumE (fun _ => decide ((a0.length : Int) ≤ 64)) (fun _ => false))))) (brS (fun o : Unit ⊕ Unit => some (AV.bool ((sumE (fun _ => decide ((a0.length : Int) ≤ 64)) (fun _ => false)) o))) (fun _ => (fun _ => rfl)) (fun _ => (fun _ => rfl)))) h)
def m103 : TModel
  | [.sl g0 a0] => bif ctsEq g0 ([.int .i64]) then some (q103 a0, AV.bool (v103_0 a0)) else none
  | _ => none
theorem k103 : Known Try.prog 103 := ⟨Try.f103, Try.func103, by kernel_rfl, by kernel_rfl⟩
theorem meets103 : Meets Try.prog 103 m103 := by
  refine meet (f := Try.f103) (l := [(0, sub [1, 0, 1, 0, 0] (body Try.f103))]) (hs := [(103, 0, [0, 3]), (103, 999, [2]), (103, 1000, [0]), (103, 1001, [0, 3])]) (ts := [(68, m68)]) (ws := []) (is := []) (ls := [(103, 0, l103_0)]) (lvl := 0) mixed k103 Try.func103 (by kernel_rfl) (loops_cons ok103_0 noLoop) (allT_cons meets68 allT_nil) allM_nil noI fun w xs us r hl hv h => ?_
  unfold m103 at h
  split at h
  · rename_i g0 a0
    obtain ⟨hg, h⟩ := bif_pair h
    have q0 := hg
    obtain rfl := ctsEq_eq _ _ q0
    obtain ⟨h1, rfl⟩ := pair_inj h
    exact r103 a0 h1
  · cases h

/-! ### 102 loop.example/g01984/spec.NewCracker -/
def F102_0_s0 (t0 : List AV) (h0 : List AV) (t4 : Int) : Out (Int ⊕ (Int × (List AV))) (Unit ⊕ ((List AV))) := (bif decide (t4 < (t0.length : Int)) then (bif (decide ((([AV.int .i64 t4]).length) * 8 ≤ 140737488355328) && decide ((([AV.int .i64 t4]).length) ≤ 140737488355328)) then .next (.inr (IntKind.i64.wrap (t4 + 1), [AV.int .i64 t4]))
   else .fail)
  else .stop (.inl ()))
def F102_0_s1 (t0 : List AV) (h0 : List AV) (t4 : Int) (h1 : List AV) : Out (Int ⊕ (Int × (List AV))) (Unit ⊕ ((List AV))) := (bif decide (t4 < (t0.length : Int)) then (bif (decide ((h1.length + ([AV.int .i64 t4]).length) * 8 ≤ 140737488355328) && decide ((h1.length + ([AV.int .i64 t4]).length) ≤ 140737488355328)) then .next (.inr (IntKind.i64.wrap (t4 + 1), h1 ++ ([AV.int .i64 t4])))
   else .fail)
  else .stop (.inr h1))
def R102_0 (t0 : List AV) (h0 : List AV) : (Int ⊕ (Int × (List AV))) → Out (Int ⊕ (Int × (List AV))) (Unit ⊕ ((List AV))) := sumE (fun s : Int => F102_0_s0 t0 h0 s) (fun s : Int × (List AV) => F102_0_s1 t0 h0 s.1 s.2)
def l102_0 : LModel := fun _ _ st k => match st with
  | ⟨[(0, .sl g0 t0), (2, .ptr g1 g2 g3), (3, .ptr g4 g5 g6), (4, .int .i64 t4)], [(g7, ⟨false, g8, h0⟩), (g9, ⟨true, [], [.agg [.snil, .snil, .snil]]⟩), (g10, ⟨true, [], [.agg [.own g11, .snil, .snil]]⟩)]⟩ => bif ctsEq g0 ([.int .i64]) && nmEq g1 ([0, 2]) && Nat.beq g2 0 && Nat.beq g3 0 && nmEq g4 ([0, 3]) && Nat.beq g5 0 && Nat.beq g6 0 && nmEq g7 ([0, 0, 3]) && ctsEq g8 ([.int .i64]) && nmEq g9 ([0, 2]) && nmEq g10 ([0, 3]) && nmEq g11 ([0, 0, 3]) then ro (runW (R102_0 t0 h0) (((t0.length : Int) - t4).toNat + 1) (.inl t4)) none (sumE (fun _ : Unit => k (.exit 0) ⟨[(2, AV.ptr [0, 2] 0 0), (3, AV.ptr [0, 3] 0 0)], [([0, 0, 3], ⟨false, [.int .i64], h0⟩), ([0, 2], ⟨true, [], [AV.agg [AV.snil, AV.snil, AV.snil]]⟩), ([0, 3], ⟨true, [], [AV.agg [AV.own [0, 0, 3], AV.snil, AV.snil]]⟩)]⟩) (fun p : (List AV) => k (.exit 0) ⟨[(2, AV.ptr [0, 2] 0 0), (3, AV.ptr [0, 3] 0 0)], [([0, 0, 3], ⟨false, [.int .i64], h0⟩), ([0, 1, 3], ⟨false, [.int .i64], p⟩), ([0, 2], ⟨true, [], [AV.agg [AV.snil, AV.snil, AV.snil]]⟩), ([0, 3], ⟨true, [], [AV.agg [AV.own [0, 0, 3], AV.own [0, 1, 3], AV.snil]]⟩)]⟩)) else none
  | ⟨[(0, .sl g0 t0), (2, .ptr g1 g2 g3), (3, .ptr g4 g5 g6), (4, .int .i64 t4)], [(g7, ⟨false, g8, h0⟩), (g9, ⟨false, g10, h1⟩), (g11, ⟨true, [], [.agg [.snil, .snil, .snil]]⟩), (g12, ⟨true, [], [.agg [.own g13, .own g14, .snil]]⟩)]⟩ => bif ctsEq g0 ([.int .i64]) && nmEq g1 ([0, 2]) && Nat.beq g2 0 && Nat.beq g3 0 && nmEq g4 ([0, 3]) && Nat.beq g5 0 && Nat.beq g6 0 && nmEq g7 ([0, 0, 3]) && ctsEq g8 ([.int .i64]) && nmEq g9 ([0, 1, 3]) && ctsEq g10 ([.int .i64]) && nmEq g11 ([0, 2]) && nmEq g12 ([0, 3]) && nmEq g13 ([0, 0, 3]) && nmEq g14 ([0, 1, 3]) then ro (runW (R102_0 t0 h0) (((t0.length : Int) - t4).toNat + 1) (.inr (t4, h1))) none (sumE (fun _ : Unit => k (.exit 0) ⟨[(2, AV.ptr [0, 2] 0 0), (3, AV.ptr [0, 3] 0 0)], [([0, 0, 3], ⟨false, [.int .i64], h0⟩), ([0, 2], ⟨true, [], [AV.agg [AV.snil, AV.snil, AV.snil]]⟩), ([0, 3], ⟨true, [], [AV.agg [AV.own [0, 0, 3], AV.snil, AV.snil]]⟩)]⟩) (fun p : (List AV) => k (.exit 0) ⟨[(2, AV.ptr [0, 2] 0 0), (3, AV.ptr [0, 3] 0 0)], [([0, 0, 3], ⟨false, [.int .i64], h0⟩), ([0, 1, 3], ⟨false, [.int .i64], p⟩), ([0, 2], ⟨true, [], [AV.agg [AV.snil, AV.snil, AV.snil]]⟩), ([0, 3], ⟨true, [], [AV.agg [AV.own [0, 0, 3], AV.own [0, 1, 3], AV.snil]]⟩)]⟩)) else none
  | _ => none
noncomputable def c102 : Cfg := cfg Try.prog [(102, 0, [0, 2, 3, 4]), (102, 999, [2]), (102, 1000, [2, 3]), (102, 1001, [0, 2, 3, 4])] [(103, m103)] [] [] [(102, 0, l102_0)]
theorem s102_0_s0 (ce : CallE) (t0 : List AV) (t4 : Int) (h0 : List AV) (next : St → Option AV) (k : Kont) : stepA (codeA c102 ce [] 102 0 (sub [1, 1, 1, 0, 1, 0, 0] (body Try.f102))) (normA [] [0, 2, 3, 4]) next ⟨[(0, AV.sl [.int .i64] t0), (2, AV.ptr [0, 2] 0 0), (3, AV.ptr [0, 3] 0 0), (4, AV.int .i64 t4)], [([0, 0, 3], ⟨false, [.int .i64], h0⟩), ([0, 2], ⟨true, [], [AV.agg [AV.snil, AV.snil, AV.snil]]⟩), ([0, 3], ⟨true, [], [AV.agg [AV.own [0, 0, 3], AV.snil, AV.snil]]⟩)]⟩ k = (bif decide (t4 < (t0.length : Int)) then (bif (decide ((([AV.int .i64 t4]).length) * 8 ≤ 140737488355328) && decide ((([AV.int .i64 t4]).length) ≤ 140737488355328)) then next ⟨[(0, AV.sl [.int .i64] t0), (2, AV.ptr [0, 2] 0 0), (3, AV.ptr [0, 3] 0 0), (4, AV.int .i64 (IntKind.i64.wrap (t4 + 1)))], [([0, 0, 3], ⟨false, [.int .i64], h0⟩), ([0, 1, 3], ⟨false, [.int .i64], [AV.int .i64 t4]⟩), ([0, 2], ⟨true, [], [AV.agg [AV.snil, AV.snil, AV.snil]]⟩), ([0, 3], ⟨true, [], [AV.agg [AV.own [0, 0, 3], AV.own [0, 1, 3], AV.snil]]⟩)]⟩
   else none)
  else k (.exit 0) ⟨[(2, AV.ptr [0, 2] 0 0), (3, AV.ptr [0, 3] 0 0)], [([0, 0, 3], ⟨false, [.int .i64], h0⟩), ([0, 2], ⟨true, [], [AV.agg [AV.snil, AV.snil, AV.snil]]⟩), ([0, 3], ⟨true, [], [AV.agg [AV.own [0, 0, 3], AV.snil, AV.snil]]⟩)]⟩) := by kernel_rfl
theorem s102_0_s1 (ce : CallE) (t0 : List AV) (t4 : Int) (h0 : List AV) (h1 : List AV) (next : St → Option AV) (k : Kont) : stepA (codeA c102 ce [] 102 0 (sub [1, 1, 1, 0, 1, 0, 0] (body Try.f102))) (normA [] [0, 2, 3, 4]) next ⟨[(0, AV.sl [.int .i64] t0), (2, AV.ptr [0, 2] 0 0), (3, AV.ptr [0, 3] 0 0), (4, AV.int .i64 t4)], [([0, 0, 3], ⟨false, [.int .i64], h0⟩), ([0, 1, 3], ⟨false, [.int .i64], h1⟩), ([0, 2], ⟨true, [], [AV.agg [AV.snil, AV.snil, AV.snil]]⟩), ([0, 3], ⟨true, [], [AV.agg [AV.own [0, 0, 3], AV.own [0, 1, 3], AV.snil]]⟩)]⟩ k = (bif decide (t4 < (t0.length : Int)) then (bif (decide ((h1.length + ([AV.int .i64 t4]).length) * 8 ≤ 140737488355328) && decide ((h1.length + ([AV.int .i64 t4]).length) ≤ 140737488355328)) then next ⟨[(0, AV.sl [.int .i64] t0), (2, AV.ptr [0, 2] 0 0), (3, AV.ptr [0, 3] 0 0), (4, AV.int .i64 (IntKind.i64.wrap (t4 + 1)))], [([0, 0, 3], ⟨false, [.int .i64], h0⟩), ([0, 1, 3], ⟨false, [.int .i64], h1 ++ ([AV.int .i64 t4])⟩), ([0, 2], ⟨true, [], [AV.agg [AV.snil, AV.snil, AV.snil]]⟩), ([0, 3], ⟨true, [], [AV.agg [AV.own [0, 0, 3], AV.own [0, 1, 3], AV.snil]]⟩)]⟩
   else none)
  else k (.exit 0) ⟨[(2, AV.ptr [0, 2] 0 0), (3, AV.ptr [0, 3] 0 0)], [([0, 0, 3], ⟨false, [.int .i64], h0⟩), ([0, 1, 3], ⟨false, [.int .i64], h1⟩), ([0, 2], ⟨true, [], [AV.agg [AV.snil, AV.snil, AV.snil]]⟩), ([0, 3], ⟨true, [], [AV.agg [AV.own [0, 0, 3], AV.own [0, 1, 3], AV.snil]]⟩)]⟩) := by kernel_rfl
theorem st102_0 (t0 : List AV) (h0 : List AV) (ce : CallE) (k : Kont) (s : Int ⊕ (Int × (List AV))) (next : St → Option AV) : stepA (codeA c102 ce [] 102 0 (sub [1, 1, 1, 0, 1, 0, 0] (body Try.f102))) (normA [] [0, 2, 3, 4]) next ((sumE (fun s : Int => ⟨[(0, AV.sl [.int .i64] t0), (2, AV.ptr [0, 2] 0 0), (3, AV.ptr [0, 3] 0 0), (4, AV.int .i64 s)], [([0, 0, 3], ⟨false, [.int .i64], h0⟩), ([0, 2], ⟨true, [], [AV.agg [AV.snil, AV.snil, AV.snil]]⟩), ([0, 3], ⟨true, [], [AV.agg [AV.own [0, 0, 3], AV.snil, AV.snil]]⟩)]⟩) (fun s : Int × (List AV) => ⟨[(0, AV.sl [.int .i64] t0), (2, AV.ptr [0, 2] 0 0), (3, AV.ptr [0, 3] 0 0), (4, AV.int .i64 s.1)], [([0, 0, 3], ⟨false, [.int .i64], h0⟩), ([0, 1, 3], ⟨false, [.int .i64], s.2⟩), ([0, 2], ⟨true, [], [AV.agg [AV.snil, AV.snil, AV.snil]]⟩), ([0, 3], ⟨true, [], [AV.agg [AV.own [0, 0, 3], AV.own [0, 1, 3], AV.snil]]⟩)]⟩)) s) k = (R102_0 t0 h0 s).el none (fun s => next ((sumE (fun s : Int => ⟨[(0, AV.sl [.int .i64] t0), (2, AV.ptr [0, 2] 0 0), (3, AV.ptr [0, 3] 0 0), (4, AV.int .i64 s)], [([0, 0, 3], ⟨false, [.int .i64], h0⟩), ([0, 2], ⟨true, [], [AV.agg [AV.snil, AV.snil, AV.snil]]⟩), ([0, 3], ⟨true, [], [AV.agg [AV.own [0, 0, 3], AV.snil, AV.snil]]⟩)]⟩) (fun s : Int × (List AV) => ⟨[(0, AV.sl [.int .i64] t0), (2, AV.ptr [0, 2] 0 0), (3, AV.ptr [0, 3] 0 0), (4, AV.int .i64 s.1)], [([0, 0, 3], ⟨false, [.int .i64], h0⟩), ([0, 1, 3], ⟨false, [.int .i64], s.2⟩), ([0, 2], ⟨true, [], [AV.agg [AV.snil, AV.snil, AV.snil]]⟩), ([0, 3], ⟨true, [], [AV.agg [AV.own [0, 0, 3], AV.own [0, 1, 3], AV.snil]]⟩)]⟩)) s)) (sumE (fun _ : Unit => k (.exit 0) ⟨[(2, AV.ptr [0, 2] 0 0), (3, AV.ptr [0, 3] 0 0)], [([0, 0, 3], ⟨false, [.int .i64], h0⟩), ([0, 2], ⟨true, [], [AV.agg [AV.snil, AV.snil, AV.snil]]⟩), ([0, 3], ⟨true, [], [AV.agg [AV.own [0, 0, 3], AV.snil, AV.snil]]⟩)]⟩) (fun p : (List AV) => k (.exit 0) ⟨[(2, AV.ptr [0, 2] 0 0), (3, AV.ptr [0, 3] 0 0)], [([0, 0, 3], ⟨false, [.int .i64], h0⟩), ([0, 1, 3], ⟨false, [.int .i64], p⟩), ([0, 2], ⟨true, [], [AV.agg [AV.snil, AV.snil, AV.snil]]⟩), ([0, 3], ⟨true, [], [AV.agg [AV.own [0, 0, 3], AV.own [0, 1, 3], AV.snil]]⟩)]⟩)) := (match s with | .inl s => (s102_0_s0 ce t0 s h0 next k).trans (by unfold R102_0; unfold F102_0_s0; simp only [el_cond, el_ro, el_sum, el_fail, el_next, el_stop] <;> rfl) | .inr s => (s102_0_s1 ce t0 s.1 h0 s.2 next k).trans (by unfold R102_0; unfold F102_0_s1; simp only [el_cond, el_ro, el_sum, el_fail, el_next, el_stop] <;> rfl))
theorem ok102_0 {ce : CallE} : LoopOK c102 ce [] 102 0 (sub [1, 1, 1, 0, 1, 0, 0] (body Try.f102)) := by
  intro m hm st k r h
  obtain rfl : l102_0 = m := Option.some.inj hm
  unfold l102_0 at h
  split at h
  · rename_i g0 t0 g1 g2 g3 g4 g5 g6 t4 g7 g8 h0 g9 g10 g11
    obtain ⟨hg, h⟩ := bif_some h
    simp only [Bool.and_eq_true] at hg
    obtain ⟨⟨⟨⟨⟨⟨⟨⟨⟨⟨⟨q0, q1⟩, q2⟩, q3⟩, q4⟩, q5⟩, q6⟩, q7⟩, q8⟩, q9⟩, q10⟩, q11⟩ := hg
    obtain rfl := ctsEq_eq _ _ q0
    obtain rfl := (nmEq_iff _ _).1 q1
    obtain rfl := Nat.eq_of_beq_eq_true q2
    obtain rfl := Nat.eq_of_beq_eq_true q3
    obtain rfl := (nmEq_iff _ _).1 q4
    obtain rfl := Nat.eq_of_beq_eq_true q5
    obtain rfl := Nat.eq_of_beq_eq_true q6
    obtain rfl := (nmEq_iff _ _).1 q7
    obtain rfl := ctsEq_eq _ _ q8
    obtain rfl := (nmEq_iff _ _).1 q9
    obtain rfl := (nmEq_iff _ _).1 q10
    obtain rfl := (nmEq_iff _ _).1 q11
    refine ⟨(((t0.length : Int) - t4).toNat + 1), ?_⟩
    rw [← h]
    exact loop_run (sumE (fun s : Int => ⟨[(0, AV.sl [.int .i64] t0), (2, AV.ptr [0, 2] 0 0), (3, AV.ptr [0, 3] 0 0), (4, AV.int .i64 s)], [([0, 0, 3], ⟨false, [.int .i64], h0⟩), ([0, 2], ⟨true, [], [AV.agg [AV.snil, AV.snil, AV.snil]]⟩), ([0, 3], ⟨true, [], [AV.agg [AV.own [0, 0, 3], AV.snil, AV.snil]]⟩)]⟩) (fun s : Int × (List AV) => ⟨[(0, AV.sl [.int .i64] t0), (2, AV.ptr [0, 2] 0 0), (3, AV.ptr [0, 3] 0 0), (4, AV.int .i64 s.1)], [([0, 0, 3], ⟨false, [.int .i64], h0⟩), ([0, 1, 3], ⟨false, [.int .i64], s.2⟩), ([0, 2], ⟨true, [], [AV.agg [AV.snil, AV.snil, AV.snil]]⟩), ([0, 3], ⟨true, [], [AV.agg [AV.own [0, 0, 3], AV.own [0, 1, 3], AV.snil]]⟩)]⟩)) (sumE (fun _ : Unit => k (.exit 0) ⟨[(2, AV.ptr [0, 2] 0 0), (3, AV.ptr [0, 3] 0 0)], [([0, 0, 3], ⟨false, [.int .i64], h0⟩), ([0, 2], ⟨true, [], [AV.agg [AV.snil, AV.snil, AV.snil]]⟩), ([0, 3], ⟨true, [], [AV.agg [AV.own [0, 0, 3], AV.snil, AV.snil]]⟩)]⟩) (fun p : (List AV) => k (.exit 0) ⟨[(2, AV.ptr [0, 2] 0 0), (3, AV.ptr [0, 3] 0 0)], [([0, 0, 3], ⟨false, [.int .i64], h0⟩), ([0, 1, 3], ⟨false, [.int .i64], p⟩), ([0, 2], ⟨true, [], [AV.agg [AV.snil, AV.snil, AV.snil]]⟩), ([0, 3], ⟨true, [], [AV.agg [AV.own [0, 0, 3], AV.own [0, 1, 3], AV.snil]]⟩)]⟩)) (st102_0 t0 h0 ce k) _ (.inl t4)
  · rename_i g0 t0 g1 g2 g3 g4 g5 g6 t4 g7 g8 h0 g9 g10 h1 g11 g12 g13 g14
    obtain ⟨hg, h⟩ := bif_some h
    simp only [Bool.and_eq_true] at hg
    obtain ⟨⟨⟨⟨⟨⟨⟨⟨⟨⟨⟨⟨⟨⟨q0, q1⟩, q2⟩, q3⟩, q4⟩, q5⟩, q6⟩, q7⟩, q8⟩, q9⟩, q10⟩, q11⟩, q12⟩, q13⟩, q14⟩ := hg
    obtain rfl := ctsEq_eq _ _ q0
    obtain rfl := (nmEq_iff _ _).1 q1
    obtain rfl := Nat.eq_of_beq_eq_true q2
    obtain rfl := Nat.eq_of_beq_eq_true q3
    obtain rfl := (nmEq_iff _ _).1 q4
    obtain rfl := Nat.eq_of_beq_eq_true q5
    obtain rfl := Nat.eq_of_beq_eq_true q6
    obtain rfl := (nmEq_iff _ _).1 q7
    obtain rfl := ctsEq_eq _ _ q8
    obtain rfl := (nmEq_iff _ _).1 q9
    obtain rfl := ctsEq_eq _ _ q10
    obtain rfl := (nmEq_iff _ _).1 q11
    obtain rfl := (nmEq_iff _ _).1 q12
    obtain rfl := (nmEq_iff _ _).1 q13
    obtain rfl := (nmEq_iff _ _).1 q14
    refine ⟨(((t0.length : Int) - t4).toNat + 1), ?_⟩
    rw [← h]
    exact loop_run (sumE (fun s : Int => ⟨[(0, AV.sl [.int .i64] t0), (2, AV.ptr [0, 2] 0 0), (3, AV.ptr [0, 3] 0 0), (4, AV.int .i64 s)], [([0, 0, 3], ⟨false, [.int .i64], h0⟩), ([0, 2], ⟨true, [], [AV.agg [AV.snil, AV.snil, AV.snil]]⟩), ([0, 3], ⟨true, [], [AV.agg [AV.own [0, 0, 3], AV.snil, AV.snil]]⟩)]⟩) (fun s : Int × (List AV) => ⟨[(0, AV.sl [.int .i64] t0), (2, AV.ptr [0, 2] 0 0), (3, AV.ptr [0, 3] 0 0), (4, AV.int .i64 s.1)], [([0, 0, 3], ⟨false, [.int .i64], h0⟩), ([0, 1, 3], ⟨false, [.int .i64], s.2⟩), ([0, 2], ⟨true, [], [AV.agg [AV.snil, AV.snil, AV.snil]]⟩), ([0, 3], ⟨true, [], [AV.agg [AV.own [0, 0, 3], AV.own [0, 1, 3], AV.snil]]⟩)]⟩)) (sumE (fun _ : Unit => k (.exit 0) ⟨[(2, AV.ptr [0, 2] 0 0), (3, AV.ptr [0, 3] 0 0)], [([0, 0, 3], ⟨false, [.int .i64], h0⟩), ([0, 2], ⟨true, [], [AV.agg [AV.snil, AV.snil, AV.snil]]⟩), ([0, 3], ⟨true, [], [AV.agg [AV.own [0, 0, 3], AV.snil, AV.snil]]⟩)]⟩) (fun p : (List AV) => k (.exit 0) ⟨[(2, AV.ptr [0, 2] 0 0), (3, AV.ptr [0, 3] 0 0)], [([0, 0, 3], ⟨false, [.int .i64], h0⟩), ([0, 1, 3], ⟨false, [.int .i64], p⟩), ([0, 2], ⟨true, [], [AV.agg [AV.snil, AV.snil, AV.snil]]⟩), ([0, 3], ⟨true, [], [AV.agg [AV.own [0, 0, 3], AV.own [0, 1, 3], AV.snil]]⟩)]⟩)) (st102_0 t0 h0 ce k) _ (.inr (t4, h1))
  · cases h
def q102 (a0 : List AV) : Bool := (q103 a0 && (bif !(v103_0 a0) then true else ((decide ((([] : List AV).length + a0.length) * 8 ≤ 140737488355328) && decide ((([] : List AV).length + a0.length) ≤ 140737488355328)) && (ro (runW (R102_0 a0 (([] : List AV) ++ a0)) (((a0.length : Int) - 0).toNat + 1) (.inl 0)) false (sumE (fun _ => true) (fun p5 => true))))))
def v102_0 (a0 : List AV) : List AV := (bif !(v103_0 a0) then ([] : List AV) else ([] : List AV) ++ a0)
def v102_1 (a0 : List AV) : List AV := (bif !(v103_0 a0) then ([] : List AV) else (ro (runW (R102_0 a0 (([] : List AV) ++ a0)) (((a0.length : Int) - 0).toNat + 1) (.inl 0)) [] (sumE (fun _ => ([] : List AV)) (fun p5 => p5))))
def v102_2 (a0 : List AV) : List AV := ([] : List AV)
theorem e102 (a0 : List AV) : funA c102 0 102 [AV.sl [.int .i64] a0] = (bif q103 a0 then (bif !(v103_0 a0) then some (AV.agg [AV.fl [.int .i64] ([] : List AV), AV.fl [.int .i64] ([] : List AV), AV.fl [.int .i64, .int .i64] ([] : List AV)])
   else (bif (decide ((([] : List AV).length + a0.length) * 8 ≤ 140737488355328) && decide ((([] : List AV).length + a0.length) ≤ 140737488355328)) then (ro (runW (R102_0 a0 (([] : List AV) ++ a0)) (((a0.length : Int) - 0).toNat + 1) (.inl 0)) none (sumE (fun _ => some (AV.agg [AV.fl [.int .i64] (([] : List AV) ++ a0), AV.fl [.int .i64] ([] : List AV), AV.fl [.int .i64, .int .i64] ([] : List AV)])) (fun p5 => some (AV.agg [AV.fl [.int .i64] (([] : List AV) ++ a0), AV.fl [.int .i64] p5, AV.fl [.int .i64, .int .i64] ([] : List AV)]))))
    else none))
  else none) := by kernel_rfl
theorem r102 (a0 : List AV) (h : q102 a0 = true) : funA c102 0 102 [AV.sl [.int .i64] a0] = some (AV.agg [AV.fl [.int .i64] (v102_0 a0), AV.fl [.int .i64] (v102_1 a0), AV.fl [.int .i64, .int .i64] (v102_2 a0)]) := (e102 a0).trans ((brL (br (fun b => some (AV.agg [AV.fl [.int .i64] (bif b then ([] : List AV) else ([] : List AV) ++ a0), AV.fl [.int .i64] (bif b then ([] : List AV) else (ro (runW (R102_0 a0 (([] : List AV) ++ a0)) (((a0.length : Int) - 0).toNat + 1) (.inl 0)) [] (sumE (fun _ => ([] : List AV)) (fun p5 => p5)))), AV.fl [.int .i64, .int .i64] ([] : List AV)])) (fun _ => rfl) (brL (brO (fun o : Option (Unit ⊕ ((List AV))) => some (AV.agg [AV.fl [.int .i64] (([] : List AV) ++ a0), AV.fl [.int .i64] (ro o [] (sumE (fun _ => ([] : List AV)) (fun p5 => p5))), AV.fl [.int .i64, .int .i64] ([] : List AV)])) (brS (fun o : Unit ⊕ ((List AV)) => some (AV.agg [AV.fl [.int .i64] (([] : List AV) ++ a0), AV.fl [.int .i64] ((sumE (fun _ => ([] : List AV)) (fun p5 => p5)) o), AV.fl [.int .i64, .int .i64] ([] : List AV)])) (fun _ => (fun _ => rfl)) (fun p5 => (fun _ => rfl))))))) h)
def m102 : TModel
  | [.sl g0 a0] => bif ctsEq g0 ([.int .i64]) then some (q102 a0, AV.agg [AV.fl [.int .i64] (v102_0 a0), AV.fl [.int .i64] (v102_1 a0), AV.fl [.int .i64, .int .i64] (v102_2 a0)]) else none
  | _ => none
theorem k102 : Known Try.prog 102 := ⟨Try.f102, Try.func102, by kernel_rfl, by kernel_rfl⟩
theorem meets102 : Meets Try.prog 102 m102 := by
  refine meet (f := Try.f102) (l := [(0, sub [1, 1, 1, 0, 1, 0, 0] (body Try.f102))]) (hs := [(102, 0, [0, 2, 3, 4]), (102, 999, [2]), (102, 1000, [2, 3]), (102, 1001, [0, 2, 3, 4])]) (ts := [(103, m103)]) (ws := []) (is := []) (ls := [(102, 0, l102_0)]) (lvl := 0) mixed k102 Try.func102 (by kernel_rfl) (loops_cons ok102_0 noLoop) (allT_cons meets103 allT_nil) allM_nil noI fun w xs us r hl hv h => ?_
  unfold m102 at h
  split at h
  · rename_i g0 a0
    obtain ⟨hg, h⟩ := bif_pair h
    have q0 := hg
    obtain rfl := ctsEq_eq _ _ q0
    obtain ⟨h1, rfl⟩ := pair_inj h
    exact r102 a0 h1
  · cases h

/-! ### 104 loop.example/g01984/spec.l12History -/
def F104_0 (t0 : List AV) (t3 : Int) : Out (Int) (Unit ⊕ Unit) := (bif decide (t3 < (t0.length : Int)) then (bif (decide (0 ≤ t3) && decide (t3 < (t0.length : Int))) then (bif !(v68_0 (fI (t0.getD t3.toNat AV.undef) 0) (-1000) 1000) then .stop (.inr ())
    else .next (IntKind.i64.wrap (t3 + 1)))
   else .fail)
  else .stop (.inl ()))
def R104_0 (t0 : List AV) : (Int) → Out (Int) (Unit ⊕ Unit) := fun s : Int => F104_0 t0 s
def l104_0 : LModel := fun _ _ st k => match st with
  | ⟨[(0, .sl g0 t0), (3, .int .i64 t3)], []⟩ => bif ctsEq g0 ([.int .i64]) then ro (runW (R104_0 t0) (((t0.length : Int) - t3).toNat + 1) t3) none (sumE (fun _ : Unit => k (.exit 0) ⟨[(0, AV.sl [.int .i64] t0)], []⟩) (fun _ : Unit => k .ret ⟨[(2, AV.bool false)], []⟩)) else none
  | _ => none
noncomputable def c104 : Cfg := cfg Try.prog [(104, 0, [0, 3]), (104, 999, [2]), (104, 1000, [0]), (104, 1001, [0, 3])] [(68, m68)] [] [] [(104, 0, l104_0)]
theorem s104_0 (ce : CallE) (t0 : List AV) (t3 : Int) (next : St → Option AV) (k : Kont) : stepA (codeA c104 ce [] 104 0 (sub [1, 0, 1, 0, 0] (body Try.f104))) (normA [] [0, 3]) next ⟨[(0, AV.sl [.int .i64] t0), (3, AV.int .i64 t3)], []⟩ k = (bif decide (t3 < (t0.length : Int)) then (bif (decide (0 ≤ t3) && decide (t3 < (t0.length : Int))) then (bif !(v68_0 (fI (t0.getD t3.toNat AV.undef) 0) (-1000) 1000) then k .ret ⟨[(2, AV.bool false)], []⟩
    else next ⟨[(0, AV.sl [.int .i64] t0), (3, AV.int .i64 (IntKind.i64.wrap (t3 + 1)))], []⟩)
   else none)
  else k (.exit 0) ⟨[(0, AV.sl [.int .i64] t0)], []⟩) := by kernel_rfl
theorem st104_0 (t0 : List AV) (ce : CallE) (k : Kont) (s : Int) (next : St → Option AV) : stepA (codeA c104 ce [] 104 0 (sub [1, 0, 1, 0, 0] (body Try.f104))) (normA [] [0, 3]) next ((fun s : Int => ⟨[(0, AV.sl [.int .i64] t0), (3, AV.int .i64 s)], []⟩) s) k = (R104_0 t0 s).el none (fun s => next ((fun s : Int => ⟨[(0, AV.sl [.int .i64] t0), (3, AV.int .i64 s)], []⟩) s)) (sumE (fun _ : Unit => k (.exit 0) ⟨[(0, AV.sl [.int .i64] t0)], []⟩) (fun _ : Unit => k .ret ⟨[(2, AV.bool false)], []⟩)) := (s104_0 ce t0 s next k).trans (by unfold R104_0; unfold F104_0; simp only [el_cond, el_ro, el_sum, el_fail, el_next, el_stop] <;> rfl)
theorem ok104_0 {ce : CallE} : LoopOK c104 ce [] 104 0 (sub [1, 0, 1, 0, 0] (body Try.f104)) := by
  intro m hm st k r h
  obtain rfl : l104_0 = m := Option.some.inj hm
  unfold l104_0 at h
  split at h
  · rename_i g0 t0 t3
    obtain ⟨hg, h⟩ := bif_some h
    have q0 := hg
    obtain rfl := ctsEq_eq _ _ q0
    refine ⟨(((t0.length : Int) - t3).toNat + 1), ?_⟩
    rw [← h]
    exact loop_run (fun s : Int => ⟨[(0, AV.sl [.int .i64] t0), (3, AV.int .i64 s)], []⟩) (sumE (fun _ : Unit => k (.exit 0) ⟨[(0, AV.sl [.int .i64] t0)], []⟩) (fun _ : Unit => k .ret ⟨[(2, AV.bool false)], []⟩)) (st104_0 t0 ce k) _ t3
  · cases h
def q104 (a0 : List AV) : Bool := (ro (runW (R104_0 a0) (((a0.length : Int) - 0).toNat + 1) 0) false (sumE (fun _ => true) (fun _ => true)))
def v104_0 (a0 : List AV) : Bool := (ro (runW (R104_0 a0) (((a0.length : Int) - 0).toNat + 1) 0) false (sumE (fun _ => decide ((a0.length : Int) ≤ 60)) (fun _ => false)))
theorem e104 (a0 : List AV) : funA c104 0 104 [AV.sl [.int .i64] a0] = (ro (runW (R104_0 a0) (((a0.length : Int) - 0).toNat + 1) 0) none (sumE (fun _ => some (AV.bool (decide ((a0.length : Int) ≤ 60)))) (fun _ => some (AV.bool false)))) := by kernel_rfl
theorem r104 (a0 : List AV) (h : q104 a0 = true) : funA c104 0 104 [AV.sl [.int .i64] a0] = some (AV.bool (v104_0 a0)) := (e104 a0).trans ((brO (fun o : Option (Unit ⊕ Unit) => some (AV.bool (ro o false (sumE (fun _ => decide ((a0.length : Int) ≤ 60)) (fun _ => false))))) (brS (fun o : Unit ⊕ Unit => some (AV.bool ((sumE (fun _ => decide ((a0.length : Int) ≤ 60)) (fun _ => false)) o))) (fun _ => (fun _ => rfl)) (fun _ => (fun _ => rfl)))) h)
def m104 : TModel
  | [.sl g0 a0] => bif ctsEq g0 ([.int .i64]) then some (q104 a0, AV.bool (v104_0 a0)) else none
  | _ => none
theorem k104 : Known Try.prog 104 := ⟨Try.f104, Try.func104, by kernel_rfl, by kernel_rfl⟩
theorem meets104 : Meets Try.prog 104 m104 := by
  refine meet (f := Try.f104) (l := [(0, sub [1, 0, 1, 0, 0] (body Try.f104))]) (hs := [(104, 0, [0, 3]), (104, 999, [2]), (104, 1000, [0]), (104, 1001, [0, 3])]) (ts := [(68, m68)]) (ws := []) (is := []) (ls := [(104, 0, l104_0)]) (lvl := 0) mixed k104 Try.func104 (by kernel_rfl) (loops_cons ok104_0 noLoop) (allT_cons meets68 allT_nil) allM_nil noI fun w xs us r hl hv h => ?_
  unfold m104 at h
  split at h
  · rename_i g0 a0
    obtain ⟨hg, h⟩ := bif_pair h
    have q0 := hg
    obtain rfl := ctsEq_eq _ _ q0
    obtain ⟨h1, rfl⟩ := pair_inj h
    exact r104 a0 h1
  · cases h

/-! ### 95 loop.example/g01984/spec.FindPivot -/
def F95_0 (t1 : Int) (h0_0 : List AV) (h0_1 : List AV) (h0_2 : List AV) (t6 : Int) : Out (Int) (Unit ⊕ Int) := (bif decide (t6 < (h0_2.length : Int)) then (bif (decide (0 ≤ t6) && decide (t6 < (h0_2.length : Int))) then (bif decide (fI (h0_2.getD t6.toNat AV.undef) 0 = t1) then (bif (decide (0 ≤ t6) && decide (t6 < (h0_2.length : Int))) then .stop (.inr (fI (h0_2.getD t6.toNat AV.undef) 1))
     else .fail)
    else .next (IntKind.i64.wrap (t6 + 1)))
   else .fail)
  else .stop (.inl ()))
def R95_0 (t1 : Int) (h0_0 : List AV) (h0_1 : List AV) (h0_2 : List AV) : (Int) → Out (Int) (Unit ⊕ Int) := fun s : Int => F95_0 t1 h0_0 h0_1 h0_2 s
def l95_0 : LModel := fun _ _ st k => match st with
  | ⟨[(1, .int .i64 t1), (2, .ptr g0 g1 g2), (6, .int .i64 t6)], [(g3, ⟨true, [], [.agg [.sl g4 h0_0, .sl g5 h0_1, .sl g6 h0_2]]⟩)]⟩ => bif nmEq g0 ([0, 2]) && Nat.beq g1 0 && Nat.beq g2 0 && nmEq g3 ([0, 2]) && ctsEq g4 ([.int .i64]) && ctsEq g5 ([.int .i64]) && ctsEq g6 ([.int .i64, .int .i64]) then ro (runW (R95_0 t1 h0_0 h0_1 h0_2) (((h0_2.length : Int) - t6).toNat + 1) t6) none (sumE (fun _ : Unit => k (.exit 0) ⟨[], [([0, 2], ⟨true, [], [AV.agg [AV.sl [.int .i64] h0_0, AV.sl [.int .i64] h0_1, AV.sl [.int .i64, .int .i64] h0_2]]⟩)]⟩) (fun p : Int => k .ret ⟨[(4, AV.int .i64 p), (5, AV.bool true)], [([0, 2], ⟨true, [], [AV.agg [AV.sl [.int .i64] h0_0, AV.sl [.int .i64] h0_1, AV.sl [.int .i64, .int .i64] h0_2]]⟩)]⟩)) else none
  | _ => none
noncomputable def c95 : Cfg := cfg Try.prog [(95, 0, [1, 2, 6]), (95, 999, [4, 5]), (95, 1000, []), (95, 1001, [1, 2, 6])] [] [] [] [(95, 0, l95_0)]
theorem s95_0 (ce : CallE) (t1 : Int) (t6 : Int) (h0_0 : List AV) (h0_1 : List AV) (h0_2 : List AV) (next : St → Option AV) (k : Kont) : stepA (codeA c95 ce [] 95 0 (sub [1, 0, 1, 0, 0] (body Try.f95))) (normA [] [1, 2, 6]) next ⟨[(1, AV.int .i64 t1), (2, AV.ptr [0, 2] 0 0), (6, AV.int .i64 t6)], [([0, 2], ⟨true, [], [AV.agg [AV.sl [.int .i64] h0_0, AV.sl [.int .i64] h0_1, AV.sl [.int .i64, .int .i64] h0_2]]⟩)]⟩ k = (bif decide (t6 < (h0_2.length : Int)) then (bif (decide (0 ≤ t6) && decide (t6 < (h0_2.length : Int))) then (bif decide (fI (h0_2.getD t6.toNat AV.undef) 0 = t1) then (bif (decide (0 ≤ t6) && decide (t6 < (h0_2.length : Int))) then k .ret ⟨[(4, AV.int .i64 (fI (h0_2.getD t6.toNat AV.undef) 1)), (5, AV.bool true)], [([0, 2], ⟨true, [], [AV.agg [AV.sl [.int .i64] h0_0, AV.sl [.int .i64] h0_1, AV.sl [.int .i64, .int .i64] h0_2]]⟩)]⟩
     else none)
    else next ⟨[(1, AV.int .i64 t1), (2, AV.ptr [0, 2] 0 0), (6, AV.int .i64 (IntKind.i64.wrap (t6 + 1)))], [([0, 2], ⟨true, [], [AV.agg [AV.sl [.int .i64] h0_0, AV.sl [.int .i64] h0_1, AV.sl [.int .i64, .int .i64] h0_2]]⟩)]⟩)
   else none)
  else k (.exit 0) ⟨[], [([0, 2], ⟨true, [], [AV.agg [AV.sl [.int .i64] h0_0, AV.sl [.int .i64] h0_1, AV.sl [.int .i64, .int .i64] h0_2]]⟩)]⟩) := by kernel_rfl
theorem st95_0 (t1 : Int) (h0_0 : List AV) (h0_1 : List AV) (h0_2 : List AV) (ce : CallE) (k : Kont) (s : Int) (next : St → Option AV) : stepA (codeA c95 ce [] 95 0 (sub [1, 0, 1, 0, 0] (body Try.f95))) (normA [] [1, 2, 6]) next ((fun s : Int => ⟨[(1, AV.int .i64 t1), (2, AV.ptr [0, 2] 0 0), (6, AV.int .i64 s)], [([0, 2], ⟨true, [], [AV.agg [AV.sl [.int .i64] h0_0, AV.sl [.int .i64] h0_1, AV.sl [.int .i64, .int .i64] h0_2]]⟩)]⟩) s) k = (R95_0 t1 h0_0 h0_1 h0_2 s).el none (fun s => next ((fun s : Int => ⟨[(1, AV.int .i64 t1), (2, AV.ptr [0, 2] 0 0), (6, AV.int .i64 s)], [([0, 2], ⟨true, [], [AV.agg [AV.sl [.int .i64] h0_0, AV.sl [.int .i64] h0_1, AV.sl [.int .i64, .int .i64] h0_2]]⟩)]⟩) s)) (sumE (fun _ : Unit => k (.exit 0) ⟨[], [([0, 2], ⟨true, [], [AV.agg [AV.sl [.int .i64] h0_0, AV.sl [.int .i64] h0_1, AV.sl [.int .i64, .int .i64] h0_2]]⟩)]⟩) (fun p : Int => k .ret ⟨[(4, AV.int .i64 p), (5, AV.bool true)], [([0, 2], ⟨true, [], [AV.agg [AV.sl [.int .i64] h0_0, AV.sl [.int .i64] h0_1, AV.sl [.int .i64, .int .i64] h0_2]]⟩)]⟩)) := (s95_0 ce t1 s h0_0 h0_1 h0_2 next k).trans (by unfold R95_0; unfold F95_0; simp only [el_cond, el_ro, el_sum, el_fail, el_next, el_stop] <;> rfl)
theorem ok95_0 {ce : CallE} : LoopOK c95 ce [] 95 0 (sub [1, 0, 1, 0, 0] (body Try.f95)) := by
  intro m hm st k r h
  obtain rfl : l95_0 = m := Option.some.inj hm
  unfold l95_0 at h
  split at h
  · rename_i t1 g0 g1 g2 t6 g3 g4 h0_0 g5 h0_1 g6 h0_2
    obtain ⟨hg, h⟩ := bif_some h
    simp only [Bool.and_eq_true] at hg
    obtain ⟨⟨⟨⟨⟨⟨q0, q1⟩, q2⟩, q3⟩, q4⟩, q5⟩, q6⟩ := hg
    obtain rfl := (nmEq_iff _ _).1 q0
    obtain rfl := Nat.eq_of_beq_eq_true q1
    obtain rfl := Nat.eq_of_beq_eq_true q2
    obtain rfl := (nmEq_iff _ _).1 q3
    obtain rfl := ctsEq_eq _ _ q4
    obtain rfl := ctsEq_eq _ _ q5
    obtain rfl := ctsEq_eq _ _ q6
    refine ⟨(((h0_2.length : Int) - t6).toNat + 1), ?_⟩
    rw [← h]
    exact loop_run (fun s : Int => ⟨[(1, AV.int .i64 t1), (2, AV.ptr [0, 2] 0 0), (6, AV.int .i64 s)], [([0, 2], ⟨true, [], [AV.agg [AV.sl [.int .i64] h0_0, AV.sl [.int .i64] h0_1, AV.sl [.int .i64, .int .i64] h0_2]]⟩)]⟩) (sumE (fun _ : Unit => k (.exit 0) ⟨[], [([0, 2], ⟨true, [], [AV.agg [AV.sl [.int .i64] h0_0, AV.sl [.int .i64] h0_1, AV.sl [.int .i64, .int .i64] h0_2]]⟩)]⟩) (fun p : Int => k .ret ⟨[(4, AV.int .i64 p), (5, AV.bool true)], [([0, 2], ⟨true, [], [AV.agg [AV.sl [.int .i64] h0_0, AV.sl [.int .i64] h0_1, AV.sl [.int .i64, .int .i64] h0_2]]⟩)]⟩)) (st95_0 t1 h0_0 h0_1 h0_2 ce k) _ t6
  · cases h
def q95 (a0_0 : List AV) (a0_1 : List AV) (a0_2 : List AV) (a1 : Int) : Bool := (ro (runW (R95_0 a1 a0_0 a0_1 a0_2) (((a0_2.length : Int) - 0).toNat + 1) 0) false (sumE (fun _ => true) (fun p9 => true)))
def v95_0 (a0_0 : List AV) (a0_1 : List AV) (a0_2 : List AV) (a1 : Int) : Int := (ro (runW (R95_0 a1 a0_0 a0_1 a0_2) (((a0_2.length : Int) - 0).toNat + 1) 0) 0 (sumE (fun _ => 0) (fun p9 => p9)))
def v95_1 (a0_0 : List AV) (a0_1 : List AV) (a0_2 : List AV) (a1 : Int) : Bool := (ro (runW (R95_0 a1 a0_0 a0_1 a0_2) (((a0_2.length : Int) - 0).toNat + 1) 0) false (sumE (fun _ => false) (fun p9 => true)))
theorem e95 (a0_0 : List AV) (a0_1 : List AV) (a0_2 : List AV) (a1 : Int) : funA c95 0 95 [AV.agg [AV.sl [.int .i64] a0_0, AV.sl [.int .i64] a0_1, AV.sl [.int .i64, .int .i64] a0_2], AV.int .i64 a1] = (ro (runW (R95_0 a1 a0_0 a0_1 a0_2) (((a0_2.length : Int) - 0).toNat + 1) 0) none (sumE (fun _ => some (AV.tup [AV.int .i64 0, AV.bool false])) (fun p9 => some (AV.tup [AV.int .i64 p9, AV.bool true])))) := by kernel_rfl
theorem r95 (a0_0 : List AV) (a0_1 : List AV) (a0_2 : List AV) (a1 : Int) (h : q95 a0_0 a0_1 a0_2 a1 = true) : funA c95 0 95 [AV.agg [AV.sl [.int .i64] a0_0, AV.sl [.int .i64] a0_1, AV.sl [.int .i64, .int .i64] a0_2], AV.int .i64 a1] = some (AV.tup [AV.int .i64 (v95_0 a0_0 a0_1 a0_2 a1), AV.bool (v95_1 a0_0 a0_1 a0_2 a1)]) := (e95 a0_0 a0_1 a0_2 a1).trans ((brO (fun o : Option (Unit ⊕ Int) => some (AV.tup [AV.int .i64 (ro o 0 (sumE (fun _ => 0) (fun p9 => p9))), AV.bool (ro o false (sumE (fun _ => false) (fun p9 => true)))])) (brS (fun o : Unit ⊕ Int => some (AV.tup [AV.int .i64 ((sumE (fun _ => 0) (fun p9 => p9)) o), AV.bool ((sumE (fun _ => false) (fun p9 => true)) o)])) (fun _ => (fun _ => rfl)) (fun p9 => (fun _ => rfl)))) h)
def m95 : TModel
  | [.agg [.sl g0 a0_0, .sl g1 a0_1, .sl g2 a0_2], .int .i64 a1] => bif ctsEq g0 ([.int .i64]) && ctsEq g1 ([.int .i64]) && ctsEq g2 ([.int .i64, .int .i64]) then some (q95 a0_0 a0_1 a0_2 a1, AV.tup [AV.int .i64 (v95_0 a0_0 a0_1 a0_2 a1), AV.bool (v95_1 a0_0 a0_1 a0_2 a1)]) else none
  | _ => none
theorem k95 : Known Try.prog 95 := ⟨Try.f95, Try.func95, by kernel_rfl, by kernel_rfl⟩
theorem meets95 : Meets Try.prog 95 m95 := by
  refine meet (f := Try.f95) (l := [(0, sub [1, 0, 1, 0, 0] (body Try.f95))]) (hs := [(95, 0, [1, 2, 6]), (95, 999, [4, 5]), (95, 1000, []), (95, 1001, [1, 2, 6])]) (ts := []) (ws := []) (is := []) (ls := [(95, 0, l95_0)]) (lvl := 0) mixed k95 Try.func95 (by kernel_rfl) (loops_cons ok95_0 noLoop) allT_nil allM_nil noI fun w xs us r hl hv h => ?_
  unfold m95 at h
  split at h
  · rename_i g0 a0_0 g1 a0_1 g2 a0_2 a1
    obtain ⟨hg, h⟩ := bif_pair h
    simp only [Bool.and_eq_true] at hg
    obtain ⟨⟨q0, q1⟩, q2⟩ := hg
    obtain rfl := ctsEq_eq _ _ q0
    obtain rfl := ctsEq_eq _ _ q1
    obtain rfl := ctsEq_eq _ _ q2
    obtain ⟨h1, rfl⟩ := pair_inj h
    exact r95 a0_0 a0_1 a0_2 a1 h1
  · cases h

/-! ### 116 loop.example/g01984/spec.l4Has -/
def F116_0 (t0 : List AV) (t1 : Int) (t5 : Int) : Out (Int) (Unit ⊕ Unit) := (bif decide (t5 < (t0.length : Int)) then (bif (decide (0 ≤ t5) && decide (t5 < (t0.length : Int))) then (bif decide (fI (t0.getD t5.toNat AV.undef) 0 = t1) then .stop (.inr ())
    else .next (IntKind.i64.wrap (t5 + 1)))
   else .fail)
  else .stop (.inl ()))
def R116_0 (t0 : List AV) (t1 : Int) : (Int) → Out (Int) (Unit ⊕ Unit) := fun s : Int => F116_0 t0 t1 s
def l116_0 : LModel := fun _ _ st k => match st with
  | ⟨[(0, .sl g0 t0), (1, .int .i64 t1), (5, .int .i64 t5)], []⟩ => bif ctsEq g0 ([.int .i64]) then ro (runW (R116_0 t0 t1) (((t0.length : Int) - t5).toNat + 1) t5) none (sumE (fun _ : Unit => k (.exit 0) ⟨[], []⟩) (fun _ : Unit => k .ret ⟨[(4, AV.bool true)], []⟩)) else none
  | _ => none
noncomputable def c116 : Cfg := cfg Try.prog [(116, 0, [0, 1, 5]), (116, 999, [4]), (116, 1000, []), (116, 1001, [0, 1, 5])] [] [] [] [(116, 0, l116_0)]
theorem s116_0 (ce : CallE) (t0 : List AV) (t1 : Int) (t5 : Int) (next : St → Option AV) (k : Kont) : stepA (codeA c116 ce [] 116 0 (sub [1, 0, 1, 0, 0] (body Try.f116))) (normA [] [0, 1, 5]) next ⟨[(0, AV.sl [.int .i64] t0), (1, AV.int .i64 t1), (5, AV.int .i64 t5)], []⟩ k = (bif decide (t5 < (t0.length : Int)) then (bif (decide (0 ≤ t5) && decide (t5 < (t0.length : Int))) then (bif decide (fI (t0.getD t5.toNat AV.undef) 0 = t1) then k .ret ⟨[(4, AV.bool true)], []⟩
    else next ⟨[(0, AV.sl [.int .i64] t0), (1, AV.int .i64 t1), (5, AV.int .i64 (IntKind.i64.wrap (t5 + 1)))], []⟩)
   else none)
  else k (.exit 0) ⟨[], []⟩) := by kernel_rfl
theorem st116_0 (t0 : List AV) (t1 : Int) (ce : CallE) (k : Kont) (s : Int) (next : St → Option AV) : stepA (codeA c116 ce [] 116 0 (sub [1, 0, 1, 0, 0] (body Try.f116))) (normA [] [0, 1, 5]) next ((fun s : Int => ⟨[(0, AV.sl [.int .i64] t0), (1, AV.int .i64 t1), (5, AV.int .i64 s)], []⟩) s) k = (R116_0 t0 t1 s).el none (fun s => next ((fun s : Int => ⟨[(0, AV.sl [.int .i64] t0), (1, AV.int .i64 t1), (5, AV.int .i64 s)], []⟩) s)) (sumE (fun _ : Unit => k (.exit 0) ⟨[], []⟩) (fun _ : Unit => k .ret ⟨[(4, AV.bool true)], []⟩)) := (s116_0 ce t0 t1 s next k).trans (by unfold R116_0; unfold F116_0; simp only [el_cond, el_ro, el_sum, el_fail, el_next, el_stop] <;> rfl)
theorem ok116_0 {ce : CallE} : LoopOK c116 ce [] 116 0 (sub [1, 0, 1, 0, 0] (body Try.f116)) := by
  intro m hm st k r h
  obtain rfl : l116_0 = m := Option.some.inj hm
  unfold l116_0 at h
  split at h
  · rename_i g0 t0 t1 t5
    obtain ⟨hg, h⟩ := bif_some h
    have q0 := hg
    obtain rfl := ctsEq_eq _ _ q0
    refine ⟨(((t0.length : Int) - t5).toNat + 1), ?_⟩
    rw [← h]
    exact loop_run (fun s : Int => ⟨[(0, AV.sl [.int .i64] t0), (1, AV.int .i64 t1), (5, AV.int .i64 s)], []⟩) (sumE (fun _ : Unit => k (.exit 0) ⟨[], []⟩) (fun _ : Unit => k .ret ⟨[(4, AV.bool true)], []⟩)) (st116_0 t0 t1 ce k) _ t5
  · cases h
def q116 (a0 : List AV) (a1 : Int) : Bool := (ro (runW (R116_0 a0 a1) (((a0.length : Int) - 0).toNat + 1) 0) false (sumE (fun _ => true) (fun _ => true)))
def v116_0 (a0 : List AV) (a1 : Int) : Bool := (ro (runW (R116_0 a0 a1) (((a0.length : Int) - 0).toNat + 1) 0) false (sumE (fun _ => false) (fun _ => true)))
theorem e116 (a0 : List AV) (a1 : Int) : funA c116 0 116 [AV.sl [.int .i64] a0, AV.int .i64 a1] = (ro (runW (R116_0 a0 a1) (((a0.length : Int) - 0).toNat + 1) 0) none (sumE (fun _ => some (AV.bool false)) (fun _ => some (AV.bool true)))) := by kernel_rfl
theorem r116 (a0 : List AV) (a1 : Int) (h : q116 a0 a1 = true) : funA c116 0 116 [AV.sl [.int .i64] a0, AV.int .i64 a1] = some (AV.bool (v116_0 a0 a1)) := (e116 a0 a1).trans ((brO (fun o : Option (Unit ⊕ Unit) => some (AV.bool (ro o false (sumE (fun _ => false) (fun _ => true))))) (brS (fun o : Unit ⊕ Unit => some (AV.bool ((sumE (fun _ => false) (fun _ => true)) o))) (fun _ => (fun _ => rfl)) (fun _ => (fun _ => rfl)))) h)
def m116 : TModel
  | [.sl g0 a0, .int .i64 a1] => bif ctsEq g0 ([.int .i64]) then some (q116 a0 a1, AV.bool (v116_0 a0 a1)) else none
  | _ => none
theorem k116 : Known Try.prog 116 := ⟨Try.f116, Try.func116, by kernel_rfl, by kernel_rfl⟩
theorem meets116 : Meets Try.prog 116 m116 := by
  refine meet (f := Try.f116) (l := [(0, sub [1, 0, 1, 0, 0] (body Try.f116))]) (hs := [(116, 0, [0, 1, 5]), (116, 999, [4]), (116, 1000, []), (116, 1001, [0, 1, 5])]) (ts := []) (ws := []) (is := []) (ls := [(116, 0, l116_0)]) (lvl := 0) mixed k116 Try.func116 (by kernel_rfl) (loops_cons ok116_0 noLoop) allT_nil allM_nil noI fun w xs us r hl hv h => ?_
  unfold m116 at h
  split at h
  · rename_i g0 a0 a1
    obtain ⟨hg, h⟩ := bif_pair h
    have q0 := hg
    obtain rfl := ctsEq_eq _ _ q0
    obtain ⟨h1, rfl⟩ := pair_inj h
    exact r116 a0 a1 h1
  · cases h

/-! ### 122 loop.example/g01984/spec.l4Pivots -/
def F122_2 (t0 : List AV) (t1 : List AV) (t5 : Int) (h0_0 : Int) (h0_1 : Int) (t7 : Int) : Out (Int) (Unit ⊕ Unit) := (bif decide (t7 < (t0.length : Int)) then (bif (decide (0 ≤ t7) && decide (t7 < (t0.length : Int))) then (bif !(decide (fI (t0.getD t7.toNat AV.undef) 0 < h0_0) == decide (t7 < h0_1)) then .stop (.inr ())
    else .next (IntKind.i64.wrap (t7 + 1)))
   else .fail)
  else .stop (.inl ()))
def R122_2 (t0 : List AV) (t1 : List AV) (t5 : Int) (h0_0 : Int) (h0_1 : Int) : (Int) → Out (Int) (Unit ⊕ Unit) := fun s : Int => F122_2 t0 t1 t5 h0_0 h0_1 s
def l122_2 : LModel := fun _ _ st k => match st with
  | ⟨[(0, .sl g0 t0), (1, .sl g1 t1), (5, .int .i64 t5), (6, .ptr g2 g3 g4), (7, .int .i64 t7)], [(g5, ⟨true, [], [.agg [.int .i64 h0_0, .int .i64 h0_1]]⟩)]⟩ => bif ctsEq g0 ([.int .i64]) && ctsEq g1 ([.int .i64, .int .i64]) && nmEq g2 ([0, 6]) && Nat.beq g3 0 && Nat.beq g4 0 && nmEq g5 ([0, 6]) then ro (runW (R122_2 t0 t1 t5 h0_0 h0_1) (((t0.length : Int) - t7).toNat + 1) t7) none (sumE (fun _ : Unit => k (.exit 2) ⟨[(0, AV.sl [.int .i64] t0), (1, AV.sl [.int .i64, .int .i64] t1), (5, AV.int .i64 t5)], [([0, 6], ⟨true, [], [AV.agg [AV.int .i64 h0_0, AV.int .i64 h0_1]]⟩)]⟩) (fun _ : Unit => k .ret ⟨[(4, AV.bool false)], [([0, 6], ⟨true, [], [AV.agg [AV.int .i64 h0_0, AV.int .i64 h0_1]]⟩)]⟩)) else none
  | _ => none
def F122_0 (t0 : List AV) (t1 : List AV) (t5 : Int) : Out (Int) (Unit ⊕ (Int × Int) ⊕ (Int × Int)) := (bif decide (t5 < (t1.length : Int)) then (bif (decide (0 ≤ t5) && decide (t5 < (t1.length : Int))) then (bif !(v68_0 (fI (t1.getD t5.toNat AV.undef) 0) (-1000) 1000) then .stop (.inr (.inl (fI (t1.getD t5.toNat AV.undef) 0, fI (t1.getD t5.toNat AV.undef) 1)))
    else (bif !(v68_0 (fI (t1.getD t5.toNat AV.undef) 1) 0 (t0.length : Int)) then .stop (.inr (.inl (fI (t1.getD t5.toNat AV.undef) 0, fI (t1.getD t5.toNat AV.undef) 1)))
     else (bif decide (t5 > 0) then (bif (decide (0 ≤ IntKind.i64.wrap (t5 - 1)) && decide (IntKind.i64.wrap (t5 - 1) < (t1.length : Int))) then (bif decide (fI (t1.getD t5.toNat AV.undef) 0 ≤ fI (t1.getD (IntKind.i64.wrap (t5 - 1)).toNat AV.undef) 0) then .stop (.inr (.inl (fI (t1.getD t5.toNat AV.undef) 0, fI (t1.getD t5.toNat AV.undef) 1)))
        else (bif (decide (0 ≤ IntKind.i64.wrap (t5 - 1)) && decide (IntKind.i64.wrap (t5 - 1) < (t1.length : Int))) then (bif decide (fI (t1.getD t5.toNat AV.undef) 1 < fI (t1.getD (IntKind.i64.wrap (t5 - 1)).toNat AV.undef) 1) then .stop (.inr (.inl (fI (t1.getD t5.toNat AV.undef) 0, fI (t1.getD t5.toNat AV.undef) 1)))
          else (ro (runW (R122_2 t0 t1 t5 (fI (t1.getD t5.toNat AV.undef) 0) (fI (t1.getD t5.toNat AV.undef) 1)) (((t0.length : Int) - 0).toNat + 1) 0) .fail (sumE (fun _ => .next (IntKind.i64.wrap (t5 + 1))) (fun _ => .stop (.inr (.inr (fI (t1.getD t5.toNat AV.undef) 0, fI (t1.getD t5.toNat AV.undef) 1)))))))
         else .fail))
       else .fail)
      else (ro (runW (R122_2 t0 t1 t5 (fI (t1.getD t5.toNat AV.undef) 0) (fI (t1.getD t5.toNat AV.undef) 1)) (((t0.length : Int) - 0).toNat + 1) 0) .fail (sumE (fun _ => .next (IntKind.i64.wrap (t5 + 1))) (fun _ => .stop (.inr (.inr (fI (t1.getD t5.toNat AV.undef) 0, fI (t1.getD t5.toNat AV.undef) 1)))))))))
   else .fail)
  else .stop (.inl ()))
def R122_0 (t0 : List AV) (t1 : List AV) : (Int) → Out (Int) (Unit ⊕ (Int × Int) ⊕ (Int × Int)) := fun s : Int => F122_0 t0 t1 s
def l122_0 : LModel := fun _ _ st k => match st with
  | ⟨[(0, .sl g0 t0), (1, .sl g1 t1), (5, .int .i64 t5)], []⟩ => bif ctsEq g0 ([.int .i64]) && ctsEq g1 ([.int .i64, .int .i64]) then ro (runW (R122_0 t0 t1) (((t1.length : Int) - t5).toNat + 1) t5) none (sumE (fun _ : Unit => k (.exit 0) ⟨[], []⟩) (sumE (fun p : Int × Int => k .ret ⟨[(4, AV.bool false)], [([1, 6], ⟨true, [], [AV.agg [AV.int .i64 p.1, AV.int .i64 p.2]]⟩)]⟩) (fun p : Int × Int => k .ret ⟨[(4, AV.bool false)], [([0, 6], ⟨true, [], [AV.agg [AV.int .i64 p.1, AV.int .i64 p.2]]⟩)]⟩))) else none
  | _ => none
noncomputable def c122 : Cfg := cfg Try.prog [(122, 0, [0, 1, 5]), (122, 2, [0, 1, 5, 6, 7]), (122, 999, [4]), (122, 1000, []), (122, 1001, [0, 1, 5]), (122, 1002, [0, 1, 5]), (122, 1003, [0, 1, 5, 6, 7])] [(68, m68)] [] [] [(122, 0, l122_0), (122, 2, l122_2)]
theorem s122_2 (ce : CallE) (t0 : List AV) (t1 : List AV) (t5 : Int) (t7 : Int) (h0_0 : Int) (h0_1 : Int) (next : St → Option AV) (k : Kont) : stepA (codeA c122 ce [] 122 2 (sub [1, 0, 1, 0, 0, 1, 0, 0, 1, 1, 1, 0, 0] (body Try.f122))) (normA [] [0, 1, 5, 6, 7]) next ⟨[(0, AV.sl [.int .i64] t0), (1, AV.sl [.int .i64, .int .i64] t1), (5, AV.int .i64 t5), (6, AV.ptr [0, 6] 0 0), (7, AV.int .i64 t7)], [([0, 6], ⟨true, [], [AV.agg [AV.int .i64 h0_0, AV.int .i64 h0_1]]⟩)]⟩ k = (bif decide (t7 < (t0.length : Int)) then (bif (decide (0 ≤ t7) && decide (t7 < (t0.length : Int))) then (bif !(decide (fI (t0.getD t7.toNat AV.undef) 0 < h0_0) == decide (t7 < h0_1)) then k .ret ⟨[(4, AV.bool false)], [([0, 6], ⟨true, [], [AV.agg [AV.int .i64 h0_0, AV.int .i64 h0_1]]⟩)]⟩
    else next ⟨[(0, AV.sl [.int .i64] t0), (1, AV.sl [.int .i64, .int .i64] t1), (5, AV.int .i64 t5), (6, AV.ptr [0, 6] 0 0), (7, AV.int .i64 (IntKind.i64.wrap (t7 + 1)))], [([0, 6], ⟨true, [], [AV.agg [AV.int .i64 h0_0, AV.int .i64 h0_1]]⟩)]⟩)
   else none)
  else k (.exit 2) ⟨[(0, AV.sl [.int .i64] t0), (1, AV.sl [.int .i64, .int .i64] t1), (5, AV.int .i64 t5)], [([0, 6], ⟨true, [], [AV.agg [AV.int .i64 h0_0, AV.int .i64 h0_1]]⟩)]⟩) := by kernel_rfl
theorem st122_2 (t0 : List AV) (t1 : List AV) (t5 : Int) (h0_0 : Int) (h0_1 : Int) (ce : CallE) (k : Kont) (s : Int) (next : St → Option AV) : stepA (codeA c122 ce [] 122 2 (sub [1, 0, 1, 0, 0, 1, 0, 0, 1, 1, 1, 0, 0] (body Try.f122))) (normA [] [0, 1, 5, 6, 7]) next ((fun s : Int => ⟨[(0, AV.sl [.int .i64] t0), (1, AV.sl [.int .i64, .int .i64] t1), (5, AV.int .i64 t5), (6, AV.ptr [0, 6] 0 0), (7, AV.int .i64 s)], [([0, 6], ⟨true, [], [AV.agg [AV.int .i64 h0_0, AV.int .i64 h0_1]]⟩)]⟩) s) k = (R122_2 t0 t1 t5 h0_0 h0_1 s).el none (fun s => next ((fun s : Int => ⟨[(0, AV.sl [.int .i64] t0), (1, AV.sl [.int .i64, .int .i64] t1), (5, AV.int .i64 t5), (6, AV.ptr [0, 6] 0 0), (7, AV.int .i64 s)], [([0, 6], ⟨true, [], [AV.agg [AV.int .i64 h0_0, AV.int .i64 h0_1]]⟩)]⟩) s)) (sumE (fun _ : Unit => k (.exit 2) ⟨[(0, AV.sl [.int .i64] t0), (1, AV.sl [.int .i64, .int .i64] t1), (5, AV.int .i64 t5)], [([0, 6], ⟨true, [], [AV.agg [AV.int .i64 h0_0, AV.int .i64 h0_1]]⟩)]⟩) (fun _ : Unit => k .ret ⟨[(4, AV.bool false)], [([0, 6], ⟨true, [], [AV.agg [AV.int .i64 h0_0, AV.int .i64 h0_1]]⟩)]⟩)) := (s122_2 ce t0 t1 t5 s h0_0 h0_1 next k).trans (by unfold R122_2; unfold F122_2; simp only [el_cond, el_ro, el_sum, el_fail, el_next, el_stop] <;> rfl)
theorem ok122_2 {ce : CallE} : LoopOK c122 ce [] 122 2 (sub [1, 0, 1, 0, 0, 1, 0, 0, 1, 1, 1, 0, 0] (body Try.f122)) := by
  intro m hm st k r h
  obtain rfl : l122_2 = m := Option.some.inj hm
  unfold l122_2 at h
  split at h
  · rename_i g0 t0 g1 t1 t5 g2 g3 g4 t7 g5 h0_0 h0_1
    obtain ⟨hg, h⟩ := bif_some h
    simp only [Bool.and_eq_true] at hg
    obtain ⟨⟨⟨⟨⟨q0, q1⟩, q2⟩, q3⟩, q4⟩, q5⟩ := hg
    obtain rfl := ctsEq_eq _ _ q0
    obtain rfl := ctsEq_eq _ _ q1
    obtain rfl := (nmEq_iff _ _).1 q2
    obtain rfl := Nat.eq_of_beq_eq_true q3
    obtain rfl := Nat.eq_of_beq_eq_true q4
    obtain rfl := (nmEq_iff _ _).1 q5
    refine ⟨(((t0.length : Int) - t7).toNat + 1), ?_⟩
    rw [← h]
    exact loop_run (fun s : Int => ⟨[(0, AV.sl [.int .i64] t0), (1, AV.sl [.int .i64, .int .i64] t1), (5, AV.int .i64 t5), (6, AV.ptr [0, 6] 0 0), (7, AV.int .i64 s)], [([0, 6], ⟨true, [], [AV.agg [AV.int .i64 h0_0, AV.int .i64 h0_1]]⟩)]⟩) (sumE (fun _ : Unit => k (.exit 2) ⟨[(0, AV.sl [.int .i64] t0), (1, AV.sl [.int .i64, .int .i64] t1), (5, AV.int .i64 t5)], [([0, 6], ⟨true, [], [AV.agg [AV.int .i64 h0_0, AV.int .i64 h0_1]]⟩)]⟩) (fun _ : Unit => k .ret ⟨[(4, AV.bool false)], [([0, 6], ⟨true, [], [AV.agg [AV.int .i64 h0_0, AV.int .i64 h0_1]]⟩)]⟩)) (st122_2 t0 t1 t5 h0_0 h0_1 ce k) _ t7
  · cases h
theorem s122_0 (ce : CallE) (t0 : List AV) (t1 : List AV) (t5 : Int) (next : St → Option AV) (k : Kont) : stepA (codeA c122 ce [] 122 0 (sub [1, 0, 1, 0, 0] (body Try.f122))) (normA [] [0, 1, 5]) next ⟨[(0, AV.sl [.int .i64] t0), (1, AV.sl [.int .i64, .int .i64] t1), (5, AV.int .i64 t5)], []⟩ k = (bif decide (t5 < (t1.length : Int)) then (bif (decide (0 ≤ t5) && decide (t5 < (t1.length : Int))) then (bif !(v68_0 (fI (t1.getD t5.toNat AV.undef) 0) (-1000) 1000) then k .ret ⟨[(4, AV.bool false)], [([1, 6], ⟨true, [], [AV.agg [AV.int .i64 (fI (t1.getD t5.toNat AV.undef) 0), AV.int .i64 (fI (t1.getD t5.toNat AV.undef) 1)]]⟩)]⟩
    else (bif !(v68_0 (fI (t1.getD t5.toNat AV.undef) 1) 0 (t0.length : Int)) then k .ret ⟨[(4, AV.bool false)], [([1, 6], ⟨true, [], [AV.agg [AV.int .i64 (fI (t1.getD t5.toNat AV.undef) 0), AV.int .i64 (fI (t1.getD t5.toNat AV.undef) 1)]]⟩)]⟩
     else (bif decide (t5 > 0) then (bif (decide (0 ≤ IntKind.i64.wrap (t5 - 1)) && decide (IntKind.i64.wrap (t5 - 1) < (t1.length : Int))) then (bif decide (fI (t1.getD t5.toNat AV.undef) 0 ≤ fI (t1.getD (IntKind.i64.wrap (t5 - 1)).toNat AV.undef) 0) then k .ret ⟨[(4, AV.bool false)], [([1, 6], ⟨true, [], [AV.agg [AV.int .i64 (fI (t1.getD t5.toNat AV.undef) 0), AV.int .i64 (fI (t1.getD t5.toNat AV.undef) 1)]]⟩)]⟩
        else (bif (decide (0 ≤ IntKind.i64.wrap (t5 - 1)) && decide (IntKind.i64.wrap (t5 - 1) < (t1.length : Int))) then (bif decide (fI (t1.getD t5.toNat AV.undef) 1 < fI (t1.getD (IntKind.i64.wrap (t5 - 1)).toNat AV.undef) 1) then k .ret ⟨[(4, AV.bool false)], [([1, 6], ⟨true, [], [AV.agg [AV.int .i64 (fI (t1.getD t5.toNat AV.undef) 0), AV.int .i64 (fI (t1.getD t5.toNat AV.undef) 1)]]⟩)]⟩
          else (ro (runW (R122_2 t0 t1 t5 (fI (t1.getD t5.toNat AV.undef) 0) (fI (t1.getD t5.toNat AV.undef) 1)) (((t0.length : Int) - 0).toNat + 1) 0) none (sumE (fun _ => next ⟨[(0, AV.sl [.int .i64] t0), (1, AV.sl [.int .i64, .int .i64] t1), (5, AV.int .i64 (IntKind.i64.wrap (t5 + 1)))], []⟩) (fun _ => k .ret ⟨[(4, AV.bool false)], [([0, 6], ⟨true, [], [AV.agg [AV.int .i64 (fI (t1.getD t5.toNat AV.undef) 0), AV.int .i64 (fI (t1.getD t5.toNat AV.undef) 1)]]⟩)]⟩))))
         else none))
       else none)
      else (ro (runW (R122_2 t0 t1 t5 (fI (t1.getD t5.toNat AV.undef) 0) (fI (t1.getD t5.toNat AV.undef) 1)) (((t0.length : Int) - 0).toNat + 1) 0) none (sumE (fun _ => next ⟨[(0, AV.sl [.int .i64] t0), (1, AV.sl [.int .i64, .int .i64] t1), (5, AV.int .i64 (IntKind.i64.wrap (t5 + 1)))], []⟩) (fun _ => k .ret ⟨[(4, AV.bool false)], [([0, 6], ⟨true, [], [AV.agg [AV.int .i64 (fI (t1.getD t5.toNat AV.undef) 0), AV.int .i64 (fI (t1.getD t5.toNat AV.undef) 1)]]⟩)]⟩))))))
   else none)
  else k (.exit 0) ⟨[], []⟩) := by kernel_rfl
theorem st122_0 (t0 : List AV) (t1 : List AV) (ce : CallE) (k : Kont) (s : Int) (next : St → Option AV) : stepA (codeA c122 ce [] 122 0 (sub [1, 0, 1, 0, 0] (body Try.f122))) (normA [] [0, 1, 5]) next ((fun s : Int => ⟨[(0, AV.sl [.int .i64] t0), (1, AV.sl [.int .i64, .int .i64] t1), (5, AV.int .i64 s)], []⟩) s) k = (R122_0 t0 t1 s).el none (fun s => next ((fun s : Int => ⟨[(0, AV.sl [.int .i64] t0), (1, AV.sl [.int .i64, .int .i64] t1), (5, AV.int .i64 s)], []⟩) s)) (sumE (fun _ : Unit => k (.exit 0) ⟨[], []⟩) (sumE (fun p : Int × Int => k .ret ⟨[(4, AV.bool false)], [([1, 6], ⟨true, [], [AV.agg [AV.int .i64 p.1, AV.int .i64 p.2]]⟩)]⟩) (fun p : Int × Int => k .ret ⟨[(4, AV.bool false)], [([0, 6], ⟨true, [], [AV.agg [AV.int .i64 p.1, AV.int .i64 p.2]]⟩)]⟩))) := (s122_0 ce t0 t1 s next k).trans (by unfold R122_0; unfold F122_0; simp only [el_cond, el_ro, el_sum, el_fail, el_next, el_stop] <;> rfl)
theorem ok122_0 {ce : CallE} : LoopOK c122 ce [] 122 0 (sub [1, 0, 1, 0, 0] (body Try.f122)) := by
  intro m hm st k r h
  obtain rfl : l122_0 = m := Option.some.inj hm
  unfold l122_0 at h
  split at h
  · rename_i g0 t0 g1 t1 t5
    obtain ⟨hg, h⟩ := bif_some h
    simp only [Bool.and_eq_true] at hg
    obtain ⟨q0, q1⟩ := hg
    obtain rfl := ctsEq_eq _ _ q0
    obtain rfl := ctsEq_eq _ _ q1
    refine ⟨(((t1.length : Int) - t5).toNat + 1), ?_⟩
    rw [← h]
    exact loop_run (fun s : Int => ⟨[(0, AV.sl [.int .i64] t0), (1, AV.sl [.int .i64, .int .i64] t1), (5, AV.int .i64 s)], []⟩) (sumE (fun _ : Unit => k (.exit 0) ⟨[], []⟩) (sumE (fun p : Int × Int => k .ret ⟨[(4, AV.bool false)], [([1, 6], ⟨true, [], [AV.agg [AV.int .i64 p.1, AV.int .i64 p.2]]⟩)]⟩) (fun p : Int × Int => k .ret ⟨[(4, AV.bool false)], [([0, 6], ⟨true, [], [AV.agg [AV.int .i64 p.1, AV.int .i64 p.2]]⟩)]⟩))) (st122_0 t0 t1 ce k) _ t5
  · cases h
def q122 (a0 : List AV) (a1 : List AV) : Bool := (ro (runW (R122_0 a0 a1) (((a1.length : Int) - 0).toNat + 1) 0) false (sumE (fun _ => true) (sumE (fun p18 => true) (fun p19 => true))))
def v122_0 (a0 : List AV) (a1 : List AV) : Bool := (ro (runW (R122_0 a0 a1) (((a1.length : Int) - 0).toNat + 1) 0) false (sumE (fun _ => true) (sumE (fun p18 => false) (fun p19 => false))))
theorem e122 (a0 : List AV) (a1 : List AV) : funA c122 0 122 [AV.sl [.int .i64] a0, AV.sl [.int .i64, .int .i64] a1] = (ro (runW (R122_0 a0 a1) (((a1.length : Int) - 0).toNat + 1) 0) none (sumE (fun _ => some (AV.bool true)) (sumE (fun p18 => some (AV.bool false)) (fun p19 => some (AV.bool false))))) := by kernel_rfl
theorem r122 (a0 : List AV) (a1 : List AV) (h : q122 a0 a1 = true) : funA c122 0 122 [AV.sl [.int .i64] a0, AV.sl [.int .i64, .int .i64] a1] = some (AV.bool (v122_0 a0 a1)) := (e122 a0 a1).trans ((brO (fun o : Option (Unit ⊕ (Int × Int) ⊕ (Int × Int)) => some (AV.bool (ro o false (sumE (fun _ => true) (sumE (fun p18 => false) (fun p19 => false)))))) (brS (fun o : Unit ⊕ (Int × Int) ⊕ (Int × Int) => some (AV.bool ((sumE (fun _ => true) (sumE (fun p18 => false) (fun p19 => false))) o))) (fun _ => (fun _ => rfl)) (brS (fun o : (Int × Int) ⊕ (Int × Int) => some (AV.bool ((sumE (fun p18 => false) (fun p19 => false)) o))) (fun p18 => (fun _ => rfl)) (fun p19 => (fun _ => rfl))))) h)
def m122 : TModel
  | [.sl g0 a0, .sl g1 a1] => bif ctsEq g0 ([.int .i64]) && ctsEq g1 ([.int .i64, .int .i64]) then some (q122 a0 a1, AV.bool (v122_0 a0 a1)) else none
  | _ => none
theorem k122 : Known Try.prog 122 := ⟨Try.f122, Try.func122, by kernel_rfl, by kernel_rfl⟩
theorem meets122 : Meets Try.prog 122 m122 := by
  refine meet (f := Try.f122) (l := [(0, sub [1, 0, 1, 0, 0] (body Try.f122)), (2, sub [1, 0, 1, 0, 0, 1, 0, 0, 1, 1, 1, 0, 0] (body Try.f122))]) (hs := [(122, 0, [0, 1, 5]), (122, 2, [0, 1, 5, 6, 7]), (122, 999, [4]), (122, 1000, []), (122, 1001, [0, 1, 5]), (122, 1002, [0, 1, 5]), (122, 1003, [0, 1, 5, 6, 7])]) (ts := [(68, m68)]) (ws := []) (is := []) (ls := [(122, 0, l122_0), (122, 2, l122_2)]) (lvl := 0) mixed k122 Try.func122 (by kernel_rfl) (loops_cons ok122_0 (loops_cons ok122_2 noLoop)) (allT_cons meets68 allT_nil) allM_nil noI fun w xs us r hl hv h => ?_
  unfold m122 at h
  split at h
  · rename_i g0 a0 g1 a1
    obtain ⟨hg, h⟩ := bif_pair h
    simp only [Bool.and_eq_true] at hg
    obtain ⟨q0, q1⟩ := hg
    obtain rfl := ctsEq_eq _ _ q0
    obtain rfl := ctsEq_eq _ _ q1
    obtain ⟨h1, rfl⟩ := pair_inj h
    exact r122 a0 a1 h1
  · cases h

/-! ### 67 loop.example/g01984/spec.IsCracker -/
def F67_0 (h0_0 : List AV) (h0_1 : List AV) (h0_2 : List AV) (t3 : Int) : Out (Int) (Unit ⊕ Unit) := (bif decide (t3 < (h0_1.length : Int)) then (bif (decide (0 ≤ t3) && decide (t3 < (h0_1.length : Int))) then (bif !(v68_0 (fI (h0_1.getD t3.toNat AV.undef) 0) 0 999) then .stop (.inr ())
    else (bif (decide (0 ≤ 0) && decide (0 ≤ t3) && decide (t3 ≤ (h0_1.length : Int))) then (bif (decide (0 ≤ t3) && decide (t3 < (h0_1.length : Int))) then (bif q116 ((h0_1.take (Int.toNat t3)).drop (Int.toNat 0)) (fI (h0_1.getD t3.toNat AV.undef) 0) then (bif (v116_0 ((h0_1.take (Int.toNat t3)).drop (Int.toNat 0)) (fI (h0_1.getD t3.toNat AV.undef) 0)) then .stop (.inr ())
        else .next (IntKind.i64.wrap (t3 + 1)))
       else .fail)
      else .fail)
     else .fail))
   else .fail)
  else .stop (.inl ()))
def R67_0 (h0_0 : List AV) (h0_1 : List AV) (h0_2 : List AV) : (Int) → Out (Int) (Unit ⊕ Unit) := fun s : Int => F67_0 h0_0 h0_1 h0_2 s
def l67_0 : LModel := fun _ _ st k => match st with
  | ⟨[(1, .ptr g0 g1 g2), (3, .int .i64 t3)], [(g3, ⟨true, [], [.agg [.sl g4 h0_0, .sl g5 h0_1, .sl g6 h0_2]]⟩)]⟩ => bif nmEq g0 ([0, 1]) && Nat.beq g1 0 && Nat.beq g2 0 && nmEq g3 ([0, 1]) && ctsEq g4 ([.int .i64]) && ctsEq g5 ([.int .i64]) && ctsEq g6 ([.int .i64, .int .i64]) then ro (runW (R67_0 h0_0 h0_1 h0_2) (((h0_1.length : Int) - t3).toNat + 1) t3) none (sumE (fun _ : Unit => k (.exit 0) ⟨[(1, AV.ptr [0, 1] 0 0)], [([0, 1], ⟨true, [], [AV.agg [AV.sl [.int .i64] h0_0, AV.sl [.int .i64] h0_1, AV.sl [.int .i64, .int .i64] h0_2]]⟩)]⟩) (fun _ : Unit => k .ret ⟨[(2, AV.bool false)], [([0, 1], ⟨true, [], [AV.agg [AV.sl [.int .i64] h0_0, AV.sl [.int .i64] h0_1, AV.sl [.int .i64, .int .i64] h0_2]]⟩)]⟩)) else none
  | _ => none
noncomputable def c67 : Cfg := cfg Try.prog [(67, 0, [1, 3]), (67, 999, [2]), (67, 1000, [1]), (67, 1001, [1, 3])] [(68, m68), (103, m103), (116, m116), (122, m122)] [] [] [(67, 0, l67_0)]
theorem s67_0 (ce : CallE) (t3 : Int) (h0_0 : List AV) (h0_1 : List AV) (h0_2 : List AV) (next : St → Option AV) (k : Kont) : stepA (codeA c67 ce [] 67 0 (sub [1, 1, 0, 1, 0, 0] (body Try.f67))) (normA [] [1, 3]) next ⟨[(1, AV.ptr [0, 1] 0 0), (3, AV.int .i64 t3)], [([0, 1], ⟨true, [], [AV.agg [AV.sl [.int .i64] h0_0, AV.sl [.int .i64] h0_1, AV.sl [.int .i64, .int .i64] h0_2]]⟩)]⟩ k = (bif decide (t3 < (h0_1.length : Int)) then (bif (decide (0 ≤ t3) && decide (t3 < (h0_1.length : Int))) then (bif !(v68_0 (fI (h0_1.getD t3.toNat AV.undef) 0) 0 999) then k .ret ⟨[(2, AV.bool false)], [([0, 1], ⟨true, [], [AV.agg [AV.sl [.int .i64] h0_0, AV.sl [.int .i64] h0_1, AV.sl [.int .i64, .int .i64] h0_2]]⟩)]⟩
    else (bif (decide (0 ≤ 0) && decide (0 ≤ t3) && decide (t3 ≤ (h0_1.length : Int))) then (bif (decide (0 ≤ t3) && decide (t3 < (h0_1.length : Int))) then (bif q116 ((h0_1.take (Int.toNat t3)).drop (Int.toNat 0)) (fI (h0_1.getD t3.toNat AV.undef) 0) then (bif (v116_0 ((h0_1.take (Int.toNat t3)).drop (Int.toNat 0)) (fI (h0_1.getD t3.toNat AV.undef) 0)) then k .ret ⟨[(2, AV.bool false)], [([0, 1], ⟨true, [], [AV.agg [AV.sl [.int .i64] h0_0, AV.sl [.int .i64] h0_1, AV.sl [.int .i64, .int .i64] h0_2]]⟩)]⟩
        else next ⟨[(1, AV.ptr [0, 1] 0 0), (3, AV.int .i64 (IntKind.i64.wrap (t3 + 1)))], [([0, 1], ⟨true, [], [AV.agg [AV.sl [.int .i64] h0_0, AV.sl [.int .i64] h0_1, AV.sl [.int .i64, .int .i64] h0_2]]⟩)]⟩)
       else none)
      else none)
     else none))
   else none)
  else k (.exit 0) ⟨[(1, AV.ptr [0, 1] 0 0)], [([0, 1], ⟨true, [], [AV.agg [AV.sl [.int .i64] h0_0, AV.sl [.int .i64] h0_1, AV.sl [.int .i64, .int .i64] h0_2]]⟩)]⟩) := by kernel_rfl
theorem st67_0 (h0_0 : List AV) (h0_1 : List AV) (h0_2 : List AV) (ce : CallE) (k : Kont) (s : Int) (next : St → Option AV) : stepA (codeA c67 ce [] 67 0 (sub [1, 1, 0, 1, 0, 0] (body Try.f67))) (normA [] [1, 3]) next ((fun s : Int => ⟨[(1, AV.ptr [0, 1] 0 0), (3, AV.int .i64 s)], [([0, 1], ⟨true, [], [AV.agg [AV.sl [.int .i64] h0_0, AV.sl [.int .i64] h0_1, AV.sl [.int .i64, .int .i64] h0_2]]⟩)]⟩) s) k = (R67_0 h0_0 h0_1 h0_2 s).el none (fun s => next ((fun s : Int => ⟨[(1, AV.ptr [0, 1] 0 0), (3, AV.int .i64 s)], [([0, 1], ⟨true, [], [AV.agg [AV.sl [.int .i64] h0_0, AV.sl [.int .i64] h0_1, AV.sl [.int .i64, .int .i64] h0_2]]⟩)]⟩) s)) (sumE (fun _ : Unit => k (.exit 0) ⟨[(1, AV.ptr [0, 1] 0 0)], [([0, 1], ⟨true, [], [AV.agg [AV.sl [.int .i64] h0_0, AV.sl [.int .i64] h0_1, AV.sl [.int .i64, .int .i64] h0_2]]⟩)]⟩) (fun _ : Unit => k .ret ⟨[(2, AV.bool false)], [([0, 1], ⟨true, [], [AV.agg [AV.sl [.int .i64] h0_0, AV.sl [.int .i64] h0_1, AV.sl [.int .i64, .int .i64] h0_2]]⟩)]⟩)) := (s67_0 ce s h0_0 h0_1 h0_2 next k).trans (by unfold R67_0; unfold F67_0; simp only [el_cond, el_ro, el_sum, el_fail, el_next, el_stop] <;> rfl)
theorem ok67_0 {ce : CallE} : LoopOK c67 ce [] 67 0 (sub [1, 1, 0, 1, 0, 0] (body Try.f67)) := by
  intro m hm st k r h
  obtain rfl : l67_0 = m := Option.some.inj hm
  unfold l67_0 at h
  split at h
  · rename_i g0 g1 g2 t3 g3 g4 h0_0 g5 h0_1 g6 h0_2
    obtain ⟨hg, h⟩ := bif_some h
    simp only [Bool.and_eq_true] at hg
    obtain ⟨⟨⟨⟨⟨⟨q0, q1⟩, q2⟩, q3⟩, q4⟩, q5⟩, q6⟩ := hg
    obtain rfl := (nmEq_iff _ _).1 q0
    obtain rfl := Nat.eq_of_beq_eq_true q1
    obtain rfl := Nat.eq_of_beq_eq_true q2
    obtain rfl := (nmEq_iff _ _).1 q3
    obtain rfl := ctsEq_eq _ _ q4
    obtain rfl := ctsEq_eq _ _ q5
    obtain rfl := ctsEq_eq _ _ q6
    refine ⟨(((h0_1.length : Int) - t3).toNat + 1), ?_⟩
    rw [← h]
    exact loop_run (fun s : Int => ⟨[(1, AV.ptr [0, 1] 0 0), (3, AV.int .i64 s)], [([0, 1], ⟨true, [], [AV.agg [AV.sl [.int .i64] h0_0, AV.sl [.int .i64] h0_1, AV.sl [.int .i64, .int .i64] h0_2]]⟩)]⟩) (sumE (fun _ : Unit => k (.exit 0) ⟨[(1, AV.ptr [0, 1] 0 0)], [([0, 1], ⟨true, [], [AV.agg [AV.sl [.int .i64] h0_0, AV.sl [.int .i64] h0_1, AV.sl [.int .i64, .int .i64] h0_2]]⟩)]⟩) (fun _ : Unit => k .ret ⟨[(2, AV.bool false)], [([0, 1], ⟨true, [], [AV.agg [AV.sl [.int .i64] h0_0, AV.sl [.int .i64] h0_1, AV.sl [.int .i64, .int .i64] h0_2]]⟩)]⟩)) (st67_0 h0_0 h0_1 h0_2 ce k) _ t3
  · cases h
def q67 (a0_0 : List AV) (a0_1 : List AV) (a0_2 : List AV) : Bool := (q103 a0_0 && (bif !(v103_0 a0_0) then true else (bif !decide ((a0_1.length : Int) = (a0_0.length : Int)) then true else (ro (runW (R67_0 a0_0 a0_1 a0_2) (((a0_1.length : Int) - 0).toNat + 1) 0) false (sumE (fun _ => q122 a0_0 a0_2) (fun _ => true))))))
def v67_0 (a0_0 : List AV) (a0_1 : List AV) (a0_2 : List AV) : Bool := (bif !(v103_0 a0_0) then false else (bif !decide ((a0_1.length : Int) = (a0_0.length : Int)) then false else (ro (runW (R67_0 a0_0 a0_1 a0_2) (((a0_1.length : Int) - 0).toNat + 1) 0) false (sumE (fun _ => (v122_0 a0_0 a0_2)) (fun _ => false)))))
theorem e67 (a0_0 : List AV) (a0_1 : List AV) (a0_2 : List AV) : funA c67 0 67 [AV.agg [AV.sl [.int .i64] a0_0, AV.sl [.int .i64] a0_1, AV.sl [.int .i64, .int .i64] a0_2]] = (bif q103 a0_0 then (bif !(v103_0 a0_0) then some (AV.bool false)
   else (bif !decide ((a0_1.length : Int) = (a0_0.length : Int)) then some (AV.bool false)
    else (ro (runW (R67_0 a0_0 a0_1 a0_2) (((a0_1.length : Int) - 0).toNat + 1) 0) none (sumE (fun _ => (bif q122 a0_0 a0_2 then some (AV.bool (v122_0 a0_0 a0_2))
      else none)) (fun _ => some (AV.bool false))))))
  else none) := by kernel_rfl
theorem r67 (a0_0 : List AV) (a0_1 : List AV) (a0_2 : List AV) (h : q67 a0_0 a0_1 a0_2 = true) : funA c67 0 67 [AV.agg [AV.sl [.int .i64] a0_0, AV.sl [.int .i64] a0_1, AV.sl [.int .i64, .int .i64] a0_2]] = some (AV.bool (v67_0 a0_0 a0_1 a0_2)) := (e67 a0_0 a0_1 a0_2).trans ((brL (br (fun b => some (AV.bool (bif b then false else (bif !decide ((a0_1.length : Int) = (a0_0.length : Int)) then false else (ro (runW (R67_0 a0_0 a0_1 a0_2) (((a0_1.length : Int) - 0).toNat + 1) 0) false (sumE (fun _ => (v122_0 a0_0 a0_2)) (fun _ => false))))))) (fun _ => rfl) (br (fun b => some (AV.bool (bif b then false else (ro (runW (R67_0 a0_0 a0_1 a0_2) (((a0_1.length : Int) - 0).toNat + 1) 0) false (sumE (fun _ => (v122_0 a0_0 a0_2)) (fun _ => false)))))) (fun _ => rfl) (brO (fun o : Option (Unit ⊕ Unit) => some (AV.bool (ro o false (sumE (fun _ => (v122_0 a0_0 a0_2)) (fun _ => false))))) (brS (fun o : Unit ⊕ Unit => some (AV.bool ((sumE (fun _ => (v122_0 a0_0 a0_2)) (fun _ => false)) o))) (fun _ => (brL1 (fun _ => rfl))) (fun _ => (fun _ => rfl))))))) h)
def m67 : TModel
  | [.agg [.sl g0 a0_0, .sl g1 a0_1, .sl g2 a0_2]] => bif ctsEq g0 ([.int .i64]) && ctsEq g1 ([.int .i64]) && ctsEq g2 ([.int .i64, .int .i64]) then some (q67 a0_0 a0_1 a0_2, AV.bool (v67_0 a0_0 a0_1 a0_2)) else none
  | _ => none
theorem k67 : Known Try.prog 67 := ⟨Try.f67, Try.func67, by kernel_rfl, by kernel_rfl⟩
theorem meets67 : Meets Try.prog 67 m67 := by
  refine meet (f := Try.f67) (l := [(0, sub [1, 1, 0, 1, 0, 0] (body Try.f67))]) (hs := [(67, 0, [1, 3]), (67, 999, [2]), (67, 1000, [1]), (67, 1001, [1, 3])]) (ts := [(68, m68), (103, m103), (116, m116), (122, m122)]) (ws := []) (is := []) (ls := [(67, 0, l67_0)]) (lvl := 0) mixed k67 Try.func67 (by kernel_rfl) (loops_cons ok67_0 noLoop) (allT_cons meets68 (allT_cons meets103 (allT_cons meets116 (allT_cons meets122 allT_nil)))) allM_nil noI fun w xs us r hl hv h => ?_
  unfold m67 at h
  split at h
  · rename_i g0 a0_0 g1 a0_1 g2 a0_2
    obtain ⟨hg, h⟩ := bif_pair h
    simp only [Bool.and_eq_true] at hg
    obtain ⟨⟨q0, q1⟩, q2⟩ := hg
    obtain rfl := ctsEq_eq _ _ q0
    obtain rfl := ctsEq_eq _ _ q1
    obtain rfl := ctsEq_eq _ _ q2
    obtain ⟨h1, rfl⟩ := pair_inj h
    exact r67 a0_0 a0_1 a0_2 h1
  · cases h

/-! ### 127 loop.example/g01984/spec.l4Copy -/
noncomputable def c127 : Cfg := cfg Try.prog [(127, 999, [2])] [] [] [] []
def q127 (a0_0 : List AV) (a0_1 : List AV) (a0_2 : List AV) : Bool := ((decide ((([] : List AV).length + a0_0.length) * 8 ≤ 140737488355328) && decide ((([] : List AV).length + a0_0.length) ≤ 140737488355328)) && ((decide ((([] : List AV).length + a0_1.length) * 8 ≤ 140737488355328) && decide ((([] : List AV).length + a0_1.length) ≤ 140737488355328)) && (decide ((([] : List AV).length + a0_2.length) * 16 ≤ 140737488355328) && decide ((([] : List AV).length + a0_2.length) ≤ 140737488355328))))
def v127_0 (a0_0 : List AV) (a0_1 : List AV) (a0_2 : List AV) : List AV := ([] : List AV) ++ a0_0
def v127_1 (a0_0 : List AV) (a0_1 : List AV) (a0_2 : List AV) : List AV := ([] : List AV) ++ a0_1
def v127_2 (a0_0 : List AV) (a0_1 : List AV) (a0_2 : List AV) : List AV := ([] : List AV) ++ a0_2
theorem e127 (a0_0 : List AV) (a0_1 : List AV) (a0_2 : List AV) : funA c127 0 127 [AV.agg [AV.sl [.int .i64] a0_0, AV.sl [.int .i64] a0_1, AV.sl [.int .i64, .int .i64] a0_2]] = (bif (decide ((([] : List AV).length + a0_0.length) * 8 ≤ 140737488355328) && decide ((([] : List AV).length + a0_0.length) ≤ 140737488355328)) then (bif (decide ((([] : List AV).length + a0_1.length) * 8 ≤ 140737488355328) && decide ((([] : List AV).length + a0_1.length) ≤ 140737488355328)) then (bif (decide ((([] : List AV).length + a0_2.length) * 16 ≤ 140737488355328) && decide ((([] : List AV).length + a0_2.length) ≤ 140737488355328)) then some (AV.agg [AV.fl [.int .i64] (([] : List AV) ++ a0_0), AV.fl [.int .i64] (([] : List AV) ++ a0_1), AV.fl [.int .i64, .int .i64] (([] : List AV) ++ a0_2)])
    else none)
   else none)
  else none) := by kernel_rfl
theorem r127 (a0_0 : List AV) (a0_1 : List AV) (a0_2 : List AV) (h : q127 a0_0 a0_1 a0_2 = true) : funA c127 0 127 [AV.agg [AV.sl [.int .i64] a0_0, AV.sl [.int .i64] a0_1, AV.sl [.int .i64, .int .i64] a0_2]] = some (AV.agg [AV.fl [.int .i64] (v127_0 a0_0 a0_1 a0_2), AV.fl [.int .i64] (v127_1 a0_0 a0_1 a0_2), AV.fl [.int .i64, .int .i64] (v127_2 a0_0 a0_1 a0_2)]) := (e127 a0_0 a0_1 a0_2).trans ((brL (brL (brL1 (fun _ => rfl)))) h)
def m127 : TModel
  | [.agg [.sl g0 a0_0, .sl g1 a0_1, .sl g2 a0_2]] => bif ctsEq g0 ([.int .i64]) && ctsEq g1 ([.int .i64]) && ctsEq g2 ([.int .i64, .int .i64]) then some (q127 a0_0 a0_1 a0_2, AV.agg [AV.fl [.int .i64] (v127_0 a0_0 a0_1 a0_2), AV.fl [.int .i64] (v127_1 a0_0 a0_1 a0_2), AV.fl [.int .i64, .int .i64] (v127_2 a0_0 a0_1 a0_2)]) else none
  | _ => none
theorem k127 : Known Try.prog 127 := ⟨Try.f127, Try.func127, by kernel_rfl, by kernel_rfl⟩
theorem meets127 : Meets Try.prog 127 m127 := by
  refine meet (f := Try.f127) (l := []) (hs := [(127, 999, [2])]) (ts := []) (ws := []) (is := []) (ls := []) (lvl := 0) mixed k127 Try.func127 (by kernel_rfl) noLoop allT_nil allM_nil noI fun w xs us r hl hv h => ?_
  unfold m127 at h
  split at h
  · rename_i g0 a0_0 g1 a0_1 g2 a0_2
    obtain ⟨hg, h⟩ := bif_pair h
    simp only [Bool.and_eq_true] at hg
    obtain ⟨⟨q0, q1⟩, q2⟩ := hg
    obtain rfl := ctsEq_eq _ _ q0
    obtain rfl := ctsEq_eq _ _ q1
    obtain rfl := ctsEq_eq _ _ q2
    obtain ⟨h1, rfl⟩ := pair_inj h
    exact r127 a0_0 a0_1 a0_2 h1
  · cases h

/-! ### 144 loop.example/g01984/spec.l4Piece -/
def F144_2 (t1 : List AV) (t2 : Int) (t8 : Int) (t9 : Int) (t11 : Int) : Out ((Int × Int)) (Int) := (bif decide (t11 ≥ 0) then (bif (decide (0 ≤ t11) && decide (t11 < (t1.length : Int))) then (bif decide (fI (t1.getD t11.toNat AV.undef) 0 ≥ t2) then (bif (decide (0 ≤ t11) && decide (t11 < (t1.length : Int))) then .next (fI (t1.getD t11.toNat AV.undef) 1, IntKind.i64.wrap (t11 - 1))
     else .fail)
    else .next (t9, IntKind.i64.wrap (t11 - 1)))
   else .fail)
  else .stop t9)
def R144_2 (t1 : List AV) (t2 : Int) (t8 : Int) : ((Int × Int)) → Out ((Int × Int)) (Int) := fun s : Int × Int => F144_2 t1 t2 t8 s.1 s.2
def l144_2 : LModel := fun _ _ st k => match st with
  | ⟨[(1, .sl g0 t1), (2, .int .i64 t2), (8, .int .i64 t8), (9, .int .i64 t9), (11, .int .i64 t11)], []⟩ => bif ctsEq g0 ([.int .i64, .int .i64]) then ro (runW (R144_2 t1 t2 t8) ((t11 - 0 + 1).toNat + 1) (t9, t11)) none (fun p : Int => k (.exit 2) ⟨[(8, AV.int .i64 t8), (9, AV.int .i64 p)], []⟩) else none
  | _ => none
def F144_0 (t1 : List AV) (t2 : Int) (t9 : Int) (t8 : Int) (t10 : Int) : Out ((Int × Int)) (Int) := (bif decide (t10 < (t1.length : Int)) then (bif (decide (0 ≤ t10) && decide (t10 < (t1.length : Int))) then (bif decide (fI (t1.getD t10.toNat AV.undef) 0 ≤ t2) then (bif (decide (0 ≤ t10) && decide (t10 < (t1.length : Int))) then .next (fI (t1.getD t10.toNat AV.undef) 1, IntKind.i64.wrap (t10 + 1))
     else .fail)
    else .next (t8, IntKind.i64.wrap (t10 + 1)))
   else .fail)
  else .stop t8)
def R144_0 (t1 : List AV) (t2 : Int) (t9 : Int) : ((Int × Int)) → Out ((Int × Int)) (Int) := fun s : Int × Int => F144_0 t1 t2 t9 s.1 s.2
def l144_0 : LModel := fun _ _ st k => match st with
  | ⟨[(1, .sl g0 t1), (2, .int .i64 t2), (8, .int .i64 t8), (9, .int .i64 t9), (10, .int .i64 t10)], []⟩ => bif ctsEq g0 ([.int .i64, .int .i64]) then ro (runW (R144_0 t1 t2 t9) (((t1.length : Int) - t10).toNat + 1) (t8, t10)) none (fun p : Int => k (.exit 0) ⟨[(1, AV.sl [.int .i64, .int .i64] t1), (2, AV.int .i64 t2), (8, AV.int .i64 p), (9, AV.int .i64 t9)], []⟩) else none
  | _ => none
noncomputable def c144 : Cfg := cfg Try.prog [(144, 0, [1, 2, 8, 9, 10]), (144, 2, [1, 2, 8, 9, 11]), (144, 999, [6, 7]), (144, 1000, [1, 2, 8, 9]), (144, 1001, [1, 2, 8, 9, 10]), (144, 1002, [8, 9]), (144, 1003, [1, 2, 8, 9, 11])] [] [] [] [(144, 0, l144_0), (144, 2, l144_2)]
theorem s144_2 (ce : CallE) (t1 : List AV) (t2 : Int) (t8 : Int) (t9 : Int) (t11 : Int) (next : St → Option AV) (k : Kont) : stepA (codeA c144 ce [] 144 2 (sub [1, 1, 1, 1, 0, 1, 0, 0] (body Try.f144))) (normA [] [1, 2, 8, 9, 11]) next ⟨[(1, AV.sl [.int .i64, .int .i64] t1), (2, AV.int .i64 t2), (8, AV.int .i64 t8), (9, AV.int .i64 t9), (11, AV.int .i64 t11)], []⟩ k = (bif decide (t11 ≥ 0) then (bif (decide (0 ≤ t11) && decide (t11 < (t1.length : Int))) then (bif decide (fI (t1.getD t11.toNat AV.undef) 0 ≥ t2) then (bif (decide (0 ≤ t11) && decide (t11 < (t1.length : Int))) then next ⟨[(1, AV.sl [.int .i64, .int .i64] t1), (2, AV.int .i64 t2), (8, AV.int .i64 t8), (9, AV.int .i64 (fI (t1.getD t11.toNat AV.undef) 1)), (11, AV.int .i64 (IntKind.i64.wrap (t11 - 1)))], []⟩
     else none)
    else next ⟨[(1, AV.sl [.int .i64, .int .i64] t1), (2, AV.int .i64 t2), (8, AV.int .i64 t8), (9, AV.int .i64 t9), (11, AV.int .i64 (IntKind.i64.wrap (t11 - 1)))], []⟩)
   else none)
  else k (.exit 2) ⟨[(8, AV.int .i64 t8), (9, AV.int .i64 t9)], []⟩) := by kernel_rfl
theorem st144_2 (t1 : List AV) (t2 : Int) (t8 : Int) (ce : CallE) (k : Kont) (s : (Int × Int)) (next : St → Option AV) : stepA (codeA c144 ce [] 144 2 (sub [1, 1, 1, 1, 0, 1, 0, 0] (body Try.f144))) (normA [] [1, 2, 8, 9, 11]) next ((fun s : Int × Int => ⟨[(1, AV.sl [.int .i64, .int .i64] t1), (2, AV.int .i64 t2), (8, AV.int .i64 t8), (9, AV.int .i64 s.1), (11, AV.int .i64 s.2)], []⟩) s) k = (R144_2 t1 t2 t8 s).el none (fun s => next ((fun s : Int × Int => ⟨[(1, AV.sl [.int .i64, .int .i64] t1), (2, AV.int .i64 t2), (8, AV.int .i64 t8), (9, AV.int .i64 s.1), (11, AV.int .i64 s.2)], []⟩) s)) (fun p : Int => k (.exit 2) ⟨[(8, AV.int .i64 t8), (9, AV.int .i64 p)], []⟩) := (s144_2 ce t1 t2 t8 s.1 s.2 next k).trans (by unfold R144_2; unfold F144_2; simp only [el_cond, el_ro, el_sum, el_fail, el_next, el_stop] <;> rfl)
theorem ok144_2 {ce : CallE} : LoopOK c144 ce [] 144 2 (sub [1, 1, 1, 1, 0, 1, 0, 0] (body Try.f144)) := by
  intro m hm st k r h
  obtain rfl : l144_2 = m := Option.some.inj hm
  unfold l144_2 at h
  split at h
  · rename_i g0 t1 t2 t8 t9 t11
    obtain ⟨hg, h⟩ := bif_some h
    have q0 := hg
    obtain rfl := ctsEq_eq _ _ q0
    refine ⟨((t11 - 0 + 1).toNat + 1), ?_⟩
    rw [← h]
    exact loop_run (fun s : Int × Int => ⟨[(1, AV.sl [.int .i64, .int .i64] t1), (2, AV.int .i64 t2), (8, AV.int .i64 t8), (9, AV.int .i64 s.1), (11, AV.int .i64 s.2)], []⟩) (fun p : Int => k (.exit 2) ⟨[(8, AV.int .i64 t8), (9, AV.int .i64 p)], []⟩) (st144_2 t1 t2 t8 ce k) _ (t9, t11)
  · cases h
theorem s144_0 (ce : CallE) (t1 : List AV) (t2 : Int) (t8 : Int) (t9 : Int) (t10 : Int) (next : St → Option AV) (k : Kont) : stepA (codeA c144 ce [] 144 0 (sub [1, 1, 1, 0, 1, 0, 0] (body Try.f144))) (normA [] [1, 2, 8, 9, 10]) next ⟨[(1, AV.sl [.int .i64, .int .i64] t1), (2, AV.int .i64 t2), (8, AV.int .i64 t8), (9, AV.int .i64 t9), (10, AV.int .i64 t10)], []⟩ k = (bif decide (t10 < (t1.length : Int)) then (bif (decide (0 ≤ t10) && decide (t10 < (t1.length : Int))) then (bif decide (fI (t1.getD t10.toNat AV.undef) 0 ≤ t2) then (bif (decide (0 ≤ t10) && decide (t10 < (t1.length : Int))) then next ⟨[(1, AV.sl [.int .i64, .int .i64] t1), (2, AV.int .i64 t2), (8, AV.int .i64 (fI (t1.getD t10.toNat AV.undef) 1)), (9, AV.int .i64 t9), (10, AV.int .i64 (IntKind.i64.wrap (t10 + 1)))], []⟩
     else none)
    else next ⟨[(1, AV.sl [.int .i64, .int .i64] t1), (2, AV.int .i64 t2), (8, AV.int .i64 t8), (9, AV.int .i64 t9), (10, AV.int .i64 (IntKind.i64.wrap (t10 + 1)))], []⟩)
   else none)
  else k (.exit 0) ⟨[(1, AV.sl [.int .i64, .int .i64] t1), (2, AV.int .i64 t2), (8, AV.int .i64 t8), (9, AV.int .i64 t9)], []⟩) := by kernel_rfl
theorem st144_0 (t1 : List AV) (t2 : Int) (t9 : Int) (ce : CallE) (k : Kont) (s : (Int × Int)) (next : St → Option AV) : stepA (codeA c144 ce [] 144 0 (sub [1, 1, 1, 0, 1, 0, 0] (body Try.f144))) (normA [] [1, 2, 8, 9, 10]) next ((fun s : Int × Int => ⟨[(1, AV.sl [.int .i64, .int .i64] t1), (2, AV.int .i64 t2), (8, AV.int .i64 s.1), (9, AV.int .i64 t9), (10, AV.int .i64 s.2)], []⟩) s) k = (R144_0 t1 t2 t9 s).el none (fun s => next ((fun s : Int × Int => ⟨[(1, AV.sl [.int .i64, .int .i64] t1), (2, AV.int .i64 t2), (8, AV.int .i64 s.1), (9, AV.int .i64 t9), (10, AV.int .i64 s.2)], []⟩) s)) (fun p : Int => k (.exit 0) ⟨[(1, AV.sl [.int .i64, .int .i64] t1), (2, AV.int .i64 t2), (8, AV.int .i64 p), (9, AV.int .i64 t9)], []⟩) := (s144_0 ce t1 t2 s.1 t9 s.2 next k).trans (by unfold R144_0; unfold F144_0; simp only [el_cond, el_ro, el_sum, el_fail, el_next, el_stop] <;> rfl)
theorem ok144_0 {ce : CallE} : LoopOK c144 ce [] 144 0 (sub [1, 1, 1, 0, 1, 0, 0] (body Try.f144)) := by
  intro m hm st k r h
  obtain rfl : l144_0 = m := Option.some.inj hm
  unfold l144_0 at h
  split at h
  · rename_i g0 t1 t2 t8 t9 t10
    obtain ⟨hg, h⟩ := bif_some h
    have q0 := hg
    obtain rfl := ctsEq_eq _ _ q0
    refine ⟨(((t1.length : Int) - t10).toNat + 1), ?_⟩
    rw [← h]
    exact loop_run (fun s : Int × Int => ⟨[(1, AV.sl [.int .i64, .int .i64] t1), (2, AV.int .i64 t2), (8, AV.int .i64 s.1), (9, AV.int .i64 t9), (10, AV.int .i64 s.2)], []⟩) (fun p : Int => k (.exit 0) ⟨[(1, AV.sl [.int .i64, .int .i64] t1), (2, AV.int .i64 t2), (8, AV.int .i64 p), (9, AV.int .i64 t9)], []⟩) (st144_0 t1 t2 t9 ce k) _ (t8, t10)
  · cases h
def q144 (a0 : Int) (a1 : List AV) (a2 : Int) : Bool := (ro (runW (R144_0 a1 a2 a0) (((a1.length : Int) - 0).toNat + 1) (0, 0)) false (fun p21 => (ro (runW (R144_2 a1 a2 p21) (((IntKind.i64.wrap ((a1.length : Int) - 1)) - 0 + 1).toNat + 1) (a0, IntKind.i64.wrap ((a1.length : Int) - 1))) false (fun p22 => true))))
def v144_0 (a0 : Int) (a1 : List AV) (a2 : Int) : Int := (ro (runW (R144_0 a1 a2 a0) (((a1.length : Int) - 0).toNat + 1) (0, 0)) 0 (fun p21 => p21))
def v144_1 (a0 : Int) (a1 : List AV) (a2 : Int) : Int := (ro (runW (R144_0 a1 a2 a0) (((a1.length : Int) - 0).toNat + 1) (0, 0)) 0 (fun p21 => (ro (runW (R144_2 a1 a2 p21) (((IntKind.i64.wrap ((a1.length : Int) - 1)) - 0 + 1).toNat + 1) (a0, IntKind.i64.wrap ((a1.length : Int) - 1))) 0 (fun p22 => p22))))
theorem e144 (a0 : Int) (a1 : List AV) (a2 : Int) : funA c144 0 144 [AV.int .i64 a0, AV.sl [.int .i64, .int .i64] a1, AV.int .i64 a2] = (ro (runW (R144_0 a1 a2 a0) (((a1.length : Int) - 0).toNat + 1) (0, 0)) none (fun p21 => (ro (runW (R144_2 a1 a2 p21) (((IntKind.i64.wrap ((a1.length : Int) - 1)) - 0 + 1).toNat + 1) (a0, IntKind.i64.wrap ((a1.length : Int) - 1))) none (fun p22 => some (AV.tup [AV.int .i64 p21, AV.int .i64 p22]))))) := by kernel_rfl
theorem r144 (a0 : Int) (a1 : List AV) (a2 : Int) (h : q144 a0 a1 a2 = true) : funA c144 0 144 [AV.int .i64 a0, AV.sl [.int .i64, .int .i64] a1, AV.int .i64 a2] = some (AV.tup [AV.int .i64 (v144_0 a0 a1 a2), AV.int .i64 (v144_1 a0 a1 a2)]) := (e144 a0 a1 a2).trans ((brO (fun o : Option (Int) => some (AV.tup [AV.int .i64 (ro o 0 (fun p21 => p21)), AV.int .i64 (ro o 0 (fun p21 => (ro (runW (R144_2 a1 a2 p21) (((IntKind.i64.wrap ((a1.length : Int) - 1)) - 0 + 1).toNat + 1) (a0, IntKind.i64.wrap ((a1.length : Int) - 1))) 0 (fun p22 => p22))))])) (fun p21 => (brO (fun o : Option (Int) => some (AV.tup [AV.int .i64 p21, AV.int .i64 (ro o 0 (fun p22 => p22))])) (fun p22 => (fun _ => rfl))))) h)
def m144 : TModel
  | [.int .i64 a0, .sl g0 a1, .int .i64 a2] => bif ctsEq g0 ([.int .i64, .int .i64]) then some (q144 a0 a1 a2, AV.tup [AV.int .i64 (v144_0 a0 a1 a2), AV.int .i64 (v144_1 a0 a1 a2)]) else none
  | _ => none
theorem k144 : Known Try.prog 144 := ⟨Try.f144, Try.func144, by kernel_rfl, by kernel_rfl⟩
theorem meets144 : Meets Try.prog 144 m144 := by
  refine meet (f := Try.f144) (l := [(0, sub [1, 1, 1, 0, 1, 0, 0] (body Try.f144)), (2, sub [1, 1, 1, 1, 0, 1, 0, 0] (body Try.f144))]) (hs := [(144, 0, [1, 2, 8, 9, 10]), (144, 2, [1, 2, 8, 9, 11]), (144, 999, [6, 7]), (144, 1000, [1, 2, 8, 9]), (144, 1001, [1, 2, 8, 9, 10]), (144, 1002, [8, 9]), (144, 1003, [1, 2, 8, 9, 11])]) (ts := []) (ws := []) (is := []) (ls := [(144, 0, l144_0), (144, 2, l144_2)]) (lvl := 0) mixed k144 Try.func144 (by kernel_rfl) (loops_cons ok144_0 (loops_cons ok144_2 noLoop)) allT_nil allM_nil noI fun w xs us r hl hv h => ?_
  unfold m144 at h
  split at h
  · rename_i a0 g0 a1 a2
    obtain ⟨hg, h⟩ := bif_pair h
    have q0 := hg
    obtain rfl := ctsEq_eq _ _ q0
    obtain ⟨h1, rfl⟩ := pair_inj h
    exact r144 a0 a1 a2 h1
  · cases h

/-! ### 97 loop.example/g01984/spec.PieceOf -/
noncomputable def c97 : Cfg := cfg Try.prog [(97, 999, [4, 5])] [(67, m67), (68, m68), (144, m144)] [] [] []
def q97 (a0_0 : List AV) (a0_1 : List AV) (a0_2 : List AV) (a1 : Int) : Bool := (q67 a0_0 a0_1 a0_2 && (bif !(v67_0 a0_0 a0_1 a0_2) then true else (bif !(v68_0 a1 (-1000) 1000) then true else q144 (a0_0.length : Int) a0_2 a1)))
def v97_0 (a0_0 : List AV) (a0_1 : List AV) (a0_2 : List AV) (a1 : Int) : Int := (bif !(v67_0 a0_0 a0_1 a0_2) then 0 else (bif !(v68_0 a1 (-1000) 1000) then 0 else (v144_0 (a0_0.length : Int) a0_2 a1)))
def v97_1 (a0_0 : List AV) (a0_1 : List AV) (a0_2 : List AV) (a1 : Int) : Int := (bif !(v67_0 a0_0 a0_1 a0_2) then 0 else (bif !(v68_0 a1 (-1000) 1000) then 0 else (v144_1 (a0_0.length : Int) a0_2 a1)))
theorem e97 (a0_0 : List AV) (a0_1 : List AV) (a0_2 : List AV) (a1 : Int) : funA c97 0 97 [AV.agg [AV.sl [.int .i64] a0_0, AV.sl [.int .i64] a0_1, AV.sl [.int .i64, .int .i64] a0_2], AV.int .i64 a1] = (bif q67 a0_0 a0_1 a0_2 then (bif !(v67_0 a0_0 a0_1 a0_2) then some (AV.tup [AV.int .i64 0, AV.int .i64 0])
   else (bif !(v68_0 a1 (-1000) 1000) then some (AV.tup [AV.int .i64 0, AV.int .i64 0])
    else (bif q144 (a0_0.length : Int) a0_2 a1 then some (AV.tup [AV.int .i64 (v144_0 (a0_0.length : Int) a0_2 a1), AV.int .i64 (v144_1 (a0_0.length : Int) a0_2 a1)])
     else none)))
  else none) := by kernel_rfl
theorem r97 (a0_0 : List AV) (a0_1 : List AV) (a0_2 : List AV) (a1 : Int) (h : q97 a0_0 a0_1 a0_2 a1 = true) : funA c97 0 97 [AV.agg [AV.sl [.int .i64] a0_0, AV.sl [.int .i64] a0_1, AV.sl [.int .i64, .int .i64] a0_2], AV.int .i64 a1] = some (AV.tup [AV.int .i64 (v97_0 a0_0 a0_1 a0_2 a1), AV.int .i64 (v97_1 a0_0 a0_1 a0_2 a1)]) := (e97 a0_0 a0_1 a0_2 a1).trans ((brL (br (fun b => some (AV.tup [AV.int .i64 (bif b then 0 else (bif !(v68_0 a1 (-1000) 1000) then 0 else (v144_0 (a0_0.length : Int) a0_2 a1))), AV.int .i64 (bif b then 0 else (bif !(v68_0 a1 (-1000) 1000) then 0 else (v144_1 (a0_0.length : Int) a0_2 a1)))])) (fun _ => rfl) (br (fun b => some (AV.tup [AV.int .i64 (bif b then 0 else (v144_0 (a0_0.length : Int) a0_2 a1)), AV.int .i64 (bif b then 0 else (v144_1 (a0_0.length : Int) a0_2 a1))])) (fun _ => rfl) (brL1 (fun _ => rfl))))) h)
def m97 : TModel
  | [.agg [.sl g0 a0_0, .sl g1 a0_1, .sl g2 a0_2], .int .i64 a1] => bif ctsEq g0 ([.int .i64]) && ctsEq g1 ([.int .i64]) && ctsEq g2 ([.int .i64, .int .i64]) then some (q97 a0_0 a0_1 a0_2 a1, AV.tup [AV.int .i64 (v97_0 a0_0 a0_1 a0_2 a1), AV.int .i64 (v97_1 a0_0 a0_1 a0_2 a1)]) else none
  | _ => none
theorem k97 : Known Try.prog 97 := ⟨Try.f97, Try.func97, by kernel_rfl, by kernel_rfl⟩
theorem meets97 : Meets Try.prog 97 m97 := by
  refine meet (f := Try.f97) (l := []) (hs := [(97, 999, [4, 5])]) (ts := [(67, m67), (68, m68), (144, m144)]) (ws := []) (is := []) (ls := []) (lvl := 0) mixed k97 Try.func97 (by kernel_rfl) noLoop (allT_cons meets67 (allT_cons meets68 (allT_cons meets144 allT_nil))) allM_nil noI fun w xs us r hl hv h => ?_
  unfold m97 at h
  split at h
  · rename_i g0 a0_0 g1 a0_1 g2 a0_2 a1
    obtain ⟨hg, h⟩ := bif_pair h
    simp only [Bool.and_eq_true] at hg
    obtain ⟨⟨q0, q1⟩, q2⟩ := hg
    obtain rfl := ctsEq_eq _ _ q0
    obtain rfl := ctsEq_eq _ _ q1
    obtain rfl := ctsEq_eq _ _ q2
    obtain ⟨h1, rfl⟩ := pair_inj h
    exact r97 a0_0 a0_1 a0_2 a1 h1
  · cases h

/-! ### 143 loop.example/g01984/spec.Partition -/
def F143_0 (t0 : List AV) (t3 : Int) (t11 : Int) (t12 : Int) (h0 : List AV) : Out ((Int × Int × (List AV))) ((Int × (List AV))) := (bif decide (t11 ≤ t12) then (bif (decide (0 ≤ t11) && decide (t11 < (t0.length : Int))) then (bif decide (fI (t0.getD t11.toNat AV.undef) 0 < t3) then .next (IntKind.i64.wrap (t11 + 1), t12, h0)
    else (bif (decide (0 ≤ t12) && decide (t12 < (t0.length : Int))) then (bif decide (fI (t0.getD t12.toNat AV.undef) 0 ≥ t3) then .next (t11, IntKind.i64.wrap (t12 - 1), h0)
      else (bif (decide ((h0.length + ([AV.agg [AV.int .i64 t11, AV.int .i64 t12]]).length) * 16 ≤ 140737488355328) && decide ((h0.length + ([AV.agg [AV.int .i64 t11, AV.int .i64 t12]]).length) ≤ 140737488355328)) then .next (IntKind.i64.wrap (t11 + 1), IntKind.i64.wrap (t12 - 1), h0 ++ ([AV.agg [AV.int .i64 t11, AV.int .i64 t12]]))
       else .fail))
     else .fail))
   else .fail)
  else .stop (t11, h0))
def R143_0 (t0 : List AV) (t3 : Int) : ((Int × Int × (List AV))) → Out ((Int × Int × (List AV))) ((Int × (List AV))) := fun s : Int × Int × (List AV) => F143_0 t0 t3 s.1 s.2.1 s.2.2
def l143_0 : LModel := fun _ _ st k => match st with
  | ⟨[(0, .sl g0 t0), (3, .int .i64 t3), (10, .own g1), (11, .int .i64 t11), (12, .int .i64 t12)], [(g2, ⟨false, g3, h0⟩)]⟩ => bif ctsEq g0 ([.int .i64]) && nmEq g1 ([0, 10]) && nmEq g2 ([0, 10]) && ctsEq g3 ([.int .i64, .int .i64]) then ro (runW (R143_0 t0 t3) ((t12 - t11 + 1).toNat + 1) (t11, t12, h0)) none (fun p : Int × (List AV) => k (.exit 0) ⟨[(10, AV.own [0, 10]), (11, AV.int .i64 p.1)], [([0, 10], ⟨false, [.int .i64, .int .i64], p.2⟩)]⟩) else none
  | _ => none
noncomputable def c143 : Cfg := cfg Try.prog [(143, 0, [0, 3, 10, 11, 12]), (143, 999, [8, 9]), (143, 1000, [10, 11]), (143, 1001, [0, 3, 10, 11, 12]), (143, 1002, [0, 3, 10, 11, 12])] [(68, m68)] [] [] [(143, 0, l143_0)]
theorem s143_0 (ce : CallE) (t0 : List AV) (t3 : Int) (t11 : Int) (t12 : Int) (h0 : List AV) (next : St → Option AV) (k : Kont) : stepA (codeA c143 ce [] 143 0 (sub [1, 1, 1, 1, 1, 0, 0, 0] (body Try.f143))) (normA [] [0, 3, 10, 11, 12]) next ⟨[(0, AV.sl [.int .i64] t0), (3, AV.int .i64 t3), (10, AV.own [0, 10]), (11, AV.int .i64 t11), (12, AV.int .i64 t12)], [([0, 10], ⟨false, [.int .i64, .int .i64], h0⟩)]⟩ k = (bif decide (t11 ≤ t12) then (bif (decide (0 ≤ t11) && decide (t11 < (t0.length : Int))) then (bif decide (fI (t0.getD t11.toNat AV.undef) 0 < t3) then next ⟨[(0, AV.sl [.int .i64] t0), (3, AV.int .i64 t3), (10, AV.own [0, 10]), (11, AV.int .i64 (IntKind.i64.wrap (t11 + 1))), (12, AV.int .i64 t12)], [([0, 10], ⟨false, [.int .i64, .int .i64], h0⟩)]⟩
    else (bif (decide (0 ≤ t12) && decide (t12 < (t0.length : Int))) then (bif decide (fI (t0.getD t12.toNat AV.undef) 0 ≥ t3) then next ⟨[(0, AV.sl [.int .i64] t0), (3, AV.int .i64 t3), (10, AV.own [0, 10]), (11, AV.int .i64 t11), (12, AV.int .i64 (IntKind.i64.wrap (t12 - 1)))], [([0, 10], ⟨false, [.int .i64, .int .i64], h0⟩)]⟩
      else (bif (decide ((h0.length + ([AV.agg [AV.int .i64 t11, AV.int .i64 t12]]).length) * 16 ≤ 140737488355328) && decide ((h0.length + ([AV.agg [AV.int .i64 t11, AV.int .i64 t12]]).length) ≤ 140737488355328)) then next ⟨[(0, AV.sl [.int .i64] t0), (3, AV.int .i64 t3), (10, AV.own [0, 10]), (11, AV.int .i64 (IntKind.i64.wrap (t11 + 1))), (12, AV.int .i64 (IntKind.i64.wrap (t12 - 1)))], [([0, 10], ⟨false, [.int .i64, .int .i64], h0 ++ ([AV.agg [AV.int .i64 t11, AV.int .i64 t12]])⟩)]⟩
       else none))
     else none))
   else none)
  else k (.exit 0) ⟨[(10, AV.own [0, 10]), (11, AV.int .i64 t11)], [([0, 10], ⟨false, [.int .i64, .int .i64], h0⟩)]⟩) := by kernel_rfl
theorem st143_0 (t0 : List AV) (t3 : Int) (ce : CallE) (k : Kont) (s : (Int × Int × (List AV))) (next : St → Option AV) : stepA (codeA c143 ce [] 143 0 (sub [1, 1, 1, 1, 1, 0, 0, 0] (body Try.f143))) (normA [] [0, 3, 10, 11, 12]) next ((fun s : Int × Int × (List AV) => ⟨[(0, AV.sl [.int .i64] t0), (3, AV.int .i64 t3), (10, AV.own [0, 10]), (11, AV.int .i64 s.1), (12, AV.int .i64 s.2.1)], [([0, 10], ⟨false, [.int .i64, .int .i64], s.2.2⟩)]⟩) s) k = (R143_0 t0 t3 s).el none (fun s => next ((fun s : Int × Int × (List AV) => ⟨[(0, AV.sl [.int .i64] t0), (3, AV.int .i64 t3), (10, AV.own [0, 10]), (11, AV.int .i64 s.1), (12, AV.int .i64 s.2.1)], [([0, 10], ⟨false, [.int .i64, .int .i64], s.2.2⟩)]⟩) s)) (fun p : Int × (List AV) => k (.exit 0) ⟨[(10, AV.own [0, 10]), (11, AV.int .i64 p.1)], [([0, 10], ⟨false, [.int .i64, .int .i64], p.2⟩)]⟩) := (s143_0 ce t0 t3 s.1 s.2.1 s.2.2 next k).trans (by unfold R143_0; unfold F143_0; simp only [el_cond, el_ro, el_sum, el_fail, el_next, el_stop] <;> rfl)
theorem ok143_0 {ce : CallE} : LoopOK c143 ce [] 143 0 (sub [1, 1, 1, 1, 1, 0, 0, 0] (body Try.f143)) := by
  intro m hm st k r h
  obtain rfl : l143_0 = m := Option.some.inj hm
  unfold l143_0 at h
  split at h
  · rename_i g0 t0 t3 g1 t11 t12 g2 g3 h0
    obtain ⟨hg, h⟩ := bif_some h
    simp only [Bool.and_eq_true] at hg
    obtain ⟨⟨⟨q0, q1⟩, q2⟩, q3⟩ := hg
    obtain rfl := ctsEq_eq _ _ q0
    obtain rfl := (nmEq_iff _ _).1 q1
    obtain rfl := (nmEq_iff _ _).1 q2
    obtain rfl := ctsEq_eq _ _ q3
    refine ⟨((t12 - t11 + 1).toNat + 1), ?_⟩
    rw [← h]
    exact loop_run (fun s : Int × Int × (List AV) => ⟨[(0, AV.sl [.int .i64] t0), (3, AV.int .i64 t3), (10, AV.own [0, 10]), (11, AV.int .i64 s.1), (12, AV.int .i64 s.2.1)], [([0, 10], ⟨false, [.int .i64, .int .i64], s.2.2⟩)]⟩) (fun p : Int × (List AV) => k (.exit 0) ⟨[(10, AV.own [0, 10]), (11, AV.int .i64 p.1)], [([0, 10], ⟨false, [.int .i64, .int .i64], p.2⟩)]⟩) (st143_0 t0 t3 ce k) _ (t11, t12, h0)
  · cases h
def q143 (a0 : List AV) (a1 : Int) (a2 : Int) (a3 : Int) : Bool := (bif !(v68_0 a1 0 a2) then true else (bif decide (a2 > (a0.length : Int)) then true else (ro (runW (R143_0 a0 a3) (((IntKind.i64.wrap (a2 - 1)) - a1 + 1).toNat + 1) (a1, IntKind.i64.wrap (a2 - 1), ([] : List AV))) false (fun p23 => true))))
def v143_0 (a0 : List AV) (a1 : Int) (a2 : Int) (a3 : Int) : List AV := (bif !(v68_0 a1 0 a2) then ([] : List AV) else (bif decide (a2 > (a0.length : Int)) then ([] : List AV) else (ro (runW (R143_0 a0 a3) (((IntKind.i64.wrap (a2 - 1)) - a1 + 1).toNat + 1) (a1, IntKind.i64.wrap (a2 - 1), ([] : List AV))) [] (fun p23 => p23.2))))
def v143_1 (a0 : List AV) (a1 : Int) (a2 : Int) (a3 : Int) : Int := (bif !(v68_0 a1 0 a2) then 0 else (bif decide (a2 > (a0.length : Int)) then 0 else (ro (runW (R143_0 a0 a3) (((IntKind.i64.wrap (a2 - 1)) - a1 + 1).toNat + 1) (a1, IntKind.i64.wrap (a2 - 1), ([] : List AV))) 0 (fun p23 => p23.1))))
theorem e143 (a0 : List AV) (a1 : Int) (a2 : Int) (a3 : Int) : funA c143 0 143 [AV.sl [.int .i64] a0, AV.int .i64 a1, AV.int .i64 a2, AV.int .i64 a3] = (bif !(v68_0 a1 0 a2) then some (AV.tup [AV.fl [.int .i64, .int .i64] ([] : List AV), AV.int .i64 0])
  else (bif decide (a2 > (a0.length : Int)) then some (AV.tup [AV.fl [.int .i64, .int .i64] ([] : List AV), AV.int .i64 0])
   else (ro (runW (R143_0 a0 a3) (((IntKind.i64.wrap (a2 - 1)) - a1 + 1).toNat + 1) (a1, IntKind.i64.wrap (a2 - 1), ([] : List AV))) none (fun p23 => some (AV.tup [AV.fl [.int .i64, .int .i64] p23.2, AV.int .i64 p23.1]))))) := by kernel_rfl
theorem r143 (a0 : List AV) (a1 : Int) (a2 : Int) (a3 : Int) (h : q143 a0 a1 a2 a3 = true) : funA c143 0 143 [AV.sl [.int .i64] a0, AV.int .i64 a1, AV.int .i64 a2, AV.int .i64 a3] = some (AV.tup [AV.fl [.int .i64, .int .i64] (v143_0 a0 a1 a2 a3), AV.int .i64 (v143_1 a0 a1 a2 a3)]) := (e143 a0 a1 a2 a3).trans ((br (fun b => some (AV.tup [AV.fl [.int .i64, .int .i64] (bif b then ([] : List AV) else (bif decide (a2 > (a0.length : Int)) then ([] : List AV) else (ro (runW (R143_0 a0 a3) (((IntKind.i64.wrap (a2 - 1)) - a1 + 1).toNat + 1) (a1, IntKind.i64.wrap (a2 - 1), ([] : List AV))) [] (fun p23 => p23.2)))), AV.int .i64 (bif b then 0 else (bif decide (a2 > (a0.length : Int)) then 0 else (ro (runW (R143_0 a0 a3) (((IntKind.i64.wrap (a2 - 1)) - a1 + 1).toNat + 1) (a1, IntKind.i64.wrap (a2 - 1), ([] : List AV))) 0 (fun p23 => p23.1))))])) (fun _ => rfl) (br (fun b => some (AV.tup [AV.fl [.int .i64, .int .i64] (bif b then ([] : List AV) else (ro (runW (R143_0 a0 a3) (((IntKind.i64.wrap (a2 - 1)) - a1 + 1).toNat + 1) (a1, IntKind.i64.wrap (a2 - 1), ([] : List AV))) [] (fun p23 => p23.2))), AV.int .i64 (bif b then 0 else (ro (runW (R143_0 a0 a3) (((IntKind.i64.wrap (a2 - 1)) - a1 + 1).toNat + 1) (a1, IntKind.i64.wrap (a2 - 1), ([] : List AV))) 0 (fun p23 => p23.1)))])) (fun _ => rfl) (brO (fun o : Option ((Int × (List AV))) => some (AV.tup [AV.fl [.int .i64, .int .i64] (ro o [] (fun p23 => p23.2)), AV.int .i64 (ro o 0 (fun p23 => p23.1))])) (fun p23 => (fun _ => rfl))))) h)
def m143 : TModel
  | [.sl g0 a0, .int .i64 a1, .int .i64 a2, .int .i64 a3] => bif ctsEq g0 ([.int .i64]) then some (q143 a0 a1 a2 a3, AV.tup [AV.fl [.int .i64, .int .i64] (v143_0 a0 a1 a2 a3), AV.int .i64 (v143_1 a0 a1 a2 a3)]) else none
  | _ => none
theorem k143 : Known Try.prog 143 := ⟨Try.f143, Try.func143, by kernel_rfl, by kernel_rfl⟩
theorem meets143 : Meets Try.prog 143 m143 := by
  refine meet (f := Try.f143) (l := [(0, sub [1, 1, 1, 1, 1, 0, 0, 0] (body Try.f143))]) (hs := [(143, 0, [0, 3, 10, 11, 12]), (143, 999, [8, 9]), (143, 1000, [10, 11]), (143, 1001, [0, 3, 10, 11, 12]), (143, 1002, [0, 3, 10, 11, 12])]) (ts := [(68, m68)]) (ws := []) (is := []) (ls := [(143, 0, l143_0)]) (lvl := 0) mixed k143 Try.func143 (by kernel_rfl) (loops_cons ok143_0 noLoop) (allT_cons meets68 allT_nil) allM_nil noI fun w xs us r hl hv h => ?_
  unfold m143 at h
  split at h
  · rename_i g0 a0 a1 a2 a3
    obtain ⟨hg, h⟩ := bif_pair h
    have q0 := hg
    obtain rfl := ctsEq_eq _ _ q0
    obtain ⟨h1, rfl⟩ := pair_inj h
    exact r143 a0 a1 a2 a3 h1
  · cases h

/-! ### 134 loop.example/g01984/spec.l5Swap -/
noncomputable def c134 : Cfg := cfg Try.prog [(134, 999, [])] [] [] [] []
def q134 (a1 : Int) (a2 : Int) (b0 : List AV) : Bool := ((decide (0 ≤ a1) && decide (a1 < (b0.length : Int))) && ((decide (0 ≤ a2) && decide (a2 < (b0.length : Int))) && ((decide (0 ≤ a1) && decide (a1 < (b0.length : Int))) && (decide (0 ≤ a2) && decide (a2 < ((b0.set a1.toNat (AV.agg [AV.int .i64 (fI (b0.getD a2.toNat AV.undef) 0)])).length : Int))))))
def v134_0 (a1 : Int) (a2 : Int) (b0 : List AV) : List AV := (b0.set a1.toNat (AV.agg [AV.int .i64 (fI (b0.getD a2.toNat AV.undef) 0)])).set a2.toNat (AV.agg [AV.int .i64 (fI (b0.getD a1.toNat AV.undef) 0)])
theorem e134 (a1 : Int) (a2 : Int) (b0 : List AV) (K : AV → List Blk → Option AV) : inlA c134 1 134 [AV.own [1], AV.int .i64 a1, AV.int .i64 a2] [0] (canH 1 [⟨false, [.int .i64], b0⟩]) (keepB 1 K) = (bif (decide (0 ≤ a1) && decide (a1 < (b0.length : Int))) then (bif (decide (0 ≤ a2) && decide (a2 < (b0.length : Int))) then (bif (decide (0 ≤ a1) && decide (a1 < (b0.length : Int))) then (bif (decide (0 ≤ a2) && decide (a2 < ((b0.set a1.toNat (AV.agg [AV.int .i64 (fI (b0.getD a2.toNat AV.undef) 0)])).length : Int))) then K (AV.tup []) [⟨false, [.int .i64], (b0.set a1.toNat (AV.agg [AV.int .i64 (fI (b0.getD a2.toNat AV.undef) 0)])).set a2.toNat (AV.agg [AV.int .i64 (fI (b0.getD a1.toNat AV.undef) 0)])⟩]
     else none)
    else none)
   else none)
  else none) := by kernel_rfl
theorem r134 (a1 : Int) (a2 : Int) (b0 : List AV) (K : AV → List Blk → Option AV) (h : q134 a1 a2 b0 = true) : inlA c134 1 134 [AV.own [1], AV.int .i64 a1, AV.int .i64 a2] [0] (canH 1 [⟨false, [.int .i64], b0⟩]) (keepB 1 K) = K (AV.tup []) [⟨false, [.int .i64], (v134_0 a1 a2 b0)⟩] := (e134 a1 a2 b0 K).trans ((brL (brL (brL (brL1 (fun _ => rfl))))) h)
def m134 : WModel
  | [.own g0, .int .i64 a1, .int .i64 a2], [⟨false, g1, b0⟩] => bif nmEq g0 ([1]) && ctsEq g1 ([.int .i64]) then some (q134 a1 a2 b0, AV.tup [], [⟨false, [.int .i64], (v134_0 a1 a2 b0)⟩]) else none
  | _, _ => none
theorem k134 : Known Try.prog 134 := ⟨Try.f134, Try.func134, by kernel_rfl, by kernel_rfl⟩
theorem meets134 : MeetsM Try.prog 134 m134 := by
  refine meetM (f := Try.f134) (l := []) (hs := [(134, 999, [])]) (ts := []) (ws := []) (is := []) (ls := []) (lvl := 0) mixed k134 Try.func134 (by kernel_rfl) noLoop allT_nil allM_nil noI fun C w xs us bs r bs' hl hv hh h K => ?_
  unfold m134 at h
  split at h
  · rename_i g0 a1 a2 g1 b0
    obtain ⟨hg, h⟩ := bif_pair h
    simp only [Bool.and_eq_true] at hg
    obtain ⟨q0, q1⟩ := hg
    obtain rfl := (nmEq_iff _ _).1 q0
    obtain rfl := ctsEq_eq _ _ q1
    obtain ⟨h1, rfl, rfl⟩ := trip_inj h
    exact r134 a1 a2 b0 K h1
  · cases h

/-! ### 110 loop.example/g01984/spec.ApplySwaps -/
def F110_0 (t1 : List AV) (h2_0 : List AV) (h2_1 : List AV) (h2_2 : List AV) (h3 : List AV) (t7 : Int) (h0 : List AV) (h1 : List AV) : Out ((Int × (List AV) × (List AV))) (((List AV) × (List AV)) ⊕ ((List AV) × (List AV) × (List AV) × (List AV) × (List AV))) := (bif decide (t7 < (t1.length : Int)) then (bif (decide (0 ≤ t7) && decide (t7 < (t1.length : Int))) then (bif (decide (0 ≤ t7) && decide (t7 < (t1.length : Int))) then (bif !(v68_0 (fI (t1.getD t7.toNat AV.undef) 0) 0 (IntKind.i64.wrap ((h0.length : Int) - 1))) then (bif q127 h2_0 h2_1 h2_2 then .stop (.inr (h0, h1, (v127_0 h2_0 h2_1 h2_2), (v127_1 h2_0 h2_1 h2_2), (v127_2 h2_0 h2_1 h2_2)))
      else .fail)
     else (bif !(v68_0 (fI (t1.getD t7.toNat AV.undef) 1) 0 (IntKind.i64.wrap ((h0.length : Int) - 1))) then (bif q127 h2_0 h2_1 h2_2 then .stop (.inr (h0, h1, (v127_0 h2_0 h2_1 h2_2), (v127_1 h2_0 h2_1 h2_2), (v127_2 h2_0 h2_1 h2_2)))
       else .fail)
      else (bif q134 (fI (t1.getD t7.toNat AV.undef) 0) (fI (t1.getD t7.toNat AV.undef) 1) h0 then (bif q134 (fI (t1.getD t7.toNat AV.undef) 0) (fI (t1.getD t7.toNat AV.undef) 1) h1 then .next (IntKind.i64.wrap (t7 + 1), (v134_0 (fI (t1.getD t7.toNat AV.undef) 0) (fI (t1.getD t7.toNat AV.undef) 1) h0), (v134_0 (fI (t1.getD t7.toNat AV.undef) 0) (fI (t1.getD t7.toNat AV.undef) 1) h1))
        else .fail)
       else .fail)))
    else .fail)
   else .fail)
  else .stop (.inl (h0, h1)))
def R110_0 (t1 : List AV) (h2_0 : List AV) (h2_1 : List AV) (h2_2 : List AV) (h3 : List AV) : ((Int × (List AV) × (List AV))) → Out ((Int × (List AV) × (List AV))) (((List AV) × (List AV)) ⊕ ((List AV) × (List AV) × (List AV) × (List AV) × (List AV))) := fun s : Int × (List AV) × (List AV) => F110_0 t1 h2_0 h2_1 h2_2 h3 s.1 s.2.1 s.2.2
def l110_0 : LModel := fun _ _ st k => match st with
  | ⟨[(1, .sl g0 t1), (2, .ptr g1 g2 g3), (4, .ptr g4 g5 g6), (6, .ptr g7 g8 g9), (7, .int .i64 t7)], [(g10, ⟨false, g11, h0⟩), (g12, ⟨false, g13, h1⟩), (g14, ⟨true, [], [.agg [.sl g15 h2_0, .sl g16 h2_1, .sl g17 h2_2]]⟩), (g18, ⟨false, g19, h3⟩), (g20, ⟨true, [], [.agg [.snil, .snil, .snil]]⟩), (g21, ⟨true, [], [.agg [.own g22, .own g23, .own g24]]⟩)]⟩ => bif ctsEq g0 ([.int .i64, .int .i64]) && nmEq g1 ([0, 2]) && Nat.beq g2 0 && Nat.beq g3 0 && nmEq g4 ([0, 4]) && Nat.beq g5 0 && Nat.beq g6 0 && nmEq g7 ([0, 6]) && Nat.beq g8 0 && Nat.beq g9 0 && nmEq g10 ([0, 0, 6]) && ctsEq g11 ([.int .i64]) && nmEq g12 ([0, 1, 6]) && ctsEq g13 ([.int .i64]) && nmEq g14 ([0, 2]) && ctsEq g15 ([.int .i64]) && ctsEq g16 ([.int .i64]) && ctsEq g17 ([.int .i64, .int .i64]) && nmEq g18 ([0, 2, 6]) && ctsEq g19 ([.int .i64, .int .i64]) && nmEq g20 ([0, 4]) && nmEq g21 ([0, 6]) && nmEq g22 ([0, 0, 6]) && nmEq g23 ([0, 1, 6]) && nmEq g24 ([0, 2, 6]) then ro (runW (R110_0 t1 h2_0 h2_1 h2_2 h3) (((t1.length : Int) - t7).toNat + 1) (t7, h0, h1)) none (sumE (fun p : (List AV) × (List AV) => k (.exit 0) ⟨[(4, AV.ptr [0, 4] 0 0), (6, AV.ptr [0, 6] 0 0)], [([0, 0, 6], ⟨false, [.int .i64], p.1⟩), ([0, 1, 6], ⟨false, [.int .i64], p.2⟩), ([0, 2], ⟨true, [], [AV.agg [AV.sl [.int .i64] h2_0, AV.sl [.int .i64] h2_1, AV.sl [.int .i64, .int .i64] h2_2]]⟩), ([0, 2, 6], ⟨false, [.int .i64, .int .i64], h3⟩), ([0, 4], ⟨true, [], [AV.agg [AV.snil, AV.snil, AV.snil]]⟩), ([0, 6], ⟨true, [], [AV.agg [AV.own [0, 0, 6], AV.own [0, 1, 6], AV.own [0, 2, 6]]]⟩)]⟩) (fun p : (List AV) × (List AV) × (List AV) × (List AV) × (List AV) => k .ret ⟨[(4, AV.ptr [0, 4] 0 0), (5, AV.bool false)], [([0, 0, 6], ⟨false, [.int .i64], p.1⟩), ([0, 1, 6], ⟨false, [.int .i64], p.2.1⟩), ([0, 1, 53], ⟨false, [.int .i64], p.2.2.1⟩), ([0, 2], ⟨true, [], [AV.agg [AV.sl [.int .i64] h2_0, AV.sl [.int .i64] h2_1, AV.sl [.int .i64, .int .i64] h2_2]]⟩), ([0, 2, 6], ⟨false, [.int .i64, .int .i64], h3⟩), ([0, 4], ⟨true, [], [AV.agg [AV.own [0, 1, 53], AV.own [1, 1, 53], AV.own [2, 1, 53]]]⟩), ([0, 6], ⟨true, [], [AV.agg [AV.own [0, 0, 6], AV.own [0, 1, 6], AV.own [0, 2, 6]]]⟩), ([1, 1, 53], ⟨false, [.int .i64], p.2.2.2.1⟩), ([2, 1, 53], ⟨false, [.int .i64, .int .i64], p.2.2.2.2⟩)]⟩)) else none
  | _ => none
noncomputable def c110 : Cfg := cfg Try.prog [(110, 0, [1, 2, 4, 6, 7]), (110, 999, [4, 5]), (110, 1000, [4, 6]), (110, 1001, [1, 2, 4, 6, 7])] [(68, m68), (127, m127)] [(134, m134)] [] [(110, 0, l110_0)]
theorem s110_0 (ce : CallE) (t1 : List AV) (t7 : Int) (h0 : List AV) (h1 : List AV) (h2_0 : List AV) (h2_1 : List AV) (h2_2 : List AV) (h3 : List AV) (next : St → Option AV) (k : Kont) : stepA (codeA c110 ce [] 110 0 (sub [1, 1, 1, 0, 1, 0, 0] (body Try.f110))) (normA [] [1, 2, 4, 6, 7]) next ⟨[(1, AV.sl [.int .i64, .int .i64] t1), (2, AV.ptr [0, 2] 0 0), (4, AV.ptr [0, 4] 0 0), (6, AV.ptr [0, 6] 0 0), (7, AV.int .i64 t7)], [([0, 0, 6], ⟨false, [.int .i64], h0⟩), ([0, 1, 6], ⟨false, [.int .i64], h1⟩), ([0, 2], ⟨true, [], [AV.agg [AV.sl [.int .i64] h2_0, AV.sl [.int .i64] h2_1, AV.sl [.int .i64, .int .i64] h2_2]]⟩), ([0, 2, 6], ⟨false, [.int .i64, .int .i64], h3⟩), ([0, 4], ⟨true, [], [AV.agg [AV.snil, AV.snil, AV.snil]]⟩), ([0, 6], ⟨true, [], [AV.agg [AV.own [0, 0, 6], AV.own [0, 1, 6], AV.own [0, 2, 6]]]⟩)]⟩ k = (bif decide (t7 < (t1.length : Int)) then (bif (decide (0 ≤ t7) && decide (t7 < (t1.length : Int))) then (bif (decide (0 ≤ t7) && decide (t7 < (t1.length : Int))) then (bif !(v68_0 (fI (t1.getD t7.toNat AV.undef) 0) 0 (IntKind.i64.wrap ((h0.length : Int) - 1))) then (bif q127 h2_0 h2_1 h2_2 then k .ret ⟨[(4, AV.ptr [0, 4] 0 0), (5, AV.bool false)], [([0, 0, 6], ⟨false, [.int .i64], h0⟩), ([0, 1, 6], ⟨false, [.int .i64], h1⟩), ([0, 1, 53], ⟨false, [.int .i64], (v127_0 h2_0 h2_1 h2_2)⟩), ([0, 2], ⟨true, [], [AV.agg [AV.sl [.int .i64] h2_0, AV.sl [.int .i64] h2_1, AV.sl [.int .i64, .int .i64] h2_2]]⟩), ([0, 2, 6], ⟨false, [.int .i64, .int .i64], h3⟩), ([0, 4], ⟨true, [], [AV.agg [AV.own [0, 1, 53], AV.own [1, 1, 53], AV.own [2, 1, 53]]]⟩), ([0, 6], ⟨true, [], [AV.agg [AV.own [0, 0, 6], AV.own [0, 1, 6], AV.own [0, 2, 6]]]⟩), ([1, 1, 53], ⟨false, [.int .i64], (v127_1 h2_0 h2_1 h2_2)⟩), ([2, 1, 53], ⟨false, [.int .i64, .int .i64], (v127_2 h2_0 h2_1 h2_2)⟩)]⟩
      else none)
     else (bif !(v68_0 (fI (t1.getD t7.toNat AV.undef) 1) 0 (IntKind.i64.wrap ((h0.length : Int) - 1))) then (bif q127 h2_0 h2_1 h2_2 then k .ret ⟨[(4, AV.ptr [0, 4] 0 0), (5, AV.bool false)], [([0, 0, 6], ⟨false, [.int .i64], h0⟩), ([0, 1, 6], ⟨false, [.int .i64], h1⟩), ([0, 1, 53], ⟨false, [.int .i64], (v127_0 h2_0 h2_1 h2_2)⟩), ([0, 2], ⟨true, [], [AV.agg [AV.sl [.int .i64] h2_0, AV.sl [.int .i64] h2_1, AV.sl [.int .i64, .int .i64] h2_2]]⟩), ([0, 2, 6], ⟨false, [.int .i64, .int .i64], h3⟩), ([0, 4], ⟨true, [], [AV.agg [AV.own [0, 1, 53], AV.own [1, 1, 53], AV.own [2, 1, 53]]]⟩), ([0, 6], ⟨true, [], [AV.agg [AV.own [0, 0, 6], AV.own [0, 1, 6], AV.own [0, 2, 6]]]⟩), ([1, 1, 53], ⟨false, [.int .i64], (v127_1 h2_0 h2_1 h2_2)⟩), ([2, 1, 53], ⟨false, [.int .i64, .int .i64], (v127_2 h2_0 h2_1 h2_2)⟩)]⟩
       else none)
      else (bif q134 (fI (t1.getD t7.toNat AV.undef) 0) (fI (t1.getD t7.toNat AV.undef) 1) h0 then (bif q134 (fI (t1.getD t7.toNat AV.undef) 0) (fI (t1.getD t7.toNat AV.undef) 1) h1 then next ⟨[(1, AV.sl [.int .i64, .int .i64] t1), (2, AV.ptr [0, 2] 0 0), (4, AV.ptr [0, 4] 0 0), (6, AV.ptr [0, 6] 0 0), (7, AV.int .i64 (IntKind.i64.wrap (t7 + 1)))], [([0, 0, 6], ⟨false, [.int .i64], (v134_0 (fI (t1.getD t7.toNat AV.undef) 0) (fI (t1.getD t7.toNat AV.undef) 1) h0)⟩), ([0, 1, 6], ⟨false, [.int .i64], (v134_0 (fI (t1.getD t7.toNat AV.undef) 0) (fI (t1.getD t7.toNat AV.undef) 1) h1)⟩), ([0, 2], ⟨true, [], [AV.agg [AV.sl [.int .i64] h2_0, AV.sl [.int .i64] h2_1, AV.sl [.int .i64, .int .i64] h2_2]]⟩), ([0, 2, 6], ⟨false, [.int .i64, .int .i64], h3⟩), ([0, 4], ⟨true, [], [AV.agg [AV.snil, AV.snil, AV.snil]]⟩), ([0, 6], ⟨true, [], [AV.agg [AV.own [0, 0, 6], AV.own [0, 1, 6], AV.own [0, 2, 6]]]⟩)]⟩
        else none)
       else none)))
    else none)
   else none)
  else k (.exit 0) ⟨[(4, AV.ptr [0, 4] 0 0), (6, AV.ptr [0, 6] 0 0)], [([0, 0, 6], ⟨false, [.int .i64], h0⟩), ([0, 1, 6], ⟨false, [.int .i64], h1⟩), ([0, 2], ⟨true, [], [AV.agg [AV.sl [.int .i64] h2_0, AV.sl [.int .i64] h2_1, AV.sl [.int .i64, .int .i64] h2_2]]⟩), ([0, 2, 6], ⟨false, [.int .i64, .int .i64], h3⟩), ([0, 4], ⟨true, [], [AV.agg [AV.snil, AV.snil, AV.snil]]⟩), ([0, 6], ⟨true, [], [AV.agg [AV.own [0, 0, 6], AV.own [0, 1, 6], AV.own [0, 2, 6]]]⟩)]⟩) := by kernel_rfl
theorem st110_0 (t1 : List AV) (h2_0 : List AV) (h2_1 : List AV) (h2_2 : List AV) (h3 : List AV) (ce : CallE) (k : Kont) (s : (Int × (List AV) × (List AV))) (next : St → Option AV) : stepA (codeA c110 ce [] 110 0 (sub [1, 1, 1, 0, 1, 0, 0] (body Try.f110))) (normA [] [1, 2, 4, 6, 7]) next ((fun s : Int × (List AV) × (List AV) => ⟨[(1, AV.sl [.int .i64, .int .i64] t1), (2, AV.ptr [0, 2] 0 0), (4, AV.ptr [0, 4] 0 0), (6, AV.ptr [0, 6] 0 0), (7, AV.int .i64 s.1)], [([0, 0, 6], ⟨false, [.int .i64], s.2.1⟩), ([0, 1, 6], ⟨false, [.int .i64], s.2.2⟩), ([0, 2], ⟨true, [], [AV.agg [AV.sl [.int .i64] h2_0, AV.sl [.int .i64] h2_1, AV.sl [.int .i64, .int .i64] h2_2]]⟩), ([0, 2, 6], ⟨false, [.int .i64, .int .i64], h3⟩), ([0, 4], ⟨true, [], [AV.agg [AV.snil, AV.snil, AV.snil]]⟩), ([0, 6], ⟨true, [], [AV.agg [AV.own [0, 0, 6], AV.own [0, 1, 6], AV.own [0, 2, 6]]]⟩)]⟩) s) k = (R110_0 t1 h2_0 h2_1 h2_2 h3 s).el none (fun s => next ((fun s : Int × (List AV) × (List AV) => ⟨[(1, AV.sl [.int .i64, .int .i64] t1), (2, AV.ptr [0, 2] 0 0), (4, AV.ptr [0, 4] 0 0), (6, AV.ptr [0, 6] 0 0), (7, AV.int .i64 s.1)], [([0, 0, 6], ⟨false, [.int .i64], s.2.1⟩), ([0, 1, 6], ⟨false, [.int .i64], s.2.2⟩), ([0, 2], ⟨true, [], [AV.agg [AV.sl [.int .i64] h2_0, AV.sl [.int .i64] h2_1, AV.sl [.int .i64, .int .i64] h2_2]]⟩), ([0, 2, 6], ⟨false, [.int .i64, .int .i64], h3⟩), ([0, 4], ⟨true, [], [AV.agg [AV.snil, AV.snil, AV.snil]]⟩), ([0, 6], ⟨true, [], [AV.agg [AV.own [0, 0, 6], AV.own [0, 1, 6], AV.own [0, 2, 6]]]⟩)]⟩) s)) (sumE (fun p : (List AV) × (List AV) => k (.exit 0) ⟨[(4, AV.ptr [0, 4] 0 0), (6, AV.ptr [0, 6] 0 0)], [([0, 0, 6], ⟨false, [.int .i64], p.1⟩), ([0, 1, 6], ⟨false, [.int .i64], p.2⟩), ([0, 2], ⟨true, [], [AV.agg [AV.sl [.int .i64] h2_0, AV.sl [.int .i64] h2_1, AV.sl [.int .i64, .int .i64] h2_2]]⟩), ([0, 2, 6], ⟨false, [.int .i64, .int .i64], h3⟩), ([0, 4], ⟨true, [], [AV.agg [AV.snil, AV.snil, AV.snil]]⟩), ([0, 6], ⟨true, [], [AV.agg [AV.own [0, 0, 6], AV.own [0, 1, 6], AV.own [0, 2, 6]]]⟩)]⟩) (fun p : (List AV) × (List AV) × (List AV) × (List AV) × (List AV) => k .ret ⟨[(4, AV.ptr [0, 4] 0 0), (5, AV.bool false)], [([0, 0, 6], ⟨false, [.int .i64], p.1⟩), ([0, 1, 6], ⟨false, [.int .i64], p.2.1⟩), ([0, 1, 53], ⟨false, [.int .i64], p.2.2.1⟩), ([0, 2], ⟨true, [], [AV.agg [AV.sl [.int .i64] h2_0, AV.sl [.int .i64] h2_1, AV.sl [.int .i64, .int .i64] h2_2]]⟩), ([0, 2, 6], ⟨false, [.int .i64, .int .i64], h3⟩), ([0, 4], ⟨true, [], [AV.agg [AV.own [0, 1, 53], AV.own [1, 1, 53], AV.own [2, 1, 53]]]⟩), ([0, 6], ⟨true, [], [AV.agg [AV.own [0, 0, 6], AV.own [0, 1, 6], AV.own [0, 2, 6]]]⟩), ([1, 1, 53], ⟨false, [.int .i64], p.2.2.2.1⟩), ([2, 1, 53], ⟨false, [.int .i64, .int .i64], p.2.2.2.2⟩)]⟩)) := (s110_0 ce t1 s.1 s.2.1 s.2.2 h2_0 h2_1 h2_2 h3 next k).trans (by unfold R110_0; unfold F110_0; simp only [el_cond, el_ro, el_sum, el_fail, el_next, el_stop] <;> rfl)
theorem ok110_0 {ce : CallE} : LoopOK c110 ce [] 110 0 (sub [1, 1, 1, 0, 1, 0, 0] (body Try.f110)) := by
  intro m hm st k r h
  obtain rfl : l110_0 = m := Option.some.inj hm
  unfold l110_0 at h
  split at h
  · rename_i g0 t1 g1 g2 g3 g4 g5 g6 g7 g8 g9 t7 g10 g11 h0 g12 g13 h1 g14 g15 h2_0 g16 h2_1 g17 h2_2 g18 g19 h3 g20 g21 g22 g23 g24
    obtain ⟨hg, h⟩ := bif_some h
    simp only [Bool.and_eq_true] at hg
    obtain ⟨⟨⟨⟨⟨⟨⟨⟨⟨⟨⟨⟨⟨⟨⟨⟨⟨⟨⟨⟨⟨⟨⟨⟨q0, q1⟩, q2⟩, q3⟩, q4⟩, q5⟩, q6⟩, q7⟩, q8⟩, q9⟩, q10⟩, q11⟩, q12⟩, q13⟩, q14⟩, q15⟩, q16⟩, q17⟩, q18⟩, q19⟩, q20⟩, q21⟩, q22⟩, q23⟩, q24⟩ := hg
    obtain rfl := ctsEq_eq _ _ q0
    obtain rfl := (nmEq_iff _ _).1 q1
    obtain rfl := Nat.eq_of_beq_eq_true q2
    obtain rfl := Nat.eq_of_beq_eq_true q3
    obtain rfl := (nmEq_iff _ _).1 q4
    obtain rfl := Nat.eq_of_beq_eq_true q5
    obtain rfl := Nat.eq_of_beq_eq_true q6
    obtain rfl := (nmEq_iff _ _).1 q7
    obtain rfl := Nat.eq_of_beq_eq_true q8
    obtain rfl := Nat.eq_of_beq_eq_true q9
    obtain rfl := (nmEq_iff _ _).1 q10
    obtain rfl := ctsEq_eq _ _ q11
    obtain rfl := (nmEq_iff _ _).1 q12
    obtain rfl := ctsEq_eq _ _ q13
    obtain rfl := (nmEq_iff _ _).1 q14
    obtain rfl := ctsEq_eq _ _ q15
    obtain rfl := ctsEq_eq _ _ q16
    obtain rfl := ctsEq_eq _ _ q17
    obtain rfl := (nmEq_iff _ _).1 q18
    obtain rfl := ctsEq_eq _ _ q19
    obtain rfl := (nmEq_iff _ _).1 q20
    obtain rfl := (nmEq_iff _ _).1 q21
    obtain rfl := (nmEq_iff _ _).1 q22
    obtain rfl := (nmEq_iff _ _).1 q23
    obtain rfl := (nmEq_iff _ _).1 q24
    refine ⟨(((t1.length : Int) - t7).toNat + 1), ?_⟩
    rw [← h]
    exact loop_run (fun s : Int × (List AV) × (List AV) => ⟨[(1, AV.sl [.int .i64, .int .i64] t1), (2, AV.ptr [0, 2] 0 0), (4, AV.ptr [0, 4] 0 0), (6, AV.ptr [0, 6] 0 0), (7, AV.int .i64 s.1)], [([0, 0, 6], ⟨false, [.int .i64], s.2.1⟩), ([0, 1, 6], ⟨false, [.int .i64], s.2.2⟩), ([0, 2], ⟨true, [], [AV.agg [AV.sl [.int .i64] h2_0, AV.sl [.int .i64] h2_1, AV.sl [.int .i64, .int .i64] h2_2]]⟩), ([0, 2, 6], ⟨false, [.int .i64, .int .i64], h3⟩), ([0, 4], ⟨true, [], [AV.agg [AV.snil, AV.snil, AV.snil]]⟩), ([0, 6], ⟨true, [], [AV.agg [AV.own [0, 0, 6], AV.own [0, 1, 6], AV.own [0, 2, 6]]]⟩)]⟩) (sumE (fun p : (List AV) × (List AV) => k (.exit 0) ⟨[(4, AV.ptr [0, 4] 0 0), (6, AV.ptr [0, 6] 0 0)], [([0, 0, 6], ⟨false, [.int .i64], p.1⟩), ([0, 1, 6], ⟨false, [.int .i64], p.2⟩), ([0, 2], ⟨true, [], [AV.agg [AV.sl [.int .i64] h2_0, AV.sl [.int .i64] h2_1, AV.sl [.int .i64, .int .i64] h2_2]]⟩), ([0, 2, 6], ⟨false, [.int .i64, .int .i64], h3⟩), ([0, 4], ⟨true, [], [AV.agg [AV.snil, AV.snil, AV.snil]]⟩), ([0, 6], ⟨true, [], [AV.agg [AV.own [0, 0, 6], AV.own [0, 1, 6], AV.own [0, 2, 6]]]⟩)]⟩) (fun p : (List AV) × (List AV) × (List AV) × (List AV) × (List AV) => k .ret ⟨[(4, AV.ptr [0, 4] 0 0), (5, AV.bool false)], [([0, 0, 6], ⟨false, [.int .i64], p.1⟩), ([0, 1, 6], ⟨false, [.int .i64], p.2.1⟩), ([0, 1, 53], ⟨false, [.int .i64], p.2.2.1⟩), ([0, 2], ⟨true, [], [AV.agg [AV.sl [.int .i64] h2_0, AV.sl [.int .i64] h2_1, AV.sl [.int .i64, .int .i64] h2_2]]⟩), ([0, 2, 6], ⟨false, [.int .i64, .int .i64], h3⟩), ([0, 4], ⟨true, [], [AV.agg [AV.own [0, 1, 53], AV.own [1, 1, 53], AV.own [2, 1, 53]]]⟩), ([0, 6], ⟨true, [], [AV.agg [AV.own [0, 0, 6], AV.own [0, 1, 6], AV.own [0, 2, 6]]]⟩), ([1, 1, 53], ⟨false, [.int .i64], p.2.2.2.1⟩), ([2, 1, 53], ⟨false, [.int .i64, .int .i64], p.2.2.2.2⟩)]⟩)) (st110_0 t1 h2_0 h2_1 h2_2 h3 ce k) _ (t7, h0, h1)
  · cases h
def q110 (a0_0 : List AV) (a0_1 : List AV) (a0_2 : List AV) (a1 : List AV) : Bool := (q127 a0_0 a0_1 a0_2 && (bif !decide (((v127_1 a0_0 a0_1 a0_2).length : Int) = ((v127_0 a0_0 a0_1 a0_2).length : Int)) then true else (ro (runW (R110_0 a1 a0_0 a0_1 a0_2 (v127_2 a0_0 a0_1 a0_2)) (((a1.length : Int) - 0).toNat + 1) (0, (v127_0 a0_0 a0_1 a0_2), (v127_1 a0_0 a0_1 a0_2))) false (sumE (fun p24 => true) (fun p25 => true)))))
def v110_0 (a0_0 : List AV) (a0_1 : List AV) (a0_2 : List AV) (a1 : List AV) : List AV := (bif !decide (((v127_1 a0_0 a0_1 a0_2).length : Int) = ((v127_0 a0_0 a0_1 a0_2).length : Int)) then (v127_0 a0_0 a0_1 a0_2) else (ro (runW (R110_0 a1 a0_0 a0_1 a0_2 (v127_2 a0_0 a0_1 a0_2)) (((a1.length : Int) - 0).toNat + 1) (0, (v127_0 a0_0 a0_1 a0_2), (v127_1 a0_0 a0_1 a0_2))) [] (sumE (fun p24 => p24.1) (fun p25 => p25.2.2.1))))
def v110_1 (a0_0 : List AV) (a0_1 : List AV) (a0_2 : List AV) (a1 : List AV) : List AV := (bif !decide (((v127_1 a0_0 a0_1 a0_2).length : Int) = ((v127_0 a0_0 a0_1 a0_2).length : Int)) then (v127_1 a0_0 a0_1 a0_2) else (ro (runW (R110_0 a1 a0_0 a0_1 a0_2 (v127_2 a0_0 a0_1 a0_2)) (((a1.length : Int) - 0).toNat + 1) (0, (v127_0 a0_0 a0_1 a0_2), (v127_1 a0_0 a0_1 a0_2))) [] (sumE (fun p24 => p24.2) (fun p25 => p25.2.2.2.1))))
def v110_2 (a0_0 : List AV) (a0_1 : List AV) (a0_2 : List AV) (a1 : List AV) : List AV := (bif !decide (((v127_1 a0_0 a0_1 a0_2).length : Int) = ((v127_0 a0_0 a0_1 a0_2).length : Int)) then (v127_2 a0_0 a0_1 a0_2) else (ro (runW (R110_0 a1 a0_0 a0_1 a0_2 (v127_2 a0_0 a0_1 a0_2)) (((a1.length : Int) - 0).toNat + 1) (0, (v127_0 a0_0 a0_1 a0_2), (v127_1 a0_0 a0_1 a0_2))) [] (sumE (fun p24 => (v127_2 a0_0 a0_1 a0_2)) (fun p25 => p25.2.2.2.2))))
def v110_3 (a0_0 : List AV) (a0_1 : List AV) (a0_2 : List AV) (a1 : List AV) : Bool := (bif !decide (((v127_1 a0_0 a0_1 a0_2).length : Int) = ((v127_0 a0_0 a0_1 a0_2).length : Int)) then false else (ro (runW (R110_0 a1 a0_0 a0_1 a0_2 (v127_2 a0_0 a0_1 a0_2)) (((a1.length : Int) - 0).toNat + 1) (0, (v127_0 a0_0 a0_1 a0_2), (v127_1 a0_0 a0_1 a0_2))) false (sumE (fun p24 => true) (fun p25 => false))))
theorem e110 (a0_0 : List AV) (a0_1 : List AV) (a0_2 : List AV) (a1 : List AV) : funA c110 0 110 [AV.agg [AV.sl [.int .i64] a0_0, AV.sl [.int .i64] a0_1, AV.sl [.int .i64, .int .i64] a0_2], AV.sl [.int .i64, .int .i64] a1] = (bif q127 a0_0 a0_1 a0_2 then (bif !decide (((v127_1 a0_0 a0_1 a0_2).length : Int) = ((v127_0 a0_0 a0_1 a0_2).length : Int)) then some (AV.tup [AV.agg [AV.fl [.int .i64] (v127_0 a0_0 a0_1 a0_2), AV.fl [.int .i64] (v127_1 a0_0 a0_1 a0_2), AV.fl [.int .i64, .int .i64] (v127_2 a0_0 a0_1 a0_2)], AV.bool false])
   else (ro (runW (R110_0 a1 a0_0 a0_1 a0_2 (v127_2 a0_0 a0_1 a0_2)) (((a1.length : Int) - 0).toNat + 1) (0, (v127_0 a0_0 a0_1 a0_2), (v127_1 a0_0 a0_1 a0_2))) none (sumE (fun p24 => some (AV.tup [AV.agg [AV.fl [.int .i64] p24.1, AV.fl [.int .i64] p24.2, AV.fl [.int .i64, .int .i64] (v127_2 a0_0 a0_1 a0_2)], AV.bool true])) (fun p25 => some (AV.tup [AV.agg [AV.fl [.int .i64] p25.2.2.1, AV.fl [.int .i64] p25.2.2.2.1, AV.fl [.int .i64, .int .i64] p25.2.2.2.2], AV.bool false])))))
  else none) := by kernel_rfl
theorem r110 (a0_0 : List AV) (a0_1 : List AV) (a0_2 : List AV) (a1 : List AV) (h : q110 a0_0 a0_1 a0_2 a1 = true) : funA c110 0 110 [AV.agg [AV.sl [.int .i64] a0_0, AV.sl [.int .i64] a0_1, AV.sl [.int .i64, .int .i64] a0_2], AV.sl [.int .i64, .int .i64] a1] = some (AV.tup [AV.agg [AV.fl [.int .i64] (v110_0 a0_0 a0_1 a0_2 a1), AV.fl [.int .i64] (v110_1 a0_0 a0_1 a0_2 a1), AV.fl [.int .i64, .int .i64] (v110_2 a0_0 a0_1 a0_2 a1)], AV.bool (v110_3 a0_0 a0_1 a0_2 a1)]) := (e110 a0_0 a0_1 a0_2 a1).trans ((brL (br (fun b => some (AV.tup [AV.agg [AV.fl [.int .i64] (bif b then (v127_0 a0_0 a0_1 a0_2) else (ro (runW (R110_0 a1 a0_0 a0_1 a0_2 (v127_2 a0_0 a0_1 a0_2)) (((a1.length : Int) - 0).toNat + 1) (0, (v127_0 a0_0 a0_1 a0_2), (v127_1 a0_0 a0_1 a0_2))) [] (sumE (fun p24 => p24.1) (fun p25 => p25.2.2.1)))), AV.fl [.int .i64] (bif b then (v127_1 a0_0 a0_1 a0_2) else (ro (runW (R110_0 a1 a0_0 a0_1 a0_2 (v127_2 a0_0 a0_1 a0_2)) (((a1.length : Int) - 0).toNat + 1) (0, (v127_0 a0_0 a0_1 a0_2), (v127_1 a0_0 a0_1 a0_2))) [] (sumE (fun p24 => p24.2) (fun p25 => p25.2.2.2.1)))), AV.fl [.int .i64, .int .i64] (bif b then (v127_2 a0_0 a0_1 a0_2) else (ro (runW (R110_0 a1 a0_0 a0_1 a0_2 (v127_2 a0_0 a0_1 a0_2)) (((a1.length : Int) - 0).toNat + 1) (0, (v127_0 a0_0 a0_1 a0_2), (v127_1 a0_0 a0_1 a0_2))) [] (sumE (fun p24 => (v127_2 a0_0 a0_1 a0_2)) (fun p25 => p25.2.2.2.2))))], AV.bool (bif b then false else (ro (runW (R110_0 a1 a0_0 a0_1 a0_2 (v127_2 a0_0 a0_1 a0_2)) (((a1.length : Int) - 0).toNat + 1) (0, (v127_0 a0_0 a0_1 a0_2), (v127_1 a0_0 a0_1 a0_2))) false (sumE (fun p24 => true) (fun p25 => false))))])) (fun _ => rfl) (brO (fun o : Option (((List AV) × (List AV)) ⊕ ((List AV) × (List AV) × (List AV) × (List AV) × (List AV))) => some (AV.tup [AV.agg [AV.fl [.int .i64] (ro o [] (sumE (fun p24 => p24.1) (fun p25 => p25.2.2.1))), AV.fl [.int .i64] (ro o [] (sumE (fun p24 => p24.2) (fun p25 => p25.2.2.2.1))), AV.fl [.int .i64, .int .i64] (ro o [] (sumE (fun p24 => (v127_2 a0_0 a0_1 a0_2)) (fun p25 => p25.2.2.2.2)))], AV.bool (ro o false (sumE (fun p24 => true) (fun p25 => false)))])) (brS (fun o : ((List AV) × (List AV)) ⊕ ((List AV) × (List AV) × (List AV) × (List AV) × (List AV)) => some (AV.tup [AV.agg [AV.fl [.int .i64] ((sumE (fun p24 => p24.1) (fun p25 => p25.2.2.1)) o), AV.fl [.int .i64] ((sumE (fun p24 => p24.2) (fun p25 => p25.2.2.2.1)) o), AV.fl [.int .i64, .int .i64] ((sumE (fun p24 => (v127_2 a0_0 a0_1 a0_2)) (fun p25 => p25.2.2.2.2)) o)], AV.bool ((sumE (fun p24 => true) (fun p25 => false)) o)])) (fun p24 => (fun _ => rfl)) (fun p25 => (fun _ => rfl)))))) h)
def m110 : TModel
  | [.agg [.sl g0 a0_0, .sl g1 a0_1, .sl g2 a0_2], .sl g3 a1] => bif ctsEq g0 ([.int .i64]) && ctsEq g1 ([.int .i64]) && ctsEq g2 ([.int .i64, .int .i64]) && ctsEq g3 ([.int .i64, .int .i64]) then some (q110 a0_0 a0_1 a0_2 a1, AV.tup [AV.agg [AV.fl [.int .i64] (v110_0 a0_0 a0_1 a0_2 a1), AV.fl [.int .i64] (v110_1 a0_0 a0_1 a0_2 a1), AV.fl [.int .i64, .int .i64] (v110_2 a0_0 a0_1 a0_2 a1)], AV.bool (v110_3 a0_0 a0_1 a0_2 a1)]) else none
  | _ => none
theorem k110 : Known Try.prog 110 := ⟨Try.f110, Try.func110, by kernel_rfl, by kernel_rfl⟩
theorem meets110 : Meets Try.prog 110 m110 := by
  refine meet (f := Try.f110) (l := [(0, sub [1, 1, 1, 0, 1, 0, 0] (body Try.f110))]) (hs := [(110, 0, [1, 2, 4, 6, 7]), (110, 999, [4, 5]), (110, 1000, [4, 6]), (110, 1001, [1, 2, 4, 6, 7])]) (ts := [(68, m68), (127, m127)]) (ws := [(134, m134)]) (is := []) (ls := [(110, 0, l110_0)]) (lvl := 0) mixed k110 Try.func110 (by kernel_rfl) (loops_cons ok110_0 noLoop) (allT_cons meets68 (allT_cons meets127 allT_nil)) (allM_cons meets134 allM_nil) noI fun w xs us r hl hv h => ?_
  unfold m110 at h
  split at h
  · rename_i g0 a0_0 g1 a0_1 g2 a0_2 g3 a1
    obtain ⟨hg, h⟩ := bif_pair h
    simp only [Bool.and_eq_true] at hg
    obtain ⟨⟨⟨q0, q1⟩, q2⟩, q3⟩ := hg
    obtain rfl := ctsEq_eq _ _ q0
    obtain rfl := ctsEq_eq _ _ q1
    obtain rfl := ctsEq_eq _ _ q2
    obtain rfl := ctsEq_eq _ _ q3
    obtain ⟨h1, rfl⟩ := pair_inj h
    exact r110 a0_0 a0_1 a0_2 a1 h1
  · cases h

/-! ### 111 loop.example/g01984/spec.AddPivot -/
def F111_0 (h0 : List AV) (h1 : List AV) (h2_0 : List AV) (h2_1 : List AV) (h2_2 : List AV) (h4_0 : Int) (h4_1 : Int) (t7 : Bool) (t8 : Int) (h3 : List AV) : Out ((Bool × Int × (List AV))) ((Bool × (List AV))) := (bif decide (t8 < (h2_2.length : Int)) then (bif !t7 then (bif (decide (0 ≤ t8) && decide (t8 < (h2_2.length : Int))) then (bif decide (fI (h2_2.getD t8.toNat AV.undef) 0 > h4_0) then (bif (decide ((h3.length + ([AV.agg [AV.int .i64 h4_0, AV.int .i64 h4_1]]).length) * 16 ≤ 140737488355328) && decide ((h3.length + ([AV.agg [AV.int .i64 h4_0, AV.int .i64 h4_1]]).length) ≤ 140737488355328)) then (bif (decide (0 ≤ t8) && decide (t8 < (h2_2.length : Int))) then (bif (decide (((h3 ++ ([AV.agg [AV.int .i64 h4_0, AV.int .i64 h4_1]])).length + ([AV.agg [AV.int .i64 (fI (h2_2.getD t8.toNat AV.undef) 0), AV.int .i64 (fI (h2_2.getD t8.toNat AV.undef) 1)]]).length) * 16 ≤ 140737488355328) && decide (((h3 ++ ([AV.agg [AV.int .i64 h4_0, AV.int .i64 h4_1]])).length + ([AV.agg [AV.int .i64 (fI (h2_2.getD t8.toNat AV.undef) 0), AV.int .i64 (fI (h2_2.getD t8.toNat AV.undef) 1)]]).length) ≤ 140737488355328)) then .next (true, IntKind.i64.wrap (t8 + 1), (h3 ++ ([AV.agg [AV.int .i64 h4_0, AV.int .i64 h4_1]])) ++ ([AV.agg [AV.int .i64 (fI (h2_2.getD t8.toNat AV.undef) 0), AV.int .i64 (fI (h2_2.getD t8.toNat AV.undef) 1)]]))
        else .fail)
       else .fail)
      else .fail)
     else (bif (decide (0 ≤ t8) && decide (t8 < (h2_2.length : Int))) then (bif (decide ((h3.length + ([AV.agg [AV.int .i64 (fI (h2_2.getD t8.toNat AV.undef) 0), AV.int .i64 (fI (h2_2.getD t8.toNat AV.undef) 1)]]).length) * 16 ≤ 140737488355328) && decide ((h3.length + ([AV.agg [AV.int .i64 (fI (h2_2.getD t8.toNat AV.undef) 0), AV.int .i64 (fI (h2_2.getD t8.toNat AV.undef) 1)]]).length) ≤ 140737488355328)) then .next (t7, IntKind.i64.wrap (t8 + 1), h3 ++ ([AV.agg [AV.int .i64 (fI (h2_2.getD t8.toNat AV.undef) 0), AV.int .i64 (fI (h2_2.getD t8.toNat AV.undef) 1)]]))
       else .fail)
      else .fail))
    else .fail)
   else (bif (decide (0 ≤ t8) && decide (t8 < (h2_2.length : Int))) then (bif (decide ((h3.length + ([AV.agg [AV.int .i64 (fI (h2_2.getD t8.toNat AV.undef) 0), AV.int .i64 (fI (h2_2.getD t8.toNat AV.undef) 1)]]).length) * 16 ≤ 140737488355328) && decide ((h3.length + ([AV.agg [AV.int .i64 (fI (h2_2.getD t8.toNat AV.undef) 0), AV.int .i64 (fI (h2_2.getD t8.toNat AV.undef) 1)]]).length) ≤ 140737488355328)) then .next (t7, IntKind.i64.wrap (t8 + 1), h3 ++ ([AV.agg [AV.int .i64 (fI (h2_2.getD t8.toNat AV.undef) 0), AV.int .i64 (fI (h2_2.getD t8.toNat AV.undef) 1)]]))
     else .fail)
    else .fail))
  else .stop (t7, h3))
def R111_0 (h0 : List AV) (h1 : List AV) (h2_0 : List AV) (h2_1 : List AV) (h2_2 : List AV) (h4_0 : Int) (h4_1 : Int) : ((Bool × Int × (List AV))) → Out ((Bool × Int × (List AV))) ((Bool × (List AV))) := fun s : Bool × Int × (List AV) => F111_0 h0 h1 h2_0 h2_1 h2_2 h4_0 h4_1 s.1 s.2.1 s.2.2
def l111_0 : LModel := fun _ _ st k => match st with
  | ⟨[(2, .ptr g0 g1 g2), (3, .ptr g3 g4 g5), (4, .ptr g6 g7 g8), (6, .ptr g9 g10 g11), (7, .bool t7), (8, .int .i64 t8)], [(g12, ⟨false, g13, h0⟩), (g14, ⟨false, g15, h1⟩), (g16, ⟨true, [], [.agg [.sl g17 h2_0, .sl g18 h2_1, .sl g19 h2_2]]⟩), (g20, ⟨false, g21, h3⟩), (g22, ⟨true, [], [.agg [.int .i64 h4_0, .int .i64 h4_1]]⟩), (g23, ⟨true, [], [.agg [.snil, .snil, .snil]]⟩), (g24, ⟨true, [], [.agg [.own g25, .own g26, .own g27]]⟩)]⟩ => bif nmEq g0 ([0, 2]) && Nat.beq g1 0 && Nat.beq g2 0 && nmEq g3 ([0, 3]) && Nat.beq g4 0 && Nat.beq g5 0 && nmEq g6 ([0, 4]) && Nat.beq g7 0 && Nat.beq g8 0 && nmEq g9 ([0, 6]) && Nat.beq g10 0 && Nat.beq g11 0 && nmEq g12 ([0, 0, 6]) && ctsEq g13 ([.int .i64]) && nmEq g14 ([0, 1, 6]) && ctsEq g15 ([.int .i64]) && nmEq g16 ([0, 2]) && ctsEq g17 ([.int .i64]) && ctsEq g18 ([.int .i64]) && ctsEq g19 ([.int .i64, .int .i64]) && nmEq g20 ([0, 2, 6]) && ctsEq g21 ([.int .i64, .int .i64]) && nmEq g22 ([0, 3]) && nmEq g23 ([0, 4]) && nmEq g24 ([0, 6]) && nmEq g25 ([0, 0, 6]) && nmEq g26 ([0, 1, 6]) && nmEq g27 ([0, 2, 6]) then ro (runW (R111_0 h0 h1 h2_0 h2_1 h2_2 h4_0 h4_1) (((h2_2.length : Int) - t8).toNat + 1) (t7, t8, h3)) none (fun p : Bool × (List AV) => k (.exit 0) ⟨[(2, AV.ptr [0, 2] 0 0), (3, AV.ptr [0, 3] 0 0), (4, AV.ptr [0, 4] 0 0), (6, AV.ptr [0, 6] 0 0), (7, AV.bool p.1)], [([0, 0, 6], ⟨false, [.int .i64], h0⟩), ([0, 1, 6], ⟨false, [.int .i64], h1⟩), ([0, 2], ⟨true, [], [AV.agg [AV.sl [.int .i64] h2_0, AV.sl [.int .i64] h2_1, AV.sl [.int .i64, .int .i64] h2_2]]⟩), ([0, 2, 6], ⟨false, [.int .i64, .int .i64], p.2⟩), ([0, 3], ⟨true, [], [AV.agg [AV.int .i64 h4_0, AV.int .i64 h4_1]]⟩), ([0, 4], ⟨true, [], [AV.agg [AV.snil, AV.snil, AV.snil]]⟩), ([0, 6], ⟨true, [], [AV.agg [AV.own [0, 0, 6], AV.own [0, 1, 6], AV.own [0, 2, 6]]]⟩)]⟩) else none
  | _ => none
noncomputable def c111 : Cfg := cfg Try.prog [(111, 0, [2, 3, 4, 6, 7, 8]), (111, 999, [4, 5]), (111, 1000, [2, 3, 4, 6, 7]), (111, 1001, [2, 3, 4, 6, 7, 8])] [(67, m67), (127, m127)] [] [] [(111, 0, l111_0)]
theorem s111_0 (ce : CallE) (t7 : Bool) (t8 : Int) (h0 : List AV) (h1 : List AV) (h2_0 : List AV) (h2_1 : List AV) (h2_2 : List AV) (h3 : List AV) (h4_0 : Int) (h4_1 : Int) (next : St → Option AV) (k : Kont) : stepA (codeA c111 ce [] 111 0 (sub [1, 1, 1, 1, 0, 1, 0, 0] (body Try.f111))) (normA [] [2, 3, 4, 6, 7, 8]) next ⟨[(2, AV.ptr [0, 2] 0 0), (3, AV.ptr [0, 3] 0 0), (4, AV.ptr [0, 4] 0 0), (6, AV.ptr [0, 6] 0 0), (7, AV.bool t7), (8, AV.int .i64 t8)], [([0, 0, 6], ⟨false, [.int .i64], h0⟩), ([0, 1, 6], ⟨false, [.int .i64], h1⟩), ([0, 2], ⟨true, [], [AV.agg [AV.sl [.int .i64] h2_0, AV.sl [.int .i64] h2_1, AV.sl [.int .i64, .int .i64] h2_2]]⟩), ([0, 2, 6], ⟨false, [.int .i64, .int .i64], h3⟩), ([0, 3], ⟨true, [], [AV.agg [AV.int .i64 h4_0, AV.int .i64 h4_1]]⟩), ([0, 4], ⟨true, [], [AV.agg [AV.snil, AV.snil, AV.snil]]⟩), ([0, 6], ⟨true, [], [AV.agg [AV.own [0, 0, 6], AV.own [0, 1, 6], AV.own [0, 2, 6]]]⟩)]⟩ k = (bif decide (t8 < (h2_2.length : Int)) then (bif !t7 then (bif (decide (0 ≤ t8) && decide (t8 < (h2_2.length : Int))) then (bif decide (fI (h2_2.getD t8.toNat AV.undef) 0 > h4_0) then (bif (decide ((h3.length + ([AV.agg [AV.int .i64 h4_0, AV.int .i64 h4_1]]).length) * 16 ≤ 140737488355328) && decide ((h3.length + ([AV.agg [AV.int .i64 h4_0, AV.int .i64 h4_1]]).length) ≤ 140737488355328)) then (bif (decide (0 ≤ t8) && decide (t8 < (h2_2.length : Int))) then (bif (decide (((h3 ++ ([AV.agg [AV.int .i64 h4_0, AV.int .i64 h4_1]])).length + ([AV.agg [AV.int .i64 (fI (h2_2.getD t8.toNat AV.undef) 0), AV.int .i64 (fI (h2_2.getD t8.toNat AV.undef) 1)]]).length) * 16 ≤ 140737488355328) && decide (((h3 ++ ([AV.agg [AV.int .i64 h4_0, AV.int .i64 h4_1]])).length + ([AV.agg [AV.int .i64 (fI (h2_2.getD t8.toNat AV.undef) 0), AV.int .i64 (fI (h2_2.getD t8.toNat AV.undef) 1)]]).length) ≤ 140737488355328)) then next ⟨[(2, AV.ptr [0, 2] 0 0), (3, AV.ptr [0, 3] 0 0), (4, AV.ptr [0, 4] 0 0), (6, AV.ptr [0, 6] 0 0), (7, AV.bool true), (8, AV.int .i64 (IntKind.i64.wrap (t8 + 1)))], [([0, 0, 6], ⟨false, [.int .i64], h0⟩), ([0, 1, 6], ⟨false, [.int .i64], h1⟩), ([0, 2], ⟨true, [], [AV.agg [AV.sl [.int .i64] h2_0, AV.sl [.int .i64] h2_1, AV.sl [.int .i64, .int .i64] h2_2]]⟩), ([0, 2, 6], ⟨false, [.int .i64, .int .i64], (h3 ++ ([AV.agg [AV.int .i64 h4_0, AV.int .i64 h4_1]])) ++ ([AV.agg [AV.int .i64 (fI (h2_2.getD t8.toNat AV.undef) 0), AV.int .i64 (fI (h2_2.getD t8.toNat AV.undef) 1)]])⟩), ([0, 3], ⟨true, [], [AV.agg [AV.int .i64 h4_0, AV.int .i64 h4_1]]⟩), ([0, 4], ⟨true, [], [AV.agg [AV.snil, AV.snil, AV.snil]]⟩), ([0, 6], ⟨true, [], [AV.agg [AV.own [0, 0, 6], AV.own [0, 1, 6], AV.own [0, 2, 6]]]⟩)]⟩
        else none)
       else none)
      else none)
     else (bif (decide (0 ≤ t8) && decide (t8 < (h2_2.length : Int))) then (bif (decide ((h3.length + ([AV.agg [AV.int .i64 (fI (h2_2.getD t8.toNat AV.undef) 0), AV.int .i64 (fI (h2_2.getD t8.toNat AV.undef) 1)]]).length) * 16 ≤ 140737488355328) && decide ((h3.length + ([AV.agg [AV.int .i64 (fI (h2_2.getD t8.toNat AV.undef) 0), AV.int .i64 (fI (h2_2.getD t8.toNat AV.undef) 1)]]).length) ≤ 140737488355328)) then next ⟨[(2, AV.ptr [0, 2] 0 0), (3, AV.ptr [0, 3] 0 0), (4, AV.ptr [0, 4] 0 0), (6, AV.ptr [0, 6] 0 0), (7, AV.bool t7), (8, AV.int .i64 (IntKind.i64.wrap (t8 + 1)))], [([0, 0, 6], ⟨false, [.int .i64], h0⟩), ([0, 1, 6], ⟨false, [.int .i64], h1⟩), ([0, 2], ⟨true, [], [AV.agg [AV.sl [.int .i64] h2_0, AV.sl [.int .i64] h2_1, AV.sl [.int .i64, .int .i64] h2_2]]⟩), ([0, 2, 6], ⟨false, [.int .i64, .int .i64], h3 ++ ([AV.agg [AV.int .i64 (fI (h2_2.getD t8.toNat AV.undef) 0), AV.int .i64 (fI (h2_2.getD t8.toNat AV.undef) 1)]])⟩), ([0, 3], ⟨true, [], [AV.agg [AV.int .i64 h4_0, AV.int .i64 h4_1]]⟩), ([0, 4], ⟨true, [], [AV.agg [AV.snil, AV.snil, AV.snil]]⟩), ([0, 6], ⟨true, [], [AV.agg [AV.own [0, 0, 6], AV.own [0, 1, 6], AV.own [0, 2, 6]]]⟩)]⟩
       else none)
      else none))
    else none)
   else (bif (decide (0 ≤ t8) && decide (t8 < (h2_2.length : Int))) then (bif (decide ((h3.length + ([AV.agg [AV.int .i64 (fI (h2_2.getD t8.toNat AV.undef) 0), AV.int .i64 (fI (h2_2.getD t8.toNat AV.undef) 1)]]).length) * 16 ≤ 140737488355328) && decide ((h3.length + ([AV.agg [AV.int .i64 (fI (h2_2.getD t8.toNat AV.undef) 0), AV.int .i64 (fI (h2_2.getD t8.toNat AV.undef) 1)]]).length) ≤ 140737488355328)) then next ⟨[(2, AV.ptr [0, 2] 0 0), (3, AV.ptr [0, 3] 0 0), (4, AV.ptr [0, 4] 0 0), (6, AV.ptr [0, 6] 0 0), (7, AV.bool t7), (8, AV.int .i64 (IntKind.i64.wrap (t8 + 1)))], [([0, 0, 6], ⟨false, [.int .i64], h0⟩), ([0, 1, 6], ⟨false, [.int .i64], h1⟩), ([0, 2], ⟨true, [], [AV.agg [AV.sl [.int .i64] h2_0, AV.sl [.int .i64] h2_1, AV.sl [.int .i64, .int .i64] h2_2]]⟩), ([0, 2, 6], ⟨false, [.int .i64, .int .i64], h3 ++ ([AV.agg [AV.int .i64 (fI (h2_2.getD t8.toNat AV.undef) 0), AV.int .i64 (fI (h2_2.getD t8.toNat AV.undef) 1)]])⟩), ([0, 3], ⟨true, [], [AV.agg [AV.int .i64 h4_0, AV.int .i64 h4_1]]⟩), ([0, 4], ⟨true, [], [AV.agg [AV.snil, AV.snil, AV.snil]]⟩), ([0, 6], ⟨true, [], [AV.agg [AV.own [0, 0, 6], AV.own [0, 1, 6], AV.own [0, 2, 6]]]⟩)]⟩
     else none)
    else none))
  else k (.exit 0) ⟨[(2, AV.ptr [0, 2] 0 0), (3, AV.ptr [0, 3] 0 0), (4, AV.ptr [0, 4] 0 0), (6, AV.ptr [0, 6] 0 0), (7, AV.bool t7)], [([0, 0, 6], ⟨false, [.int .i64], h0⟩), ([0, 1, 6], ⟨false, [.int .i64], h1⟩), ([0, 2], ⟨true, [], [AV.agg [AV.sl [.int .i64] h2_0, AV.sl [.int .i64] h2_1, AV.sl [.int .i64, .int .i64] h2_2]]⟩), ([0, 2, 6], ⟨false, [.int .i64, .int .i64], h3⟩), ([0, 3], ⟨true, [], [AV.agg [AV.int .i64 h4_0, AV.int .i64 h4_1]]⟩), ([0, 4], ⟨true, [], [AV.agg [AV.snil, AV.snil, AV.snil]]⟩), ([0, 6], ⟨true, [], [AV.agg [AV.own [0, 0, 6], AV.own [0, 1, 6], AV.own [0, 2, 6]]]⟩)]⟩) := by kernel_rfl
theorem st111_0 (h0 : List AV) (h1 : List AV) (h2_0 : List AV) (h2_1 : List AV) (h2_2 : List AV) (h4_0 : Int) (h4_1 : Int) (ce : CallE) (k : Kont) (s : (Bool × Int × (List AV))) (next : St → Option AV) : stepA (codeA c111 ce [] 111 0 (sub [1, 1, 1, 1, 0, 1, 0, 0] (body Try.f111))) (normA [] [2, 3, 4, 6, 7, 8]) next ((fun s : Bool × Int × (List AV) => ⟨[(2, AV.ptr [0, 2] 0 0), (3, AV.ptr [0, 3] 0 0), (4, AV.ptr [0, 4] 0 0), (6, AV.ptr [0, 6] 0 0), (7, AV.bool s.1), (8, AV.int .i64 s.2.1)], [([0, 0, 6], ⟨false, [.int .i64], h0⟩), ([0, 1, 6], ⟨false, [.int .i64], h1⟩), ([0, 2], ⟨true, [], [AV.agg [AV.sl [.int .i64] h2_0, AV.sl [.int .i64] h2_1, AV.sl [.int .i64, .int .i64] h2_2]]⟩), ([0, 2, 6], ⟨false, [.int .i64, .int .i64], s.2.2⟩), ([0, 3], ⟨true, [], [AV.agg [AV.int .i64 h4_0, AV.int .i64 h4_1]]⟩), ([0, 4], ⟨true, [], [AV.agg [AV.snil, AV.snil, AV.snil]]⟩), ([0, 6], ⟨true, [], [AV.agg [AV.own [0, 0, 6], AV.own [0, 1, 6], AV.own [0, 2, 6]]]⟩)]⟩) s) k = (R111_0 h0 h1 h2_0 h2_1 h2_2 h4_0 h4_1 s).el none (fun s => next ((fun s : Bool × Int × (List AV) => ⟨[(2, AV.ptr [0, 2] 0 0), (3, AV.ptr [0, 3] 0 0), (4, AV.ptr [0, 4] 0 0), (6, AV.ptr [0, 6] 0 0), (7, AV.bool s.1), (8, AV.int .i64 s.2.1)], [([0, 0, 6], ⟨false, [.int .i64], h0⟩), ([0, 1, 6], ⟨false, [.int .i64], h1⟩), ([0, 2], ⟨true, [], [AV.agg [AV.sl [.int .i64] h2_0, AV.sl [.int .i64] h2_1, AV.sl [.int .i64, .int .i64] h2_2]]⟩), ([0, 2, 6], ⟨false, [.int .i64, .int .i64], s.2.2⟩), ([0, 3], ⟨true, [], [AV.agg [AV.int .i64 h4_0, AV.int .i64 h4_1]]⟩), ([0, 4], ⟨true, [], [AV.agg [AV.snil, AV.snil, AV.snil]]⟩), ([0, 6], ⟨true, [], [AV.agg [AV.own [0, 0, 6], AV.own [0, 1, 6], AV.own [0, 2, 6]]]⟩)]⟩) s)) (fun p : Bool × (List AV) => k (.exit 0) ⟨[(2, AV.ptr [0, 2] 0 0), (3, AV.ptr [0, 3] 0 0), (4, AV.ptr [0, 4] 0 0), (6, AV.ptr [0, 6] 0 0), (7, AV.bool p.1)], [([0, 0, 6], ⟨false, [.int .i64], h0⟩), ([0, 1, 6], ⟨false, [.int .i64], h1⟩), ([0, 2], ⟨true, [], [AV.agg [AV.sl [.int .i64] h2_0, AV.sl [.int .i64] h2_1, AV.sl [.int .i64, .int .i64] h2_2]]⟩), ([0, 2, 6], ⟨false, [.int .i64, .int .i64], p.2⟩), ([0, 3], ⟨true, [], [AV.agg [AV.int .i64 h4_0, AV.int .i64 h4_1]]⟩), ([0, 4], ⟨true, [], [AV.agg [AV.snil, AV.snil, AV.snil]]⟩), ([0, 6], ⟨true, [], [AV.agg [AV.own [0, 0, 6], AV.own [0, 1, 6], AV.own [0, 2, 6]]]⟩)]⟩) := (s111_0 ce s.1 s.2.1 h0 h1 h2_0 h2_1 h2_2 s.2.2 h4_0 h4_1 next k).trans (by unfold R111_0; unfold F111_0; simp only [el_cond, el_ro, el_sum, el_fail, el_next, el_stop] <;> rfl)
theorem ok111_0 {ce : CallE} : LoopOK c111 ce [] 111 0 (sub [1, 1, 1, 1, 0, 1, 0, 0] (body Try.f111)) := by
  intro m hm st k r h
  obtain rfl : l111_0 = m := Option.some.inj hm
  unfold l111_0 at h
  split at h
  · rename_i g0 g1 g2 g3 g4 g5 g6 g7 g8 g9 g10 g11 t7 t8 g12 g13 h0 g14 g15 h1 g16 g17 h2_0 g18 h2_1 g19 h2_2 g20 g21 h3 g22 h4_0 h4_1 g23 g24 g25 g26 g27
    obtain ⟨hg, h⟩ := bif_some h
    simp only [Bool.and_eq_true] at hg
    obtain ⟨⟨⟨⟨⟨⟨⟨⟨⟨⟨⟨⟨⟨⟨⟨⟨⟨⟨⟨⟨⟨⟨⟨⟨⟨⟨⟨q0, q1⟩, q2⟩, q3⟩, q4⟩, q5⟩, q6⟩, q7⟩, q8⟩, q9⟩, q10⟩, q11⟩, q12⟩, q13⟩, q14⟩, q15⟩, q16⟩, q17⟩, q18⟩, q19⟩, q20⟩, q21⟩, q22⟩, q23⟩, q24⟩, q25⟩, q26⟩, q27⟩ := hg
    obtain rfl := (nmEq_iff _ _).1 q0
    obtain rfl := Nat.eq_of_beq_eq_true q1
    obtain rfl := Nat.eq_of_beq_eq_true q2
    obtain rfl := (nmEq_iff _ _).1 q3
    obtain rfl := Nat.eq_of_beq_eq_true q4
    obtain rfl := Nat.eq_of_beq_eq_true q5
    obtain rfl := (nmEq_iff _ _).1 q6
    obtain rfl := Nat.eq_of_beq_eq_true q7
    obtain rfl := Nat.eq_of_beq_eq_true q8
    obtain rfl := (nmEq_iff _ _).1 q9
    obtain rfl := Nat.eq_of_beq_eq_true q10
    obtain rfl := Nat.eq_of_beq_eq_true q11
    obtain rfl := (nmEq_iff _ _).1 q12
    obtain rfl := ctsEq_eq _ _ q13
    obtain rfl := (nmEq_iff _ _).1 q14
    obtain rfl := ctsEq_eq _ _ q15
    obtain rfl := (nmEq_iff _ _).1 q16
    obtain rfl := ctsEq_eq _ _ q17
    obtain rfl := ctsEq_eq _ _ q18
    obtain rfl := ctsEq_eq _ _ q19
    obtain rfl := (nmEq_iff _ _).1 q20
    obtain rfl := ctsEq_eq _ _ q21
    obtain rfl := (nmEq_iff _ _).1 q22
    obtain rfl := (nmEq_iff _ _).1 q23
    obtain rfl := (nmEq_iff _ _).1 q24
    obtain rfl := (nmEq_iff _ _).1 q25
    obtain rfl := (nmEq_iff _ _).1 q26
    obtain rfl := (nmEq_iff _ _).1 q27
    refine ⟨(((h2_2.length : Int) - t8).toNat + 1), ?_⟩
    rw [← h]
    exact loop_run (fun s : Bool × Int × (List AV) => ⟨[(2, AV.ptr [0, 2] 0 0), (3, AV.ptr [0, 3] 0 0), (4, AV.ptr [0, 4] 0 0), (6, AV.ptr [0, 6] 0 0), (7, AV.bool s.1), (8, AV.int .i64 s.2.1)], [([0, 0, 6], ⟨false, [.int .i64], h0⟩), ([0, 1, 6], ⟨false, [.int .i64], h1⟩), ([0, 2], ⟨true, [], [AV.agg [AV.sl [.int .i64] h2_0, AV.sl [.int .i64] h2_1, AV.sl [.int .i64, .int .i64] h2_2]]⟩), ([0, 2, 6], ⟨false, [.int .i64, .int .i64], s.2.2⟩), ([0, 3], ⟨true, [], [AV.agg [AV.int .i64 h4_0, AV.int .i64 h4_1]]⟩), ([0, 4], ⟨true, [], [AV.agg [AV.snil, AV.snil, AV.snil]]⟩), ([0, 6], ⟨true, [], [AV.agg [AV.own [0, 0, 6], AV.own [0, 1, 6], AV.own [0, 2, 6]]]⟩)]⟩) (fun p : Bool × (List AV) => k (.exit 0) ⟨[(2, AV.ptr [0, 2] 0 0), (3, AV.ptr [0, 3] 0 0), (4, AV.ptr [0, 4] 0 0), (6, AV.ptr [0, 6] 0 0), (7, AV.bool p.1)], [([0, 0, 6], ⟨false, [.int .i64], h0⟩), ([0, 1, 6], ⟨false, [.int .i64], h1⟩), ([0, 2], ⟨true, [], [AV.agg [AV.sl [.int .i64] h2_0, AV.sl [.int .i64] h2_1, AV.sl [.int .i64, .int .i64] h2_2]]⟩), ([0, 2, 6], ⟨false, [.int .i64, .int .i64], p.2⟩), ([0, 3], ⟨true, [], [AV.agg [AV.int .i64 h4_0, AV.int .i64 h4_1]]⟩), ([0, 4], ⟨true, [], [AV.agg [AV.snil, AV.snil, AV.snil]]⟩), ([0, 6], ⟨true, [], [AV.agg [AV.own [0, 0, 6], AV.own [0, 1, 6], AV.own [0, 2, 6]]]⟩)]⟩) (st111_0 h0 h1 h2_0 h2_1 h2_2 h4_0 h4_1 ce k) _ (t7, t8, h3)
  · cases h
def q111 (a0_0 : List AV) (a0_1 : List AV) (a0_2 : List AV) (a1_0 : Int) (a1_1 : Int) : Bool := (q127 a0_0 a0_1 a0_2 && (ro (runW (R111_0 (v127_0 a0_0 a0_1 a0_2) (v127_1 a0_0 a0_1 a0_2) a0_0 a0_1 a0_2 a1_0 a1_1) (((a0_2.length : Int) - 0).toNat + 1) (false, 0, ([] : List AV))) false (fun p26 => (bif !p26.1 then ((decide ((p26.2.length + ([AV.agg [AV.int .i64 a1_0, AV.int .i64 a1_1]]).length) * 16 ≤ 140737488355328) && decide ((p26.2.length + ([AV.agg [AV.int .i64 a1_0, AV.int .i64 a1_1]]).length) ≤ 140737488355328)) && (q67 a0_0 a0_1 a0_2 && (bif !(v67_0 a0_0 a0_1 a0_2) then q127 a0_0 a0_1 a0_2 else (q67 (v127_0 a0_0 a0_1 a0_2) (v127_1 a0_0 a0_1 a0_2) (p26.2 ++ ([AV.agg [AV.int .i64 a1_0, AV.int .i64 a1_1]])) && (bif !(v67_0 (v127_0 a0_0 a0_1 a0_2) (v127_1 a0_0 a0_1 a0_2) (p26.2 ++ ([AV.agg [AV.int .i64 a1_0, AV.int .i64 a1_1]]))) then q127 a0_0 a0_1 a0_2 else true))))) else (q67 a0_0 a0_1 a0_2 && (bif !(v67_0 a0_0 a0_1 a0_2) then q127 a0_0 a0_1 a0_2 else (q67 (v127_0 a0_0 a0_1 a0_2) (v127_1 a0_0 a0_1 a0_2) p26.2 && (bif !(v67_0 (v127_0 a0_0 a0_1 a0_2) (v127_1 a0_0 a0_1 a0_2) p26.2) then q127 a0_0 a0_1 a0_2 else true))))))))
def v111_0 (a0_0 : List AV) (a0_1 : List AV) (a0_2 : List AV) (a1_0 : Int) (a1_1 : Int) : List AV := (v127_0 a0_0 a0_1 a0_2)
def v111_1 (a0_0 : List AV) (a0_1 : List AV) (a0_2 : List AV) (a1_0 : Int) (a1_1 : Int) : List AV := (v127_1 a0_0 a0_1 a0_2)
def v111_2 (a0_0 : List AV) (a0_1 : List AV) (a0_2 : List AV) (a1_0 : Int) (a1_1 : Int) : List AV := (ro (runW (R111_0 (v127_0 a0_0 a0_1 a0_2) (v127_1 a0_0 a0_1 a0_2) a0_0 a0_1 a0_2 a1_0 a1_1) (((a0_2.length : Int) - 0).toNat + 1) (false, 0, ([] : List AV))) [] (fun p26 => (bif !p26.1 then (bif !(v67_0 a0_0 a0_1 a0_2) then (v127_2 a0_0 a0_1 a0_2) else (bif !(v67_0 (v127_0 a0_0 a0_1 a0_2) (v127_1 a0_0 a0_1 a0_2) (p26.2 ++ ([AV.agg [AV.int .i64 a1_0, AV.int .i64 a1_1]]))) then (v127_2 a0_0 a0_1 a0_2) else p26.2 ++ ([AV.agg [AV.int .i64 a1_0, AV.int .i64 a1_1]]))) else (bif !(v67_0 a0_0 a0_1 a0_2) then (v127_2 a0_0 a0_1 a0_2) else (bif !(v67_0 (v127_0 a0_0 a0_1 a0_2) (v127_1 a0_0 a0_1 a0_2) p26.2) then (v127_2 a0_0 a0_1 a0_2) else p26.2)))))
def v111_3 (a0_0 : List AV) (a0_1 : List AV) (a0_2 : List AV) (a1_0 : Int) (a1_1 : Int) : Bool := (ro (runW (R111_0 (v127_0 a0_0 a0_1 a0_2) (v127_1 a0_0 a0_1 a0_2) a0_0 a0_1 a0_2 a1_0 a1_1) (((a0_2.length : Int) - 0).toNat + 1) (false, 0, ([] : List AV))) false (fun p26 => (bif !p26.1 then (bif !(v67_0 a0_0 a0_1 a0_2) then false else (bif !(v67_0 (v127_0 a0_0 a0_1 a0_2) (v127_1 a0_0 a0_1 a0_2) (p26.2 ++ ([AV.agg [AV.int .i64 a1_0, AV.int .i64 a1_1]]))) then false else true)) else (bif !(v67_0 a0_0 a0_1 a0_2) then false else (bif !(v67_0 (v127_0 a0_0 a0_1 a0_2) (v127_1 a0_0 a0_1 a0_2) p26.2) then false else true)))))
theorem e111 (a0_0 : List AV) (a0_1 : List AV) (a0_2 : List AV) (a1_0 : Int) (a1_1 : Int) : funA c111 0 111 [AV.agg [AV.sl [.int .i64] a0_0, AV.sl [.int .i64] a0_1, AV.sl [.int .i64, .int .i64] a0_2], AV.agg [AV.int .i64 a1_0, AV.int .i64 a1_1]] = (bif q127 a0_0 a0_1 a0_2 then (ro (runW (R111_0 (v127_0 a0_0 a0_1 a0_2) (v127_1 a0_0 a0_1 a0_2) a0_0 a0_1 a0_2 a1_0 a1_1) (((a0_2.length : Int) - 0).toNat + 1) (false, 0, ([] : List AV))) none (fun p26 => (bif !p26.1 then (bif (decide ((p26.2.length + ([AV.agg [AV.int .i64 a1_0, AV.int .i64 a1_1]]).length) * 16 ≤ 140737488355328) && decide ((p26.2.length + ([AV.agg [AV.int .i64 a1_0, AV.int .i64 a1_1]]).length) ≤ 140737488355328)) then (bif q67 a0_0 a0_1 a0_2 then (bif !(v67_0 a0_0 a0_1 a0_2) then (bif q127 a0_0 a0_1 a0_2 then some (AV.tup [AV.agg [AV.fl [.int .i64] (v127_0 a0_0 a0_1 a0_2), AV.fl [.int .i64] (v127_1 a0_0 a0_1 a0_2), AV.fl [.int .i64, .int .i64] (v127_2 a0_0 a0_1 a0_2)], AV.bool false])
        else none)
       else (bif q67 (v127_0 a0_0 a0_1 a0_2) (v127_1 a0_0 a0_1 a0_2) (p26.2 ++ ([AV.agg [AV.int .i64 a1_0, AV.int .i64 a1_1]])) then (bif !(v67_0 (v127_0 a0_0 a0_1 a0_2) (v127_1 a0_0 a0_1 a0_2) (p26.2 ++ ([AV.agg [AV.int .i64 a1_0, AV.int .i64 a1_1]]))) then (bif q127 a0_0 a0_1 a0_2 then some (AV.tup [AV.agg [AV.fl [.int .i64] (v127_0 a0_0 a0_1 a0_2), AV.fl [.int .i64] (v127_1 a0_0 a0_1 a0_2), AV.fl [.int .i64, .int .i64] (v127_2 a0_0 a0_1 a0_2)], AV.bool false])
          else none)
         else some (AV.tup [AV.agg [AV.fl [.int .i64] (v127_0 a0_0 a0_1 a0_2), AV.fl [.int .i64] (v127_1 a0_0 a0_1 a0_2), AV.fl [.int .i64, .int .i64] (p26.2 ++ ([AV.agg [AV.int .i64 a1_0, AV.int .i64 a1_1]]))], AV.bool true]))
        else none))
      else none)
     else none)
    else (bif q67 a0_0 a0_1 a0_2 then (bif !(v67_0 a0_0 a0_1 a0_2) then (bif q127 a0_0 a0_1 a0_2 then some (AV.tup [AV.agg [AV.fl [.int .i64] (v127_0 a0_0 a0_1 a0_2), AV.fl [.int .i64] (v127_1 a0_0 a0_1 a0_2), AV.fl [.int .i64, .int .i64] (v127_2 a0_0 a0_1 a0_2)], AV.bool false])
       else none)
      else (bif q67 (v127_0 a0_0 a0_1 a0_2) (v127_1 a0_0 a0_1 a0_2) p26.2 then (bif !(v67_0 (v127_0 a0_0 a0_1 a0_2) (v127_1 a0_0 a0_1 a0_2) p26.2) then (bif q127 a0_0 a0_1 a0_2 then some (AV.tup [AV.agg [AV.fl [.int .i64] (v127_0 a0_0 a0_1 a0_2), AV.fl [.int .i64] (v127_1 a0_0 a0_1 a0_2), AV.fl [.int .i64, .int .i64] (v127_2 a0_0 a0_1 a0_2)], AV.bool false])
         else none)
        else some (AV.tup [AV.agg [AV.fl [.int .i64] (v127_0 a0_0 a0_1 a0_2), AV.fl [.int .i64] (v127_1 a0_0 a0_1 a0_2), AV.fl [.int .i64, .int .i64] p26.2], AV.bool true]))
       else none))
     else none))))
  else none) := by kernel_rfl
theorem r111 (a0_0 : List AV) (a0_1 : List AV) (a0_2 : List AV) (a1_0 : Int) (a1_1 : Int) (h : q111 a0_0 a0_1 a0_2 a1_0 a1_1 = true) : funA c111 0 111 [AV.agg [AV.sl [.int .i64] a0_0, AV.sl [.int .i64] a0_1, AV.sl [.int .i64, .int .i64] a0_2], AV.agg [AV.int .i64 a1_0, AV.int .i64 a1_1]] = some (AV.tup [AV.agg [AV.fl [.int .i64] (v111_0 a0_0 a0_1 a0_2 a1_0 a1_1), AV.fl [.int .i64] (v111_1 a0_0 a0_1 a0_2 a1_0 a1_1), AV.fl [.int .i64, .int .i64] (v111_2 a0_0 a0_1 a0_2 a1_0 a1_1)], AV.bool (v111_3 a0_0 a0_1 a0_2 a1_0 a1_1)]) := (e111 a0_0 a0_1 a0_2 a1_0 a1_1).trans ((brL (brO (fun o : Option ((Bool × (List AV))) => some (AV.tup [AV.agg [AV.fl [.int .i64] (v127_0 a0_0 a0_1 a0_2), AV.fl [.int .i64] (v127_1 a0_0 a0_1 a0_2), AV.fl [.int .i64, .int .i64] (ro o [] (fun p26 => (bif !p26.1 then (bif !(v67_0 a0_0 a0_1 a0_2) then (v127_2 a0_0 a0_1 a0_2) else (bif !(v67_0 (v127_0 a0_0 a0_1 a0_2) (v127_1 a0_0 a0_1 a0_2) (p26.2 ++ ([AV.agg [AV.int .i64 a1_0, AV.int .i64 a1_1]]))) then (v127_2 a0_0 a0_1 a0_2) else p26.2 ++ ([AV.agg [AV.int .i64 a1_0, AV.int .i64 a1_1]]))) else (bif !(v67_0 a0_0 a0_1 a0_2) then (v127_2 a0_0 a0_1 a0_2) else (bif !(v67_0 (v127_0 a0_0 a0_1 a0_2) (v127_1 a0_0 a0_1 a0_2) p26.2) then (v127_2 a0_0 a0_1 a0_2) else p26.2)))))], AV.bool (ro o false (fun p26 => (bif !p26.1 then (bif !(v67_0 a0_0 a0_1 a0_2) then false else (bif !(v67_0 (v127_0 a0_0 a0_1 a0_2) (v127_1 a0_0 a0_1 a0_2) (p26.2 ++ ([AV.agg [AV.int .i64 a1_0, AV.int .i64 a1_1]]))) then false else true)) else (bif !(v67_0 a0_0 a0_1 a0_2) then false else (bif !(v67_0 (v127_0 a0_0 a0_1 a0_2) (v127_1 a0_0 a0_1 a0_2) p26.2) then false else true)))))])) (fun p26 => (br (fun b => some (AV.tup [AV.agg [AV.fl [.int .i64] (v127_0 a0_0 a0_1 a0_2), AV.fl [.int .i64] (v127_1 a0_0 a0_1 a0_2), AV.fl [.int .i64, .int .i64] (bif b then (bif !(v67_0 a0_0 a0_1 a0_2) then (v127_2 a0_0 a0_1 a0_2) else (bif !(v67_0 (v127_0 a0_0 a0_1 a0_2) (v127_1 a0_0 a0_1 a0_2) (p26.2 ++ ([AV.agg [AV.int .i64 a1_0, AV.int .i64 a1_1]]))) then (v127_2 a0_0 a0_1 a0_2) else p26.2 ++ ([AV.agg [AV.int .i64 a1_0, AV.int .i64 a1_1]]))) else (bif !(v67_0 a0_0 a0_1 a0_2) then (v127_2 a0_0 a0_1 a0_2) else (bif !(v67_0 (v127_0 a0_0 a0_1 a0_2) (v127_1 a0_0 a0_1 a0_2) p26.2) then (v127_2 a0_0 a0_1 a0_2) else p26.2)))], AV.bool (bif b then (bif !(v67_0 a0_0 a0_1 a0_2) then false else (bif !(v67_0 (v127_0 a0_0 a0_1 a0_2) (v127_1 a0_0 a0_1 a0_2) (p26.2 ++ ([AV.agg [AV.int .i64 a1_0, AV.int .i64 a1_1]]))) then false else true)) else (bif !(v67_0 a0_0 a0_1 a0_2) then false else (bif !(v67_0 (v127_0 a0_0 a0_1 a0_2) (v127_1 a0_0 a0_1 a0_2) p26.2) then false else true)))])) (brL (brL (br (fun b => some (AV.tup [AV.agg [AV.fl [.int .i64] (v127_0 a0_0 a0_1 a0_2), AV.fl [.int .i64] (v127_1 a0_0 a0_1 a0_2), AV.fl [.int .i64, .int .i64] (bif b then (v127_2 a0_0 a0_1 a0_2) else (bif !(v67_0 (v127_0 a0_0 a0_1 a0_2) (v127_1 a0_0 a0_1 a0_2) (p26.2 ++ ([AV.agg [AV.int .i64 a1_0, AV.int .i64 a1_1]]))) then (v127_2 a0_0 a0_1 a0_2) else p26.2 ++ ([AV.agg [AV.int .i64 a1_0, AV.int .i64 a1_1]])))], AV.bool (bif b then false else (bif !(v67_0 (v127_0 a0_0 a0_1 a0_2) (v127_1 a0_0 a0_1 a0_2) (p26.2 ++ ([AV.agg [AV.int .i64 a1_0, AV.int .i64 a1_1]]))) then false else true))])) (brL1 (fun _ => rfl)) (brL (br (fun b => some (AV.tup [AV.agg [AV.fl [.int .i64] (v127_0 a0_0 a0_1 a0_2), AV.fl [.int .i64] (v127_1 a0_0 a0_1 a0_2), AV.fl [.int .i64, .int .i64] (bif b then (v127_2 a0_0 a0_1 a0_2) else p26.2 ++ ([AV.agg [AV.int .i64 a1_0, AV.int .i64 a1_1]]))], AV.bool (bif b then false else true)])) (brL1 (fun _ => rfl)) (fun _ => rfl)))))) (brL (br (fun b => some (AV.tup [AV.agg [AV.fl [.int .i64] (v127_0 a0_0 a0_1 a0_2), AV.fl [.int .i64] (v127_1 a0_0 a0_1 a0_2), AV.fl [.int .i64, .int .i64] (bif b then (v127_2 a0_0 a0_1 a0_2) else (bif !(v67_0 (v127_0 a0_0 a0_1 a0_2) (v127_1 a0_0 a0_1 a0_2) p26.2) then (v127_2 a0_0 a0_1 a0_2) else p26.2))], AV.bool (bif b then false else (bif !(v67_0 (v127_0 a0_0 a0_1 a0_2) (v127_1 a0_0 a0_1 a0_2) p26.2) then false else true))])) (brL1 (fun _ => rfl)) (brL (br (fun b => some (AV.tup [AV.agg [AV.fl [.int .i64] (v127_0 a0_0 a0_1 a0_2), AV.fl [.int .i64] (v127_1 a0_0 a0_1 a0_2), AV.fl [.int .i64, .int .i64] (bif b then (v127_2 a0_0 a0_1 a0_2) else p26.2)], AV.bool (bif b then false else true)])) (brL1 (fun _ => rfl)) (fun _ => rfl))))))))) h)
def m111 : TModel
  | [.agg [.sl g0 a0_0, .sl g1 a0_1, .sl g2 a0_2], .agg [.int .i64 a1_0, .int .i64 a1_1]] => bif ctsEq g0 ([.int .i64]) && ctsEq g1 ([.int .i64]) && ctsEq g2 ([.int .i64, .int .i64]) then some (q111 a0_0 a0_1 a0_2 a1_0 a1_1, AV.tup [AV.agg [AV.fl [.int .i64] (v111_0 a0_0 a0_1 a0_2 a1_0 a1_1), AV.fl [.int .i64] (v111_1 a0_0 a0_1 a0_2 a1_0 a1_1), AV.fl [.int .i64, .int .i64] (v111_2 a0_0 a0_1 a0_2 a1_0 a1_1)], AV.bool (v111_3 a0_0 a0_1 a0_2 a1_0 a1_1)]) else none
  | _ => none
theorem k111 : Known Try.prog 111 := ⟨Try.f111, Try.func111, by kernel_rfl, by kernel_rfl⟩
theorem meets111 : Meets Try.prog 111 m111 := by
  refine meet (f := Try.f111) (l := [(0, sub [1, 1, 1, 1, 0, 1, 0, 0] (body Try.f111))]) (hs := [(111, 0, [2, 3, 4, 6, 7, 8]), (111, 999, [4, 5]), (111, 1000, [2, 3, 4, 6, 7]), (111, 1001, [2, 3, 4, 6, 7, 8])]) (ts := [(67, m67), (127, m127)]) (ws := []) (is := []) (ls := [(111, 0, l111_0)]) (lvl := 0) mixed k111 Try.func111 (by kernel_rfl) (loops_cons ok111_0 noLoop) (allT_cons meets67 (allT_cons meets127 allT_nil)) allM_nil noI fun w xs us r hl hv h => ?_
  unfold m111 at h
  split at h
  · rename_i g0 a0_0 g1 a0_1 g2 a0_2 a1_0 a1_1
    obtain ⟨hg, h⟩ := bif_pair h
    simp only [Bool.and_eq_true] at hg
    obtain ⟨⟨q0, q1⟩, q2⟩ := hg
    obtain rfl := ctsEq_eq _ _ q0
    obtain rfl := ctsEq_eq _ _ q1
    obtain rfl := ctsEq_eq _ _ q2
    obtain ⟨h1, rfl⟩ := pair_inj h
    exact r111 a0_0 a0_1 a0_2 a1_0 a1_1 h1
  · cases h

/-! ### 96 loop.example/g01984/spec.CrackAt -/
noncomputable def c96 : Cfg := cfg Try.prog [(96, 999, [4, 5, 6])] [(67, m67), (68, m68), (95, m95), (97, m97), (110, m110), (111, m111), (127, m127), (143, m143)] [] [] []
def q96 (a0_0 : List AV) (a0_1 : List AV) (a0_2 : List AV) (a1 : Int) : Bool := (q67 a0_0 a0_1 a0_2 && (bif !(v67_0 a0_0 a0_1 a0_2) then q127 a0_0 a0_1 a0_2 else (bif !(v68_0 a1 (-1000) 1000) then q127 a0_0 a0_1 a0_2 else (q95 a0_0 a0_1 a0_2 a1 && (bif (v95_1 a0_0 a0_1 a0_2 a1) then q127 a0_0 a0_1 a0_2 else (q97 a0_0 a0_1 a0_2 a1 && (q143 a0_0 (v97_0 a0_0 a0_1 a0_2 a1) (v97_1 a0_0 a0_1 a0_2 a1) a1 && (q110 a0_0 a0_1 a0_2 (v143_0 a0_0 (v97_0 a0_0 a0_1 a0_2 a1) (v97_1 a0_0 a0_1 a0_2 a1) a1) && q111 (v110_0 a0_0 a0_1 a0_2 (v143_0 a0_0 (v97_0 a0_0 a0_1 a0_2 a1) (v97_1 a0_0 a0_1 a0_2 a1) a1)) (v110_1 a0_0 a0_1 a0_2 (v143_0 a0_0 (v97_0 a0_0 a0_1 a0_2 a1) (v97_1 a0_0 a0_1 a0_2 a1) a1)) (v110_2 a0_0 a0_1 a0_2 (v143_0 a0_0 (v97_0 a0_0 a0_1 a0_2 a1) (v97_1 a0_0 a0_1 a0_2 a1) a1)) a1 (v143_1 a0_0 (v97_0 a0_0 a0_1 a0_2 a1) (v97_1 a0_0 a0_1 a0_2 a1) a1)))))))))
def v96_0 (a0_0 : List AV) (a0_1 : List AV) (a0_2 : List AV) (a1 : Int) : List AV := (bif !(v67_0 a0_0 a0_1 a0_2) then (v127_0 a0_0 a0_1 a0_2) else (bif !(v68_0 a1 (-1000) 1000) then (v127_0 a0_0 a0_1 a0_2) else (bif (v95_1 a0_0 a0_1 a0_2 a1) then (v127_0 a0_0 a0_1 a0_2) else (v111_0 (v110_0 a0_0 a0_1 a0_2 (v143_0 a0_0 (v97_0 a0_0 a0_1 a0_2 a1) (v97_1 a0_0 a0_1 a0_2 a1) a1)) (v110_1 a0_0 a0_1 a0_2 (v143_0 a0_0 (v97_0 a0_0 a0_1 a0_2 a1) (v97_1 a0_0 a0_1 a0_2 a1) a1)) (v110_2 a0_0 a0_1 a0_2 (v143_0 a0_0 (v97_0 a0_0 a0_1 a0_2 a1) (v97_1 a0_0 a0_1 a0_2 a1) a1)) a1 (v143_1 a0_0 (v97_0 a0_0 a0_1 a0_2 a1) (v97_1 a0_0 a0_1 a0_2 a1) a1)))))
def v96_1 (a0_0 : List AV) (a0_1 : List AV) (a0_2 : List AV) (a1 : Int) : List AV := (bif !(v67_0 a0_0 a0_1 a0_2) then (v127_1 a0_0 a0_1 a0_2) else (bif !(v68_0 a1 (-1000) 1000) then (v127_1 a0_0 a0_1 a0_2) else (bif (v95_1 a0_0 a0_1 a0_2 a1) then (v127_1 a0_0 a0_1 a0_2) else (v111_1 (v110_0 a0_0 a0_1 a0_2 (v143_0 a0_0 (v97_0 a0_0 a0_1 a0_2 a1) (v97_1 a0_0 a0_1 a0_2 a1) a1)) (v110_1 a0_0 a0_1 a0_2 (v143_0 a0_0 (v97_0 a0_0 a0_1 a0_2 a1) (v97_1 a0_0 a0_1 a0_2 a1) a1)) (v110_2 a0_0 a0_1 a0_2 (v143_0 a0_0 (v97_0 a0_0 a0_1 a0_2 a1) (v97_1 a0_0 a0_1 a0_2 a1) a1)) a1 (v143_1 a0_0 (v97_0 a0_0 a0_1 a0_2 a1) (v97_1 a0_0 a0_1 a0_2 a1) a1)))))
def v96_2 (a0_0 : List AV) (a0_1 : List AV) (a0_2 : List AV) (a1 : Int) : List AV := (bif !(v67_0 a0_0 a0_1 a0_2) then (v127_2 a0_0 a0_1 a0_2) else (bif !(v68_0 a1 (-1000) 1000) then (v127_2 a0_0 a0_1 a0_2) else (bif (v95_1 a0_0 a0_1 a0_2 a1) then (v127_2 a0_0 a0_1 a0_2) else (v111_2 (v110_0 a0_0 a0_1 a0_2 (v143_0 a0_0 (v97_0 a0_0 a0_1 a0_2 a1) (v97_1 a0_0 a0_1 a0_2 a1) a1)) (v110_1 a0_0 a0_1 a0_2 (v143_0 a0_0 (v97_0 a0_0 a0_1 a0_2 a1) (v97_1 a0_0 a0_1 a0_2 a1) a1)) (v110_2 a0_0 a0_1 a0_2 (v143_0 a0_0 (v97_0 a0_0 a0_1 a0_2 a1) (v97_1 a0_0 a0_1 a0_2 a1) a1)) a1 (v143_1 a0_0 (v97_0 a0_0 a0_1 a0_2 a1) (v97_1 a0_0 a0_1 a0_2 a1) a1)))))
def v96_3 (a0_0 : List AV) (a0_1 : List AV) (a0_2 : List AV) (a1 : Int) : List AV := (bif !(v67_0 a0_0 a0_1 a0_2) then ([] : List AV) else (bif !(v68_0 a1 (-1000) 1000) then ([] : List AV) else (bif (v95_1 a0_0 a0_1 a0_2 a1) then ([] : List AV) else (v143_0 a0_0 (v97_0 a0_0 a0_1 a0_2 a1) (v97_1 a0_0 a0_1 a0_2 a1) a1))))
def v96_4 (a0_0 : List AV) (a0_1 : List AV) (a0_2 : List AV) (a1 : Int) : Bool := (bif !(v67_0 a0_0 a0_1 a0_2) then false else (bif !(v68_0 a1 (-1000) 1000) then false else true))
theorem e96 (a0_0 : List AV) (a0_1 : List AV) (a0_2 : List AV) (a1 : Int) : funA c96 0 96 [AV.agg [AV.sl [.int .i64] a0_0, AV.sl [.int .i64] a0_1, AV.sl [.int .i64, .int .i64] a0_2], AV.int .i64 a1] = (bif q67 a0_0 a0_1 a0_2 then (bif !(v67_0 a0_0 a0_1 a0_2) then (bif q127 a0_0 a0_1 a0_2 then some (AV.tup [AV.agg [AV.fl [.int .i64] (v127_0 a0_0 a0_1 a0_2), AV.fl [.int .i64] (v127_1 a0_0 a0_1 a0_2), AV.fl [.int .i64, .int .i64] (v127_2 a0_0 a0_1 a0_2)], AV.fl [.int .i64, .int .i64] ([] : List AV), AV.bool false])
    else none)
   else (bif !(v68_0 a1 (-1000) 1000) then (bif q127 a0_0 a0_1 a0_2 then some (AV.tup [AV.agg [AV.fl [.int .i64] (v127_0 a0_0 a0_1 a0_2), AV.fl [.int .i64] (v127_1 a0_0 a0_1 a0_2), AV.fl [.int .i64, .int .i64] (v127_2 a0_0 a0_1 a0_2)], AV.fl [.int .i64, .int .i64] ([] : List AV), AV.bool false])
     else none)
    else (bif q95 a0_0 a0_1 a0_2 a1 then (bif (v95_1 a0_0 a0_1 a0_2 a1) then (bif q127 a0_0 a0_1 a0_2 then some (AV.tup [AV.agg [AV.fl [.int .i64] (v127_0 a0_0 a0_1 a0_2), AV.fl [.int .i64] (v127_1 a0_0 a0_1 a0_2), AV.fl [.int .i64, .int .i64] (v127_2 a0_0 a0_1 a0_2)], AV.fl [.int .i64, .int .i64] ([] : List AV), AV.bool true])
       else none)
      else (bif q97 a0_0 a0_1 a0_2 a1 then (bif q143 a0_0 (v97_0 a0_0 a0_1 a0_2 a1) (v97_1 a0_0 a0_1 a0_2 a1) a1 then (bif q110 a0_0 a0_1 a0_2 (v143_0 a0_0 (v97_0 a0_0 a0_1 a0_2 a1) (v97_1 a0_0 a0_1 a0_2 a1) a1) then (bif q111 (v110_0 a0_0 a0_1 a0_2 (v143_0 a0_0 (v97_0 a0_0 a0_1 a0_2 a1) (v97_1 a0_0 a0_1 a0_2 a1) a1)) (v110_1 a0_0 a0_1 a0_2 (v143_0 a0_0 (v97_0 a0_0 a0_1 a0_2 a1) (v97_1 a0_0 a0_1 a0_2 a1) a1)) (v110_2 a0_0 a0_1 a0_2 (v143_0 a0_0 (v97_0 a0_0 a0_1 a0_2 a1) (v97_1 a0_0 a0_1 a0_2 a1) a1)) a1 (v143_1 a0_0 (v97_0 a0_0 a0_1 a0_2 a1) (v97_1 a0_0 a0_1 a0_2 a1) a1) then some (AV.tup [AV.agg [AV.fl [.int .i64] (v111_0 (v110_0 a0_0 a0_1 a0_2 (v143_0 a0_0 (v97_0 a0_0 a0_1 a0_2 a1) (v97_1 a0_0 a0_1 a0_2 a1) a1)) (v110_1 a0_0 a0_1 a0_2 (v143_0 a0_0 (v97_0 a0_0 a0_1 a0_2 a1) (v97_1 a0_0 a0_1 a0_2 a1) a1)) (v110_2 a0_0 a0_1 a0_2 (v143_0 a0_0 (v97_0 a0_0 a0_1 a0_2 a1) (v97_1 a0_0 a0_1 a0_2 a1) a1)) a1 (v143_1 a0_0 (v97_0 a0_0 a0_1 a0_2 a1) (v97_1 a0_0 a0_1 a0_2 a1) a1)), AV.fl [.int .i64] (v111_1 (v110_0 a0_0 a0_1 a0_2 (v143_0 a0_0 (v97_0 a0_0 a0_1 a0_2 a1) (v97_1 a0_0 a0_1 a0_2 a1) a1)) (v110_1 a0_0 a0_1 a0_2 (v143_0 a0_0 (v97_0 a0_0 a0_1 a0_2 a1) (v97_1 a0_0 a0_1 a0_2 a1) a1)) (v110_2 a0_0 a0_1 a0_2 (v143_0 a0_0 (v97_0 a0_0 a0_1 a0_2 a1) (v97_1 a0_0 a0_1 a0_2 a1) a1)) a1 (v143_1 a0_0 (v97_0 a0_0 a0_1 a0_2 a1) (v97_1 a0_0 a0_1 a0_2 a1) a1)), AV.fl [.int .i64, .int .i64] (v111_2 (v110_0 a0_0 a0_1 a0_2 (v143_0 a0_0 (v97_0 a0_0 a0_1 a0_2 a1) (v97_1 a0_0 a0_1 a0_2 a1) a1)) (v110_1 a0_0 a0_1 a0_2 (v143_0 a0_0 (v97_0 a0_0 a0_1 a0_2 a1) (v97_1 a0_0 a0_1 a0_2 a1) a1)) (v110_2 a0_0 a0_1 a0_2 (v143_0 a0_0 (v97_0 a0_0 a0_1 a0_2 a1) (v97_1 a0_0 a0_1 a0_2 a1) a1)) a1 (v143_1 a0_0 (v97_0 a0_0 a0_1 a0_2 a1) (v97_1 a0_0 a0_1 a0_2 a1) a1))], AV.fl [.int .i64, .int .i64] (v143_0 a0_0 (v97_0 a0_0 a0_1 a0_2 a1) (v97_1 a0_0 a0_1 a0_2 a1) a1), AV.bool true])
          else none)
         else none)
        else none)
       else none))
     else none)))
  else none) := by kernel_rfl
theorem r96 (a0_0 : List AV) (a0_1 : List AV) (a0_2 : List AV) (a1 : Int) (h : q96 a0_0 a0_1 a0_2 a1 = true) : funA c96 0 96 [AV.agg [AV.sl [.int .i64] a0_0, AV.sl [.int .i64] a0_1, AV.sl [.int .i64, .int .i64] a0_2], AV.int .i64 a1] = some (AV.tup [AV.agg [AV.fl [.int .i64] (v96_0 a0_0 a0_1 a0_2 a1), AV.fl [.int .i64] (v96_1 a0_0 a0_1 a0_2 a1), AV.fl [.int .i64, .int .i64] (v96_2 a0_0 a0_1 a0_2 a1)], AV.fl [.int .i64, .int .i64] (v96_3 a0_0 a0_1 a0_2 a1), AV.bool (v96_4 a0_0 a0_1 a0_2 a1)]) := (e96 a0_0 a0_1 a0_2 a1).trans ((brL (br (fun b => some (AV.tup [AV.agg [AV.fl [.int .i64] (bif b then (v127_0 a0_0 a0_1 a0_2) else (bif !(v68_0 a1 (-1000) 1000) then (v127_0 a0_0 a0_1 a0_2) else (bif (v95_1 a0_0 a0_1 a0_2 a1) then (v127_0 a0_0 a0_1 a0_2) else (v111_0 (v110_0 a0_0 a0_1 a0_2 (v143_0 a0_0 (v97_0 a0_0 a0_1 a0_2 a1) (v97_1 a0_0 a0_1 a0_2 a1) a1)) (v110_1 a0_0 a0_1 a0_2 (v143_0 a0_0 (v97_0 a0_0 a0_1 a0_2 a1) (v97_1 a0_0 a0_1 a0_2 a1) a1)) (v110_2 a0_0 a0_1 a0_2 (v143_0 a0_0 (v97_0 a0_0 a0_1 a0_2 a1) (v97_1 a0_0 a0_1 a0_2 a1) a1)) a1 (v143_1 a0_0 (v97_0 a0_0 a0_1 a0_2 a1) (v97_1 a0_0 a0_1 a0_2 a1) a1))))), AV.fl [.int .i64] (bif b then (v127_1 a0_0 a0_1 a0_2) else (bif !(v68_0 a1 (-1000) 1000) then (v127_1 a0_0 a0_1 a0_2) else (bif (v95_1 a0_0 a0_1 a0_2 a1) then (v127_1 a0_0 a0_1 a0_2) else (v111_1 (v110_0 a0_0 a0_1 a0_2 (v143_0 a0_0 (v97_0 a0_0 a0_1 a0_2 a1) (v97_1 a0_0 a0_1 a0_2 a1) a1)) (v110_1 a0_0 a0_1 a0_2 (v143_0 a0_0 (v97_0 a0_0 a0_1 a0_2 a1) (v97_1 a0_0 a0_1 a0_2 a1) a1)) (v110_2 a0_0 a0_1 a0_2 (v143_0 a0_0 (v97_0 a0_0 a0_1 a0_2 a1) (v97_1 a0_0 a0_1 a0_2 a1) a1)) a1 (v143_1 a0_0 (v97_0 a0_0 a0_1 a0_2 a1) (v97_1 a0_0 a0_1 a0_2 a1) a1))))), AV.fl [.int .i64, .int .i64] (bif b then (v127_2 a0_0 a0_1 a0_2) else (bif !(v68_0 a1 (-1000) 1000) then (v127_2 a0_0 a0_1 a0_2) else (bif (v95_1 a0_0 a0_1 a0_2 a1) then (v127_2 a0_0 a0_1 a0_2) else (v111_2 (v110_0 a0_0 a0_1 a0_2 (v143_0 a0_0 (v97_0 a0_0 a0_1 a0_2 a1) (v97_1 a0_0 a0_1 a0_2 a1) a1)) (v110_1 a0_0 a0_1 a0_2 (v143_0 a0_0 (v97_0 a0_0 a0_1 a0_2 a1) (v97_1 a0_0 a0_1 a0_2 a1) a1)) (v110_2 a0_0 a0_1 a0_2 (v143_0 a0_0 (v97_0 a0_0 a0_1 a0_2 a1) (v97_1 a0_0 a0_1 a0_2 a1) a1)) a1 (v143_1 a0_0 (v97_0 a0_0 a0_1 a0_2 a1) (v97_1 a0_0 a0_1 a0_2 a1) a1)))))], AV.fl [.int .i64, .int .i64] (bif b then ([] : List AV) else (bif !(v68_0 a1 (-1000) 1000) then ([] : List AV) else (bif (v95_1 a0_0 a0_1 a0_2 a1) then ([] : List AV) else (v143_0 a0_0 (v97_0 a0_0 a0_1 a0_2 a1) (v97_1 a0_0 a0_1 a0_2 a1) a1)))), AV.bool (bif b then false else (bif !(v68_0 a1 (-1000) 1000) then false else true))])) (brL1 (fun _ => rfl)) (br (fun b => some (AV.tup [AV.agg [AV.fl [.int .i64] (bif b then (v127_0 a0_0 a0_1 a0_2) else (bif (v95_1 a0_0 a0_1 a0_2 a1) then (v127_0 a0_0 a0_1 a0_2) else (v111_0 (v110_0 a0_0 a0_1 a0_2 (v143_0 a0_0 (v97_0 a0_0 a0_1 a0_2 a1) (v97_1 a0_0 a0_1 a0_2 a1) a1)) (v110_1 a0_0 a0_1 a0_2 (v143_0 a0_0 (v97_0 a0_0 a0_1 a0_2 a1) (v97_1 a0_0 a0_1 a0_2 a1) a1)) (v110_2 a0_0 a0_1 a0_2 (v143_0 a0_0 (v97_0 a0_0 a0_1 a0_2 a1) (v97_1 a0_0 a0_1 a0_2 a1) a1)) a1 (v143_1 a0_0 (v97_0 a0_0 a0_1 a0_2 a1) (v97_1 a0_0 a0_1 a0_2 a1) a1)))), AV.fl [.int .i64] (bif b then (v127_1 a0_0 a0_1 a0_2) else (bif (v95_1 a0_0 a0_1 a0_2 a1) then (v127_1 a0_0 a0_1 a0_2) else (v111_1 (v110_0 a0_0 a0_1 a0_2 (v143_0 a0_0 (v97_0 a0_0 a0_1 a0_2 a1) (v97_1 a0_0 a0_1 a0_2 a1) a1)) (v110_1 a0_0 a0_1 a0_2 (v143_0 a0_0 (v97_0 a0_0 a0_1 a0_2 a1) (v97_1 a0_0 a0_1 a0_2 a1) a1)) (v110_2 a0_0 a0_1 a0_2 (v143_0 a0_0 (v97_0 a0_0 a0_1 a0_2 a1) (v97_1 a0_0 a0_1 a0_2 a1) a1)) a1 (v143_1 a0_0 (v97_0 a0_0 a0_1 a0_2 a1) (v97_1 a0_0 a0_1 a0_2 a1) a1)))), AV.fl [.int .i64, .int .i64] (bif b then (v127_2 a0_0 a0_1 a0_2) else (bif (v95_1 a0_0 a0_1 a0_2 a1) then (v127_2 a0_0 a0_1 a0_2) else (v111_2 (v110_0 a0_0 a0_1 a0_2 (v143_0 a0_0 (v97_0 a0_0 a0_1 a0_2 a1) (v97_1 a0_0 a0_1 a0_2 a1) a1)) (v110_1 a0_0 a0_1 a0_2 (v143_0 a0_0 (v97_0 a0_0 a0_1 a0_2 a1) (v97_1 a0_0 a0_1 a0_2 a1) a1)) (v110_2 a0_0 a0_1 a0_2 (v143_0 a0_0 (v97_0 a0_0 a0_1 a0_2 a1) (v97_1 a0_0 a0_1 a0_2 a1) a1)) a1 (v143_1 a0_0 (v97_0 a0_0 a0_1 a0_2 a1) (v97_1 a0_0 a0_1 a0_2 a1) a1))))], AV.fl [.int .i64, .int .i64] (bif b then ([] : List AV) else (bif (v95_1 a0_0 a0_1 a0_2 a1) then ([] : List AV) else (v143_0 a0_0 (v97_0 a0_0 a0_1 a0_2 a1) (v97_1 a0_0 a0_1 a0_2 a1) a1))), AV.bool (bif b then false else true)])) (brL1 (fun _ => rfl)) (brL (br (fun b => some (AV.tup [AV.agg [AV.fl [.int .i64] (bif b then (v127_0 a0_0 a0_1 a0_2) else (v111_0 (v110_0 a0_0 a0_1 a0_2 (v143_0 a0_0 (v97_0 a0_0 a0_1 a0_2 a1) (v97_1 a0_0 a0_1 a0_2 a1) a1)) (v110_1 a0_0 a0_1 a0_2 (v143_0 a0_0 (v97_0 a0_0 a0_1 a0_2 a1) (v97_1 a0_0 a0_1 a0_2 a1) a1)) (v110_2 a0_0 a0_1 a0_2 (v143_0 a0_0 (v97_0 a0_0 a0_1 a0_2 a1) (v97_1 a0_0 a0_1 a0_2 a1) a1)) a1 (v143_1 a0_0 (v97_0 a0_0 a0_1 a0_2 a1) (v97_1 a0_0 a0_1 a0_2 a1) a1))), AV.fl [.int .i64] (bif b then (v127_1 a0_0 a0_1 a0_2) else (v111_1 (v110_0 a0_0 a0_1 a0_2 (v143_0 a0_0 (v97_0 a0_0 a0_1 a0_2 a1) (v97_1 a0_0 a0_1 a0_2 a1) a1)) (v110_1 a0_0 a0_1 a0_2 (v143_0 a0_0 (v97_0 a0_0 a0_1 a0_2 a1) (v97_1 a0_0 a0_1 a0_2 a1) a1)) (v110_2 a0_0 a0_1 a0_2 (v143_0 a0_0 (v97_0 a0_0 a0_1 a0_2 a1) (v97_1 a0_0 a0_1 a0_2 a1) a1)) a1 (v143_1 a0_0 (v97_0 a0_0 a0_1 a0_2 a1) (v97_1 a0_0 a0_1 a0_2 a1) a1))), AV.fl [.int .i64, .int .i64] (bif b then (v127_2 a0_0 a0_1 a0_2) else (v111_2 (v110_0 a0_0 a0_1 a0_2 (v143_0 a0_0 (v97_0 a0_0 a0_1 a0_2 a1) (v97_1 a0_0 a0_1 a0_2 a1) a1)) (v110_1 a0_0 a0_1 a0_2 (v143_0 a0_0 (v97_0 a0_0 a0_1 a0_2 a1) (v97_1 a0_0 a0_1 a0_2 a1) a1)) (v110_2 a0_0 a0_1 a0_2 (v143_0 a0_0 (v97_0 a0_0 a0_1 a0_2 a1) (v97_1 a0_0 a0_1 a0_2 a1) a1)) a1 (v143_1 a0_0 (v97_0 a0_0 a0_1 a0_2 a1) (v97_1 a0_0 a0_1 a0_2 a1) a1)))], AV.fl [.int .i64, .int .i64] (bif b then ([] : List AV) else (v143_0 a0_0 (v97_0 a0_0 a0_1 a0_2 a1) (v97_1 a0_0 a0_1 a0_2 a1) a1)), AV.bool true])) (brL1 (fun _ => rfl)) (brL (brL (brL (brL1 (fun _ => rfl)))))))))) h)
def m96 : TModel
  | [.agg [.sl g0 a0_0, .sl g1 a0_1, .sl g2 a0_2], .int .i64 a1] => bif ctsEq g0 ([.int .i64]) && ctsEq g1 ([.int .i64]) && ctsEq g2 ([.int .i64, .int .i64]) then some (q96 a0_0 a0_1 a0_2 a1, AV.tup [AV.agg [AV.fl [.int .i64] (v96_0 a0_0 a0_1 a0_2 a1), AV.fl [.int .i64] (v96_1 a0_0 a0_1 a0_2 a1), AV.fl [.int .i64, .int .i64] (v96_2 a0_0 a0_1 a0_2 a1)], AV.fl [.int .i64, .int .i64] (v96_3 a0_0 a0_1 a0_2 a1), AV.bool (v96_4 a0_0 a0_1 a0_2 a1)]) else none
  | _ => none
theorem k96 : Known Try.prog 96 := ⟨Try.f96, Try.func96, by kernel_rfl, by kernel_rfl⟩
theorem meets96 : Meets Try.prog 96 m96 := by
  refine meet (f := Try.f96) (l := []) (hs := [(96, 999, [4, 5, 6])]) (ts := [(67, m67), (68, m68), (95, m95), (97, m97), (110, m110), (111, m111), (127, m127), (143, m143)]) (ws := []) (is := []) (ls := []) (lvl := 0) mixed k96 Try.func96 (by kernel_rfl) noLoop (allT_cons meets67 (allT_cons meets68 (allT_cons meets95 (allT_cons meets97 (allT_cons meets110 (allT_cons meets111 (allT_cons meets127 (allT_cons meets143 allT_nil)))))))) allM_nil noI fun w xs us r hl hv h => ?_
  unfold m96 at h
  split at h
  · rename_i g0 a0_0 g1 a0_1 g2 a0_2 a1
    obtain ⟨hg, h⟩ := bif_pair h
    simp only [Bool.and_eq_true] at hg
    obtain ⟨⟨q0, q1⟩, q2⟩ := hg
    obtain rfl := ctsEq_eq _ _ q0
    obtain rfl := ctsEq_eq _ _ q1
    obtain rfl := ctsEq_eq _ _ q2
    obtain ⟨h1, rfl⟩ := pair_inj h
    exact r96 a0_0 a0_1 a0_2 a1 h1
  · cases h

/-! ### 41 loop.example/g01984/spec.JournalOf -/
def F41_0 (t1 : Int) (h0 : List AV) (h1 : List AV) (h2 : List AV) (h5 : List AV) (t13 : Int) (h3 : List AV) : Out ((Int × (List AV))) (((List AV))) := (bif decide (t13 < (h5.length : Int)) then (bif (decide (0 ≤ t13) && decide (t13 < (h5.length : Int))) then (bif (decide (0 ≤ t13) && decide (t13 < (h5.length : Int))) then (bif (decide ((h3.length + ([AV.agg [AV.int .i64 2, AV.int .i64 (fI (h5.getD t13.toNat AV.undef) 0), AV.int .i64 (fI (h5.getD t13.toNat AV.undef) 1), AV.int .i64 0]]).length) * 32 ≤ 140737488355328) && decide ((h3.length + ([AV.agg [AV.int .i64 2, AV.int .i64 (fI (h5.getD t13.toNat AV.undef) 0), AV.int .i64 (fI (h5.getD t13.toNat AV.undef) 1), AV.int .i64 0]]).length) ≤ 140737488355328)) then .next (IntKind.i64.wrap (t13 + 1), h3 ++ ([AV.agg [AV.int .i64 2, AV.int .i64 (fI (h5.getD t13.toNat AV.undef) 0), AV.int .i64 (fI (h5.getD t13.toNat AV.undef) 1), AV.int .i64 0]]))
     else .fail)
    else .fail)
   else .fail)
  else .stop h3)
def R41_0 (t1 : Int) (h0 : List AV) (h1 : List AV) (h2 : List AV) (h5 : List AV) : ((Int × (List AV))) → Out ((Int × (List AV))) (((List AV))) := fun s : Int × (List AV) => F41_0 t1 h0 h1 h2 h5 s.1 s.2
def l41_0 : LModel := fun _ _ st k => match st with
  | ⟨[(1, .int .i64 t1), (5, .own g0), (8, .ptr g1 g2 g3), (9, .own g4), (13, .int .i64 t13)], [(g5, ⟨false, g6, h0⟩), (g7, ⟨false, g8, h1⟩), (g9, ⟨false, g10, h2⟩), (g11, ⟨false, g12, h3⟩), (g13, ⟨true, [], [.agg [.own g14, .own g15, .own g16]]⟩), (g17, ⟨false, g18, h5⟩)]⟩ => bif nmEq g0 ([0, 5]) && nmEq g1 ([0, 8]) && Nat.beq g2 0 && Nat.beq g3 0 && nmEq g4 ([0, 9]) && nmEq g5 ([0, 0, 8]) && ctsEq g6 ([.int .i64]) && nmEq g7 ([0, 1, 8]) && ctsEq g8 ([.int .i64]) && nmEq g9 ([0, 2, 8]) && ctsEq g10 ([.int .i64, .int .i64]) && nmEq g11 ([0, 5]) && ctsEq g12 ([.int .i64, .int .i64, .int .i64, .int .i64]) && nmEq g13 ([0, 8]) && nmEq g14 ([0, 0, 8]) && nmEq g15 ([0, 1, 8]) && nmEq g16 ([0, 2, 8]) && nmEq g17 ([0, 9]) && ctsEq g18 ([.int .i64, .int .i64]) then ro (runW (R41_0 t1 h0 h1 h2 h5) (((h5.length : Int) - t13).toNat + 1) (t13, h3)) none (fun p : (List AV) => k (.exit 0) ⟨[(1, AV.int .i64 t1), (5, AV.own [0, 5]), (8, AV.ptr [0, 8] 0 0)], [([0, 0, 8], ⟨false, [.int .i64], h0⟩), ([0, 1, 8], ⟨false, [.int .i64], h1⟩), ([0, 2, 8], ⟨false, [.int .i64, .int .i64], h2⟩), ([0, 5], ⟨false, [.int .i64, .int .i64, .int .i64, .int .i64], p⟩), ([0, 8], ⟨true, [], [AV.agg [AV.own [0, 0, 8], AV.own [0, 1, 8], AV.own [0, 2, 8]]]⟩), ([0, 9], ⟨false, [.int .i64, .int .i64], h5⟩)]⟩) else none
  | _ => none
noncomputable def c41 : Cfg := cfg Try.prog [(41, 0, [1, 5, 8, 9, 13]), (41, 999, [4]), (41, 1000, [1, 5, 8]), (41, 1001, [1, 5, 8, 9, 13])] [(95, m95), (96, m96), (97, m97)] [] [] [(41, 0, l41_0)]
theorem s41_0 (ce : CallE) (t1 : Int) (t13 : Int) (h0 : List AV) (h1 : List AV) (h2 : List AV) (h3 : List AV) (h5 : List AV) (next : St → Option AV) (k : Kont) : stepA (codeA c41 ce [] 41 0 (sub [1, 1, 1, 1, 1, 1, 1, 0, 1, 0, 0] (body Try.f41))) (normA [] [1, 5, 8, 9, 13]) next ⟨[(1, AV.int .i64 t1), (5, AV.own [0, 5]), (8, AV.ptr [0, 8] 0 0), (9, AV.own [0, 9]), (13, AV.int .i64 t13)], [([0, 0, 8], ⟨false, [.int .i64], h0⟩), ([0, 1, 8], ⟨false, [.int .i64], h1⟩), ([0, 2, 8], ⟨false, [.int .i64, .int .i64], h2⟩), ([0, 5], ⟨false, [.int .i64, .int .i64, .int .i64, .int .i64], h3⟩), ([0, 8], ⟨true, [], [AV.agg [AV.own [0, 0, 8], AV.own [0, 1, 8], AV.own [0, 2, 8]]]⟩), ([0, 9], ⟨false, [.int .i64, .int .i64], h5⟩)]⟩ k = (bif decide (t13 < (h5.length : Int)) then (bif (decide (0 ≤ t13) && decide (t13 < (h5.length : Int))) then (bif (decide (0 ≤ t13) && decide (t13 < (h5.length : Int))) then (bif (decide ((h3.length + ([AV.agg [AV.int .i64 2, AV.int .i64 (fI (h5.getD t13.toNat AV.undef) 0), AV.int .i64 (fI (h5.getD t13.toNat AV.undef) 1), AV.int .i64 0]]).length) * 32 ≤ 140737488355328) && decide ((h3.length + ([AV.agg [AV.int .i64 2, AV.int .i64 (fI (h5.getD t13.toNat AV.undef) 0), AV.int .i64 (fI (h5.getD t13.toNat AV.undef) 1), AV.int .i64 0]]).length) ≤ 140737488355328)) then next ⟨[(1, AV.int .i64 t1), (5, AV.own [0, 5]), (8, AV.ptr [0, 8] 0 0), (9, AV.own [0, 9]), (13, AV.int .i64 (IntKind.i64.wrap (t13 + 1)))], [([0, 0, 8], ⟨false, [.int .i64], h0⟩), ([0, 1, 8], ⟨false, [.int .i64], h1⟩), ([0, 2, 8], ⟨false, [.int .i64, .int .i64], h2⟩), ([0, 5], ⟨false, [.int .i64, .int .i64, .int .i64, .int .i64], h3 ++ ([AV.agg [AV.int .i64 2, AV.int .i64 (fI (h5.getD t13.toNat AV.undef) 0), AV.int .i64 (fI (h5.getD t13.toNat AV.undef) 1), AV.int .i64 0]])⟩), ([0, 8], ⟨true, [], [AV.agg [AV.own [0, 0, 8], AV.own [0, 1, 8], AV.own [0, 2, 8]]]⟩), ([0, 9], ⟨false, [.int .i64, .int .i64], h5⟩)]⟩
     else none)
    else none)
   else none)
  else k (.exit 0) ⟨[(1, AV.int .i64 t1), (5, AV.own [0, 5]), (8, AV.ptr [0, 8] 0 0)], [([0, 0, 8], ⟨false, [.int .i64], h0⟩), ([0, 1, 8], ⟨false, [.int .i64], h1⟩), ([0, 2, 8], ⟨false, [.int .i64, .int .i64], h2⟩), ([0, 5], ⟨false, [.int .i64, .int .i64, .int .i64, .int .i64], h3⟩), ([0, 8], ⟨true, [], [AV.agg [AV.own [0, 0, 8], AV.own [0, 1, 8], AV.own [0, 2, 8]]]⟩), ([0, 9], ⟨false, [.int .i64, .int .i64], h5⟩)]⟩) := by kernel_rfl
theorem st41_0 (t1 : Int) (h0 : List AV) (h1 : List AV) (h2 : List AV) (h5 : List AV) (ce : CallE) (k : Kont) (s : (Int × (List AV))) (next : St → Option AV) : stepA (codeA c41 ce [] 41 0 (sub [1, 1, 1, 1, 1, 1, 1, 0, 1, 0, 0] (body Try.f41))) (normA [] [1, 5, 8, 9, 13]) next ((fun s : Int × (List AV) => ⟨[(1, AV.int .i64 t1), (5, AV.own [0, 5]), (8, AV.ptr [0, 8] 0 0), (9, AV.own [0, 9]), (13, AV.int .i64 s.1)], [([0, 0, 8], ⟨false, [.int .i64], h0⟩), ([0, 1, 8], ⟨false, [.int .i64], h1⟩), ([0, 2, 8], ⟨false, [.int .i64, .int .i64], h2⟩), ([0, 5], ⟨false, [.int .i64, .int .i64, .int .i64, .int .i64], s.2⟩), ([0, 8], ⟨true, [], [AV.agg [AV.own [0, 0, 8], AV.own [0, 1, 8], AV.own [0, 2, 8]]]⟩), ([0, 9], ⟨false, [.int .i64, .int .i64], h5⟩)]⟩) s) k = (R41_0 t1 h0 h1 h2 h5 s).el none (fun s => next ((fun s : Int × (List AV) => ⟨[(1, AV.int .i64 t1), (5, AV.own [0, 5]), (8, AV.ptr [0, 8] 0 0), (9, AV.own [0, 9]), (13, AV.int .i64 s.1)], [([0, 0, 8], ⟨false, [.int .i64], h0⟩), ([0, 1, 8], ⟨false, [.int .i64], h1⟩), ([0, 2, 8], ⟨false, [.int .i64, .int .i64], h2⟩), ([0, 5], ⟨false, [.int .i64, .int .i64, .int .i64, .int .i64], s.2⟩), ([0, 8], ⟨true, [], [AV.agg [AV.own [0, 0, 8], AV.own [0, 1, 8], AV.own [0, 2, 8]]]⟩), ([0, 9], ⟨false, [.int .i64, .int .i64], h5⟩)]⟩) s)) (fun p : (List AV) => k (.exit 0) ⟨[(1, AV.int .i64 t1), (5, AV.own [0, 5]), (8, AV.ptr [0, 8] 0 0)], [([0, 0, 8], ⟨false, [.int .i64], h0⟩), ([0, 1, 8], ⟨false, [.int .i64], h1⟩), ([0, 2, 8], ⟨false, [.int .i64, .int .i64], h2⟩), ([0, 5], ⟨false, [.int .i64, .int .i64, .int .i64, .int .i64], p⟩), ([0, 8], ⟨true, [], [AV.agg [AV.own [0, 0, 8], AV.own [0, 1, 8], AV.own [0, 2, 8]]]⟩), ([0, 9], ⟨false, [.int .i64, .int .i64], h5⟩)]⟩) := (s41_0 ce t1 s.1 h0 h1 h2 s.2 h5 next k).trans (by unfold R41_0; unfold F41_0; simp only [el_cond, el_ro, el_sum, el_fail, el_next, el_stop] <;> rfl)
theorem ok41_0 {ce : CallE} : LoopOK c41 ce [] 41 0 (sub [1, 1, 1, 1, 1, 1, 1, 0, 1, 0, 0] (body Try.f41)) := by
  intro m hm st k r h
  obtain rfl : l41_0 = m := Option.some.inj hm
  unfold l41_0 at h
  split at h
  · rename_i t1 g0 g1 g2 g3 g4 t13 g5 g6 h0 g7 g8 h1 g9 g10 h2 g11 g12 h3 g13 g14 g15 g16 g17 g18 h5
    obtain ⟨hg, h⟩ := bif_some h
    simp only [Bool.and_eq_true] at hg
    obtain ⟨⟨⟨⟨⟨⟨⟨⟨⟨⟨⟨⟨⟨⟨⟨⟨⟨⟨q0, q1⟩, q2⟩, q3⟩, q4⟩, q5⟩, q6⟩, q7⟩, q8⟩, q9⟩, q10⟩, q11⟩, q12⟩, q13⟩, q14⟩, q15⟩, q16⟩, q17⟩, q18⟩ := hg
    obtain rfl := (nmEq_iff _ _).1 q0
    obtain rfl := (nmEq_iff _ _).1 q1
    obtain rfl := Nat.eq_of_beq_eq_true q2
    obtain rfl := Nat.eq_of_beq_eq_true q3
    obtain rfl := (nmEq_iff _ _).1 q4
    obtain rfl := (nmEq_iff _ _).1 q5
    obtain rfl := ctsEq_eq _ _ q6
    obtain rfl := (nmEq_iff _ _).1 q7
    obtain rfl := ctsEq_eq _ _ q8
    obtain rfl := (nmEq_iff _ _).1 q9
    obtain rfl := ctsEq_eq _ _ q10
    obtain rfl := (nmEq_iff _ _).1 q11
    obtain rfl := ctsEq_eq _ _ q12
    obtain rfl := (nmEq_iff _ _).1 q13
    obtain rfl := (nmEq_iff _ _).1 q14
    obtain rfl := (nmEq_iff _ _).1 q15
    obtain rfl := (nmEq_iff _ _).1 q16
    obtain rfl := (nmEq_iff _ _).1 q17
    obtain rfl := ctsEq_eq _ _ q18
    refine ⟨(((h5.length : Int) - t13).toNat + 1), ?_⟩
    rw [← h]
    exact loop_run (fun s : Int × (List AV) => ⟨[(1, AV.int .i64 t1), (5, AV.own [0, 5]), (8, AV.ptr [0, 8] 0 0), (9, AV.own [0, 9]), (13, AV.int .i64 s.1)], [([0, 0, 8], ⟨false, [.int .i64], h0⟩), ([0, 1, 8], ⟨false, [.int .i64], h1⟩), ([0, 2, 8], ⟨false, [.int .i64, .int .i64], h2⟩), ([0, 5], ⟨false, [.int .i64, .int .i64, .int .i64, .int .i64], s.2⟩), ([0, 8], ⟨true, [], [AV.agg [AV.own [0, 0, 8], AV.own [0, 1, 8], AV.own [0, 2, 8]]]⟩), ([0, 9], ⟨false, [.int .i64, .int .i64], h5⟩)]⟩) (fun p : (List AV) => k (.exit 0) ⟨[(1, AV.int .i64 t1), (5, AV.own [0, 5]), (8, AV.ptr [0, 8] 0 0)], [([0, 0, 8], ⟨false, [.int .i64], h0⟩), ([0, 1, 8], ⟨false, [.int .i64], h1⟩), ([0, 2, 8], ⟨false, [.int .i64, .int .i64], h2⟩), ([0, 5], ⟨false, [.int .i64, .int .i64, .int .i64, .int .i64], p⟩), ([0, 8], ⟨true, [], [AV.agg [AV.own [0, 0, 8], AV.own [0, 1, 8], AV.own [0, 2, 8]]]⟩), ([0, 9], ⟨false, [.int .i64, .int .i64], h5⟩)]⟩) (st41_0 t1 h0 h1 h2 h5 ce k) _ (t13, h3)
  · cases h
def q41 (a0_0 : List AV) (a0_1 : List AV) (a0_2 : List AV) (a1 : Int) : Bool := (q95 a0_0 a0_1 a0_2 a1 && (q96 a0_0 a0_1 a0_2 a1 && (bif !(v96_4 a0_0 a0_1 a0_2 a1) then true else (bif (v95_1 a0_0 a0_1 a0_2 a1) then true else (q97 a0_0 a0_1 a0_2 a1 && ((decide ((([] : List AV).length + ([AV.agg [AV.int .i64 1, AV.int .i64 a1, AV.int .i64 (v97_0 a0_0 a0_1 a0_2 a1), AV.int .i64 (v97_1 a0_0 a0_1 a0_2 a1)]]).length) * 32 ≤ 140737488355328) && decide ((([] : List AV).length + ([AV.agg [AV.int .i64 1, AV.int .i64 a1, AV.int .i64 (v97_0 a0_0 a0_1 a0_2 a1), AV.int .i64 (v97_1 a0_0 a0_1 a0_2 a1)]]).length) ≤ 140737488355328)) && (ro (runW (R41_0 a1 (v96_0 a0_0 a0_1 a0_2 a1) (v96_1 a0_0 a0_1 a0_2 a1) (v96_2 a0_0 a0_1 a0_2 a1) (v96_3 a0_0 a0_1 a0_2 a1)) ((((v96_3 a0_0 a0_1 a0_2 a1).length : Int) - 0).toNat + 1) (0, [AV.agg [AV.int .i64 1, AV.int .i64 a1, AV.int .i64 (v97_0 a0_0 a0_1 a0_2 a1), AV.int .i64 (v97_1 a0_0 a0_1 a0_2 a1)]])) false (fun p27 => (q95 (v96_0 a0_0 a0_1 a0_2 a1) (v96_1 a0_0 a0_1 a0_2 a1) (v96_2 a0_0 a0_1 a0_2 a1) a1 && (decide ((p27.length + ([AV.agg [AV.int .i64 3, AV.int .i64 a1, AV.int .i64 (v95_0 (v96_0 a0_0 a0_1 a0_2 a1) (v96_1 a0_0 a0_1 a0_2 a1) (v96_2 a0_0 a0_1 a0_2 a1) a1), AV.int .i64 0]]).length) * 32 ≤ 140737488355328) && decide ((p27.length + ([AV.agg [AV.int .i64 3, AV.int .i64 a1, AV.int .i64 (v95_0 (v96_0 a0_0 a0_1 a0_2 a1) (v96_1 a0_0 a0_1 a0_2 a1) (v96_2 a0_0 a0_1 a0_2 a1) a1), AV.int .i64 0]]).length) ≤ 140737488355328)))))))))))
def v41_0 (a0_0 : List AV) (a0_1 : List AV) (a0_2 : List AV) (a1 : Int) : List AV := (bif !(v96_4 a0_0 a0_1 a0_2 a1) then ([] : List AV) else (bif (v95_1 a0_0 a0_1 a0_2 a1) then ([] : List AV) else (ro (runW (R41_0 a1 (v96_0 a0_0 a0_1 a0_2 a1) (v96_1 a0_0 a0_1 a0_2 a1) (v96_2 a0_0 a0_1 a0_2 a1) (v96_3 a0_0 a0_1 a0_2 a1)) ((((v96_3 a0_0 a0_1 a0_2 a1).length : Int) - 0).toNat + 1) (0, [AV.agg [AV.int .i64 1, AV.int .i64 a1, AV.int .i64 (v97_0 a0_0 a0_1 a0_2 a1), AV.int .i64 (v97_1 a0_0 a0_1 a0_2 a1)]])) [] (fun p27 => p27 ++ ([AV.agg [AV.int .i64 3, AV.int .i64 a1, AV.int .i64 (v95_0 (v96_0 a0_0 a0_1 a0_2 a1) (v96_1 a0_0 a0_1 a0_2 a1) (v96_2 a0_0 a0_1 a0_2 a1) a1), AV.int .i64 0]])))))
theorem e41 (a0_0 : List AV) (a0_1 : List AV) (a0_2 : List AV) (a1 : Int) : funA c41 0 41 [AV.agg [AV.sl [.int .i64] a0_0, AV.sl [.int .i64] a0_1, AV.sl [.int .i64, .int .i64] a0_2], AV.int .i64 a1] = (bif q95 a0_0 a0_1 a0_2 a1 then (bif q96 a0_0 a0_1 a0_2 a1 then (bif !(v96_4 a0_0 a0_1 a0_2 a1) then some (AV.fl [.int .i64, .int .i64, .int .i64, .int .i64] ([] : List AV))
    else (bif (v95_1 a0_0 a0_1 a0_2 a1) then some (AV.fl [.int .i64, .int .i64, .int .i64, .int .i64] ([] : List AV))
     else (bif q97 a0_0 a0_1 a0_2 a1 then (bif (decide ((([] : List AV).length + ([AV.agg [AV.int .i64 1, AV.int .i64 a1, AV.int .i64 (v97_0 a0_0 a0_1 a0_2 a1), AV.int .i64 (v97_1 a0_0 a0_1 a0_2 a1)]]).length) * 32 ≤ 140737488355328) && decide ((([] : List AV).length + ([AV.agg [AV.int .i64 1, AV.int .i64 a1, AV.int .i64 (v97_0 a0_0 a0_1 a0_2 a1), AV.int .i64 (v97_1 a0_0 a0_1 a0_2 a1)]]).length) ≤ 140737488355328)) then (ro (runW (R41_0 a1 (v96_0 a0_0 a0_1 a0_2 a1) (v96_1 a0_0 a0_1 a0_2 a1) (v96_2 a0_0 a0_1 a0_2 a1) (v96_3 a0_0 a0_1 a0_2 a1)) ((((v96_3 a0_0 a0_1 a0_2 a1).length : Int) - 0).toNat + 1) (0, [AV.agg [AV.int .i64 1, AV.int .i64 a1, AV.int .i64 (v97_0 a0_0 a0_1 a0_2 a1), AV.int .i64 (v97_1 a0_0 a0_1 a0_2 a1)]])) none (fun p27 => (bif q95 (v96_0 a0_0 a0_1 a0_2 a1) (v96_1 a0_0 a0_1 a0_2 a1) (v96_2 a0_0 a0_1 a0_2 a1) a1 then (bif (decide ((p27.length + ([AV.agg [AV.int .i64 3, AV.int .i64 a1, AV.int .i64 (v95_0 (v96_0 a0_0 a0_1 a0_2 a1) (v96_1 a0_0 a0_1 a0_2 a1) (v96_2 a0_0 a0_1 a0_2 a1) a1), AV.int .i64 0]]).length) * 32 ≤ 140737488355328) && decide ((p27.length + ([AV.agg [AV.int .i64 3, AV.int .i64 a1, AV.int .i64 (v95_0 (v96_0 a0_0 a0_1 a0_2 a1) (v96_1 a0_0 a0_1 a0_2 a1) (v96_2 a0_0 a0_1 a0_2 a1) a1), AV.int .i64 0]]).length) ≤ 140737488355328)) then some (AV.fl [.int .i64, .int .i64, .int .i64, .int .i64] (p27 ++ ([AV.agg [AV.int .i64 3, AV.int .i64 a1, AV.int .i64 (v95_0 (v96_0 a0_0 a0_1 a0_2 a1) (v96_1 a0_0 a0_1 a0_2 a1) (v96_2 a0_0 a0_1 a0_2 a1) a1), AV.int .i64 0]])))
          else none)
         else none)))
       else none)
      else none)))
   else none)
  else none) := by kernel_rfl
theorem r41 (a0_0 : List AV) (a0_1 : List AV) (a0_2 : List AV) (a1 : Int) (h : q41 a0_0 a0_1 a0_2 a1 = true) : funA c41 0 41 [AV.agg [AV.sl [.int .i64] a0_0, AV.sl [.int .i64] a0_1, AV.sl [.int .i64, .int .i64] a0_2], AV.int .i64 a1] = some (AV.fl [.int .i64, .int .i64, .int .i64, .int .i64] (v41_0 a0_0 a0_1 a0_2 a1)) := (e41 a0_0 a0_1 a0_2 a1).trans ((brL (brL (br (fun b => some (AV.fl [.int .i64, .int .i64, .int .i64, .int .i64] (bif b then ([] : List AV) else (bif (v95_1 a0_0 a0_1 a0_2 a1) then ([] : List AV) else (ro (runW (R41_0 a1 (v96_0 a0_0 a0_1 a0_2 a1) (v96_1 a0_0 a0_1 a0_2 a1) (v96_2 a0_0 a0_1 a0_2 a1) (v96_3 a0_0 a0_1 a0_2 a1)) ((((v96_3 a0_0 a0_1 a0_2 a1).length : Int) - 0).toNat + 1) (0, [AV.agg [AV.int .i64 1, AV.int .i64 a1, AV.int .i64 (v97_0 a0_0 a0_1 a0_2 a1), AV.int .i64 (v97_1 a0_0 a0_1 a0_2 a1)]])) [] (fun p27 => p27 ++ ([AV.agg [AV.int .i64 3, AV.int .i64 a1, AV.int .i64 (v95_0 (v96_0 a0_0 a0_1 a0_2 a1) (v96_1 a0_0 a0_1 a0_2 a1) (v96_2 a0_0 a0_1 a0_2 a1) a1), AV.int .i64 0]]))))))) (fun _ => rfl) (br (fun b => some (AV.fl [.int .i64, .int .i64, .int .i64, .int .i64] (bif b then ([] : List AV) else (ro (runW (R41_0 a1 (v96_0 a0_0 a0_1 a0_2 a1) (v96_1 a0_0 a0_1 a0_2 a1) (v96_2 a0_0 a0_1 a0_2 a1) (v96_3 a0_0 a0_1 a0_2 a1)) ((((v96_3 a0_0 a0_1 a0_2 a1).length : Int) - 0).toNat + 1) (0, [AV.agg [AV.int .i64 1, AV.int .i64 a1, AV.int .i64 (v97_0 a0_0 a0_1 a0_2 a1), AV.int .i64 (v97_1 a0_0 a0_1 a0_2 a1)]])) [] (fun p27 => p27 ++ ([AV.agg [AV.int .i64 3, AV.int .i64 a1, AV.int .i64 (v95_0 (v96_0 a0_0 a0_1 a0_2 a1) (v96_1 a0_0 a0_1 a0_2 a1) (v96_2 a0_0 a0_1 a0_2 a1) a1), AV.int .i64 0]])))))) (fun _ => rfl) (brL (brL (brO (fun o : Option (((List AV))) => some (AV.fl [.int .i64, .int .i64, .int .i64, .int .i64] (ro o [] (fun p27 => p27 ++ ([AV.agg [AV.int .i64 3, AV.int .i64 a1, AV.int .i64 (v95_0 (v96_0 a0_0 a0_1 a0_2 a1) (v96_1 a0_0 a0_1 a0_2 a1) (v96_2 a0_0 a0_1 a0_2 a1) a1), AV.int .i64 0]]))))) (fun p27 => (brL (brL1 (fun _ => rfl))))))))))) h)
def m41 : TModel
  | [.agg [.sl g0 a0_0, .sl g1 a0_1, .sl g2 a0_2], .int .i64 a1] => bif ctsEq g0 ([.int .i64]) && ctsEq g1 ([.int .i64]) && ctsEq g2 ([.int .i64, .int .i64]) then some (q41 a0_0 a0_1 a0_2 a1, AV.fl [.int .i64, .int .i64, .int .i64, .int .i64] (v41_0 a0_0 a0_1 a0_2 a1)) else none
  | _ => none
theorem k41 : Known Try.prog 41 := ⟨Try.f41, Try.func41, by kernel_rfl, by kernel_rfl⟩
theorem meets41 : Meets Try.prog 41 m41 := by
  refine meet (f := Try.f41) (l := [(0, sub [1, 1, 1, 1, 1, 1, 1, 0, 1, 0, 0] (body Try.f41))]) (hs := [(41, 0, [1, 5, 8, 9, 13]), (41, 999, [4]), (41, 1000, [1, 5, 8]), (41, 1001, [1, 5, 8, 9, 13])]) (ts := [(95, m95), (96, m96), (97, m97)]) (ws := []) (is := []) (ls := [(41, 0, l41_0)]) (lvl := 0) mixed k41 Try.func41 (by kernel_rfl) (loops_cons ok41_0 noLoop) (allT_cons meets95 (allT_cons meets96 (allT_cons meets97 allT_nil))) allM_nil noI fun w xs us r hl hv h => ?_
  unfold m41 at h
  split at h
  · rename_i g0 a0_0 g1 a0_1 g2 a0_2 a1
    obtain ⟨hg, h⟩ := bif_pair h
    simp only [Bool.and_eq_true] at hg
    obtain ⟨⟨q0, q1⟩, q2⟩ := hg
    obtain rfl := ctsEq_eq _ _ q0
    obtain rfl := ctsEq_eq _ _ q1
    obtain rfl := ctsEq_eq _ _ q2
    obtain ⟨h1, rfl⟩ := pair_inj h
    exact r41 a0_0 a0_1 a0_2 a1 h1
  · cases h

/-! ### 47 loop.example/g01984/spec.WorkJournal -/
def F47_0 (t1 : List AV) (t9 : Int) (h0 : List AV) (h1 : List AV) (h2 : List AV) (h5 : List AV) : Out ((Int × (List AV) × (List AV) × (List AV) × (List AV))) (((List AV) × (List AV) × (List AV) × (List AV))) := (bif decide (t9 < (t1.length : Int)) then (bif (decide (0 ≤ t9) && decide (t9 < (t1.length : Int))) then (bif q41 h0 h1 h2 (fI (t1.getD t9.toNat AV.undef) 0) then (bif (decide ((h5.length + (v41_0 h0 h1 h2 (fI (t1.getD t9.toNat AV.undef) 0)).length) * 32 ≤ 140737488355328) && decide ((h5.length + (v41_0 h0 h1 h2 (fI (t1.getD t9.toNat AV.undef) 0)).length) ≤ 140737488355328)) then (bif (decide (0 ≤ t9) && decide (t9 < (t1.length : Int))) then (bif q96 h0 h1 h2 (fI (t1.getD t9.toNat AV.undef) 0) then .next (IntKind.i64.wrap (t9 + 1), (v96_0 h0 h1 h2 (fI (t1.getD t9.toNat AV.undef) 0)), (v96_1 h0 h1 h2 (fI (t1.getD t9.toNat AV.undef) 0)), (v96_2 h0 h1 h2 (fI (t1.getD t9.toNat AV.undef) 0)), h5 ++ (v41_0 h0 h1 h2 (fI (t1.getD t9.toNat AV.undef) 0)))
       else .fail)
      else .fail)
     else .fail)
    else .fail)
   else .fail)
  else .stop (h0, h1, h2, h5))
def R47_0 (t1 : List AV) : ((Int × (List AV) × (List AV) × (List AV) × (List AV))) → Out ((Int × (List AV) × (List AV) × (List AV) × (List AV))) (((List AV) × (List AV) × (List AV) × (List AV))) := fun s : Int × (List AV) × (List AV) × (List AV) × (List AV) => F47_0 t1 s.1 s.2.1 s.2.2.1 s.2.2.2.1 s.2.2.2.2
def l47_0 : LModel := fun _ _ st k => match st with
  | ⟨[(1, .sl g0 t1), (4, .ptr g1 g2 g3), (7, .ptr g4 g5 g6), (8, .own g7), (9, .int .i64 t9)], [(g8, ⟨false, g9, h0⟩), (g10, ⟨false, g11, h1⟩), (g12, ⟨false, g13, h2⟩), (g14, ⟨true, [], [.agg [.snil, .snil, .snil]]⟩), (g15, ⟨true, [], [.agg [.own g16, .own g17, .own g18]]⟩), (g19, ⟨false, g20, h5⟩)]⟩ => bif ctsEq g0 ([.int .i64]) && nmEq g1 ([0, 4]) && Nat.beq g2 0 && Nat.beq g3 0 && nmEq g4 ([0, 7]) && Nat.beq g5 0 && Nat.beq g6 0 && nmEq g7 ([0, 8]) && nmEq g8 ([0, 0, 7]) && ctsEq g9 ([.int .i64]) && nmEq g10 ([0, 1, 7]) && ctsEq g11 ([.int .i64]) && nmEq g12 ([0, 2, 7]) && ctsEq g13 ([.int .i64, .int .i64]) && nmEq g14 ([0, 4]) && nmEq g15 ([0, 7]) && nmEq g16 ([0, 0, 7]) && nmEq g17 ([0, 1, 7]) && nmEq g18 ([0, 2, 7]) && nmEq g19 ([0, 8]) && ctsEq g20 ([.int .i64, .int .i64, .int .i64, .int .i64]) then ro (runW (R47_0 t1) (((t1.length : Int) - t9).toNat + 1) (t9, h0, h1, h2, h5)) none (fun p : (List AV) × (List AV) × (List AV) × (List AV) => k (.exit 0) ⟨[(4, AV.ptr [0, 4] 0 0), (7, AV.ptr [0, 7] 0 0), (8, AV.own [0, 8])], [([0, 0, 7], ⟨false, [.int .i64], p.1⟩), ([0, 1, 7], ⟨false, [.int .i64], p.2.1⟩), ([0, 2, 7], ⟨false, [.int .i64, .int .i64], p.2.2.1⟩), ([0, 4], ⟨true, [], [AV.agg [AV.snil, AV.snil, AV.snil]]⟩), ([0, 7], ⟨true, [], [AV.agg [AV.own [0, 0, 7], AV.own [0, 1, 7], AV.own [0, 2, 7]]]⟩), ([0, 8], ⟨false, [.int .i64, .int .i64, .int .i64, .int .i64], p.2.2.2⟩)]⟩) else none
  | _ => none
noncomputable def c47 : Cfg := cfg Try.prog [(47, 0, [1, 4, 7, 8, 9]), (47, 999, [4, 5, 6]), (47, 1000, [4, 7, 8]), (47, 1001, [1, 4, 7, 8, 9])] [(41, m41), (96, m96), (102, m102), (103, m103), (104, m104)] [] [] [(47, 0, l47_0)]
theorem s47_0 (ce : CallE) (t1 : List AV) (t9 : Int) (h0 : List AV) (h1 : List AV) (h2 : List AV) (h5 : List AV) (next : St → Option AV) (k : Kont) : stepA (codeA c47 ce [] 47 0 (sub [1, 1, 1, 1, 0, 1, 0, 0] (body Try.f47))) (normA [] [1, 4, 7, 8, 9]) next ⟨[(1, AV.sl [.int .i64] t1), (4, AV.ptr [0, 4] 0 0), (7, AV.ptr [0, 7] 0 0), (8, AV.own [0, 8]), (9, AV.int .i64 t9)], [([0, 0, 7], ⟨false, [.int .i64], h0⟩), ([0, 1, 7], ⟨false, [.int .i64], h1⟩), ([0, 2, 7], ⟨false, [.int .i64, .int .i64], h2⟩), ([0, 4], ⟨true, [], [AV.agg [AV.snil, AV.snil, AV.snil]]⟩), ([0, 7], ⟨true, [], [AV.agg [AV.own [0, 0, 7], AV.own [0, 1, 7], AV.own [0, 2, 7]]]⟩), ([0, 8], ⟨false, [.int .i64, .int .i64, .int .i64, .int .i64], h5⟩)]⟩ k = (bif decide (t9 < (t1.length : Int)) then (bif (decide (0 ≤ t9) && decide (t9 < (t1.length : Int))) then (bif q41 h0 h1 h2 (fI (t1.getD t9.toNat AV.undef) 0) then (bif (decide ((h5.length + (v41_0 h0 h1 h2 (fI (t1.getD t9.toNat AV.undef) 0)).length) * 32 ≤ 140737488355328) && decide ((h5.length + (v41_0 h0 h1 h2 (fI (t1.getD t9.toNat AV.undef) 0)).length) ≤ 140737488355328)) then (bif (decide (0 ≤ t9) && decide (t9 < (t1.length : Int))) then (bif q96 h0 h1 h2 (fI (t1.getD t9.toNat AV.undef) 0) then next ⟨[(1, AV.sl [.int .i64] t1), (4, AV.ptr [0, 4] 0 0), (7, AV.ptr [0, 7] 0 0), (8, AV.own [0, 8]), (9, AV.int .i64 (IntKind.i64.wrap (t9 + 1)))], [([0, 0, 7], ⟨false, [.int .i64], (v96_0 h0 h1 h2 (fI (t1.getD t9.toNat AV.undef) 0))⟩), ([0, 1, 7], ⟨false, [.int .i64], (v96_1 h0 h1 h2 (fI (t1.getD t9.toNat AV.undef) 0))⟩), ([0, 2, 7], ⟨false, [.int .i64, .int .i64], (v96_2 h0 h1 h2 (fI (t1.getD t9.toNat AV.undef) 0))⟩), ([0, 4], ⟨true, [], [AV.agg [AV.snil, AV.snil, AV.snil]]⟩), ([0, 7], ⟨true, [], [AV.agg [AV.own [0, 0, 7], AV.own [0, 1, 7], AV.own [0, 2, 7]]]⟩), ([0, 8], ⟨false, [.int .i64, .int .i64, .int .i64, .int .i64], h5 ++ (v41_0 h0 h1 h2 (fI (t1.getD t9.toNat AV.undef) 0))⟩)]⟩
       else none)
      else none)
     else none)
    else none)
   else none)
  else k (.exit 0) ⟨[(4, AV.ptr [0, 4] 0 0), (7, AV.ptr [0, 7] 0 0), (8, AV.own [0, 8])], [([0, 0, 7], ⟨false, [.int .i64], h0⟩), ([0, 1, 7], ⟨false, [.int .i64], h1⟩), ([0, 2, 7], ⟨false, [.int .i64, .int .i64], h2⟩), ([0, 4], ⟨true, [], [AV.agg [AV.snil, AV.snil, AV.snil]]⟩), ([0, 7], ⟨true, [], [AV.agg [AV.own [0, 0, 7], AV.own [0, 1, 7], AV.own [0, 2, 7]]]⟩), ([0, 8], ⟨false, [.int .i64, .int .i64, .int .i64, .int .i64], h5⟩)]⟩) := by kernel_rfl
theorem st47_0 (t1 : List AV) (ce : CallE) (k : Kont) (s : (Int × (List AV) × (List AV) × (List AV) × (List AV))) (next : St → Option AV) : stepA (codeA c47 ce [] 47 0 (sub [1, 1, 1, 1, 0, 1, 0, 0] (body Try.f47))) (normA [] [1, 4, 7, 8, 9]) next ((fun s : Int × (List AV) × (List AV) × (List AV) × (List AV) => ⟨[(1, AV.sl [.int .i64] t1), (4, AV.ptr [0, 4] 0 0), (7, AV.ptr [0, 7] 0 0), (8, AV.own [0, 8]), (9, AV.int .i64 s.1)], [([0, 0, 7], ⟨false, [.int .i64], s.2.1⟩), ([0, 1, 7], ⟨false, [.int .i64], s.2.2.1⟩), ([0, 2, 7], ⟨false, [.int .i64, .int .i64], s.2.2.2.1⟩), ([0, 4], ⟨true, [], [AV.agg [AV.snil, AV.snil, AV.snil]]⟩), ([0, 7], ⟨true, [], [AV.agg [AV.own [0, 0, 7], AV.own [0, 1, 7], AV.own [0, 2, 7]]]⟩), ([0, 8], ⟨false, [.int .i64, .int .i64, .int .i64, .int .i64], s.2.2.2.2⟩)]⟩) s) k = (R47_0 t1 s).el none (fun s => next ((fun s : Int × (List AV) × (List AV) × (List AV) × (List AV) => ⟨[(1, AV.sl [.int .i64] t1), (4, AV.ptr [0, 4] 0 0), (7, AV.ptr [0, 7] 0 0), (8, AV.own [0, 8]), (9, AV.int .i64 s.1)], [([0, 0, 7], ⟨false, [.int .i64], s.2.1⟩), ([0, 1, 7], ⟨false, [.int .i64], s.2.2.1⟩), ([0, 2, 7], ⟨false, [.int .i64, .int .i64], s.2.2.2.1⟩), ([0, 4], ⟨true, [], [AV.agg [AV.snil, AV.snil, AV.snil]]⟩), ([0, 7], ⟨true, [], [AV.agg [AV.own [0, 0, 7], AV.own [0, 1, 7], AV.own [0, 2, 7]]]⟩), ([0, 8], ⟨false, [.int .i64, .int .i64, .int .i64, .int .i64], s.2.2.2.2⟩)]⟩) s)) (fun p : (List AV) × (List AV) × (List AV) × (List AV) => k (.exit 0) ⟨[(4, AV.ptr [0, 4] 0 0), (7, AV.ptr [0, 7] 0 0), (8, AV.own [0, 8])], [([0, 0, 7], ⟨false, [.int .i64], p.1⟩), ([0, 1, 7], ⟨false, [.int .i64], p.2.1⟩), ([0, 2, 7], ⟨false, [.int .i64, .int .i64], p.2.2.1⟩), ([0, 4], ⟨true, [], [AV.agg [AV.snil, AV.snil, AV.snil]]⟩), ([0, 7], ⟨true, [], [AV.agg [AV.own [0, 0, 7], AV.own [0, 1, 7], AV.own [0, 2, 7]]]⟩), ([0, 8], ⟨false, [.int .i64, .int .i64, .int .i64, .int .i64], p.2.2.2⟩)]⟩) := (s47_0 ce t1 s.1 s.2.1 s.2.2.1 s.2.2.2.1 s.2.2.2.2 next k).trans (by unfold R47_0; unfold F47_0; simp only [el_cond, el_ro, el_sum, el_fail, el_next, el_stop] <;> rfl)
theorem ok47_0 {ce : CallE} : LoopOK c47 ce [] 47 0 (sub [1, 1, 1, 1, 0, 1, 0, 0] (body Try.f47)) := by
  intro m hm st k r h
  obtain rfl : l47_0 = m := Option.some.inj hm
  unfold l47_0 at h
  split at h
  · rename_i g0 t1 g1 g2 g3 g4 g5 g6 g7 t9 g8 g9 h0 g10 g11 h1 g12 g13 h2 g14 g15 g16 g17 g18 g19 g20 h5
    obtain ⟨hg, h⟩ := bif_some h
    simp only [Bool.and_eq_true] at hg
    obtain ⟨⟨⟨⟨⟨⟨⟨⟨⟨⟨⟨⟨⟨⟨⟨⟨⟨⟨⟨⟨q0, q1⟩, q2⟩, q3⟩, q4⟩, q5⟩, q6⟩, q7⟩, q8⟩, q9⟩, q10⟩, q11⟩, q12⟩, q13⟩, q14⟩, q15⟩, q16⟩, q17⟩, q18⟩, q19⟩, q20⟩ := hg
    obtain rfl := ctsEq_eq _ _ q0
    obtain rfl := (nmEq_iff _ _).1 q1
    obtain rfl := Nat.eq_of_beq_eq_true q2
    obtain rfl := Nat.eq_of_beq_eq_true q3
    obtain rfl := (nmEq_iff _ _).1 q4
    obtain rfl := Nat.eq_of_beq_eq_true q5
    obtain rfl := Nat.eq_of_beq_eq_true q6
    obtain rfl := (nmEq_iff _ _).1 q7
    obtain rfl := (nmEq_iff _ _).1 q8
    obtain rfl := ctsEq_eq _ _ q9
    obtain rfl := (nmEq_iff _ _).1 q10
    obtain rfl := ctsEq_eq _ _ q11
    obtain rfl := (nmEq_iff _ _).1 q12
    obtain rfl := ctsEq_eq _ _ q13
    obtain rfl := (nmEq_iff _ _).1 q14
    obtain rfl := (nmEq_iff _ _).1 q15
    obtain rfl := (nmEq_iff _ _).1 q16
    obtain rfl := (nmEq_iff _ _).1 q17
    obtain rfl := (nmEq_iff _ _).1 q18
    obtain rfl := (nmEq_iff _ _).1 q19
    obtain rfl := ctsEq_eq _ _ q20
    refine ⟨(((t1.length : Int) - t9).toNat + 1), ?_⟩
    rw [← h]
    exact loop_run (fun s : Int × (List AV) × (List AV) × (List AV) × (List AV) => ⟨[(1, AV.sl [.int .i64] t1), (4, AV.ptr [0, 4] 0 0), (7, AV.ptr [0, 7] 0 0), (8, AV.own [0, 8]), (9, AV.int .i64 s.1)], [([0, 0, 7], ⟨false, [.int .i64], s.2.1⟩), ([0, 1, 7], ⟨false, [.int .i64], s.2.2.1⟩), ([0, 2, 7], ⟨false, [.int .i64, .int .i64], s.2.2.2.1⟩), ([0, 4], ⟨true, [], [AV.agg [AV.snil, AV.snil, AV.snil]]⟩), ([0, 7], ⟨true, [], [AV.agg [AV.own [0, 0, 7], AV.own [0, 1, 7], AV.own [0, 2, 7]]]⟩), ([0, 8], ⟨false, [.int .i64, .int .i64, .int .i64, .int .i64], s.2.2.2.2⟩)]⟩) (fun p : (List AV) × (List AV) × (List AV) × (List AV) => k (.exit 0) ⟨[(4, AV.ptr [0, 4] 0 0), (7, AV.ptr [0, 7] 0 0), (8, AV.own [0, 8])], [([0, 0, 7], ⟨false, [.int .i64], p.1⟩), ([0, 1, 7], ⟨false, [.int .i64], p.2.1⟩), ([0, 2, 7], ⟨false, [.int .i64, .int .i64], p.2.2.1⟩), ([0, 4], ⟨true, [], [AV.agg [AV.snil, AV.snil, AV.snil]]⟩), ([0, 7], ⟨true, [], [AV.agg [AV.own [0, 0, 7], AV.own [0, 1, 7], AV.own [0, 2, 7]]]⟩), ([0, 8], ⟨false, [.int .i64, .int .i64, .int .i64, .int .i64], p.2.2.2⟩)]⟩) (st47_0 t1 ce k) _ (t9, h0, h1, h2, h5)
  · cases h
def q47 (a0 : List AV) (a1 : List AV) : Bool := (q102 a0 && (q103 a0 && (bif !(v103_0 a0) then true else (q104 a1 && (bif !(v104_0 a1) then true else (ro (runW (R47_0 a1) (((a1.length : Int) - 0).toNat + 1) (0, (v102_0 a0), (v102_1 a0), (v102_2 a0), ([] : List AV))) false (fun p28 => true)))))))
def v47_0 (a0 : List AV) (a1 : List AV) : List AV := (bif !(v103_0 a0) then ([] : List AV) else (bif !(v104_0 a1) then ([] : List AV) else (ro (runW (R47_0 a1) (((a1.length : Int) - 0).toNat + 1) (0, (v102_0 a0), (v102_1 a0), (v102_2 a0), ([] : List AV))) [] (fun p28 => p28.1))))
def v47_1 (a0 : List AV) (a1 : List AV) : List AV := (bif !(v103_0 a0) then ([] : List AV) else (bif !(v104_0 a1) then ([] : List AV) else (ro (runW (R47_0 a1) (((a1.length : Int) - 0).toNat + 1) (0, (v102_0 a0), (v102_1 a0), (v102_2 a0), ([] : List AV))) [] (fun p28 => p28.2.1))))
def v47_2 (a0 : List AV) (a1 : List AV) : List AV := (bif !(v103_0 a0) then ([] : List AV) else (bif !(v104_0 a1) then ([] : List AV) else (ro (runW (R47_0 a1) (((a1.length : Int) - 0).toNat + 1) (0, (v102_0 a0), (v102_1 a0), (v102_2 a0), ([] : List AV))) [] (fun p28 => p28.2.2.1))))
def v47_3 (a0 : List AV) (a1 : List AV) : List AV := (bif !(v103_0 a0) then ([] : List AV) else (bif !(v104_0 a1) then ([] : List AV) else (ro (runW (R47_0 a1) (((a1.length : Int) - 0).toNat + 1) (0, (v102_0 a0), (v102_1 a0), (v102_2 a0), ([] : List AV))) [] (fun p28 => p28.2.2.2))))
def v47_4 (a0 : List AV) (a1 : List AV) : Bool := (bif !(v103_0 a0) then false else (bif !(v104_0 a1) then false else true))
theorem e47 (a0 : List AV) (a1 : List AV) : funA c47 0 47 [AV.sl [.int .i64] a0, AV.sl [.int .i64] a1] = (bif q102 a0 then (bif q103 a0 then (bif !(v103_0 a0) then some (AV.tup [AV.agg [AV.fl [.int .i64] ([] : List AV), AV.fl [.int .i64] ([] : List AV), AV.fl [.int .i64, .int .i64] ([] : List AV)], AV.fl [.int .i64, .int .i64, .int .i64, .int .i64] ([] : List AV), AV.bool false])
    else (bif q104 a1 then (bif !(v104_0 a1) then some (AV.tup [AV.agg [AV.fl [.int .i64] ([] : List AV), AV.fl [.int .i64] ([] : List AV), AV.fl [.int .i64, .int .i64] ([] : List AV)], AV.fl [.int .i64, .int .i64, .int .i64, .int .i64] ([] : List AV), AV.bool false])
      else (ro (runW (R47_0 a1) (((a1.length : Int) - 0).toNat + 1) (0, (v102_0 a0), (v102_1 a0), (v102_2 a0), ([] : List AV))) none (fun p28 => some (AV.tup [AV.agg [AV.fl [.int .i64] p28.1, AV.fl [.int .i64] p28.2.1, AV.fl [.int .i64, .int .i64] p28.2.2.1], AV.fl [.int .i64, .int .i64, .int .i64, .int .i64] p28.2.2.2, AV.bool true]))))
     else none))
   else none)
  else none) := by kernel_rfl
theorem r47 (a0 : List AV) (a1 : List AV) (h : q47 a0 a1 = true) : funA c47 0 47 [AV.sl [.int .i64] a0, AV.sl [.int .i64] a1] = some (AV.tup [AV.agg [AV.fl [.int .i64] (v47_0 a0 a1), AV.fl [.int .i64] (v47_1 a0 a1), AV.fl [.int .i64, .int .i64] (v47_2 a0 a1)], AV.fl [.int .i64, .int .i64, .int .i64, .int .i64] (v47_3 a0 a1), AV.bool (v47_4 a0 a1)]) := (e47 a0 a1).trans ((brL (brL (br (fun b => some (AV.tup [AV.agg [AV.fl [.int .i64] (bif b then ([] : List AV) else (bif !(v104_0 a1) then ([] : List AV) else (ro (runW (R47_0 a1) (((a1.length : Int) - 0).toNat + 1) (0, (v102_0 a0), (v102_1 a0), (v102_2 a0), ([] : List AV))) [] (fun p28 => p28.1)))), AV.fl [.int .i64] (bif b then ([] : List AV) else (bif !(v104_0 a1) then ([] : List AV) else (ro (runW (R47_0 a1) (((a1.length : Int) - 0).toNat + 1) (0, (v102_0 a0), (v102_1 a0), (v102_2 a0), ([] : List AV))) [] (fun p28 => p28.2.1)))), AV.fl [.int .i64, .int .i64] (bif b then ([] : List AV) else (bif !(v104_0 a1) then ([] : List AV) else (ro (runW (R47_0 a1) (((a1.length : Int) - 0).toNat + 1) (0, (v102_0 a0), (v102_1 a0), (v102_2 a0), ([] : List AV))) [] (fun p28 => p28.2.2.1))))], AV.fl [.int .i64, .int .i64, .int .i64, .int .i64] (bif b then ([] : List AV) else (bif !(v104_0 a1) then ([] : List AV) else (ro (runW (R47_0 a1) (((a1.length : Int) - 0).toNat + 1) (0, (v102_0 a0), (v102_1 a0), (v102_2 a0), ([] : List AV))) [] (fun p28 => p28.2.2.2)))), AV.bool (bif b then false else (bif !(v104_0 a1) then false else true))])) (fun _ => rfl) (brL (br (fun b => some (AV.tup [AV.agg [AV.fl [.int .i64] (bif b then ([] : List AV) else (ro (runW (R47_0 a1) (((a1.length : Int) - 0).toNat + 1) (0, (v102_0 a0), (v102_1 a0), (v102_2 a0), ([] : List AV))) [] (fun p28 => p28.1))), AV.fl [.int .i64] (bif b then ([] : List AV) else (ro (runW (R47_0 a1) (((a1.length : Int) - 0).toNat + 1) (0, (v102_0 a0), (v102_1 a0), (v102_2 a0), ([] : List AV))) [] (fun p28 => p28.2.1))), AV.fl [.int .i64, .int .i64] (bif b then ([] : List AV) else (ro (runW (R47_0 a1) (((a1.length : Int) - 0).toNat + 1) (0, (v102_0 a0), (v102_1 a0), (v102_2 a0), ([] : List AV))) [] (fun p28 => p28.2.2.1)))], AV.fl [.int .i64, .int .i64, .int .i64, .int .i64] (bif b then ([] : List AV) else (ro (runW (R47_0 a1) (((a1.length : Int) - 0).toNat + 1) (0, (v102_0 a0), (v102_1 a0), (v102_2 a0), ([] : List AV))) [] (fun p28 => p28.2.2.2))), AV.bool (bif b then false else true)])) (fun _ => rfl) (brO (fun o : Option (((List AV) × (List AV) × (List AV) × (List AV))) => some (AV.tup [AV.agg [AV.fl [.int .i64] (ro o [] (fun p28 => p28.1)), AV.fl [.int .i64] (ro o [] (fun p28 => p28.2.1)), AV.fl [.int .i64, .int .i64] (ro o [] (fun p28 => p28.2.2.1))], AV.fl [.int .i64, .int .i64, .int .i64, .int .i64] (ro o [] (fun p28 => p28.2.2.2)), AV.bool true])) (fun p28 => (fun _ => rfl)))))))) h)
def m47 : TModel
  | [.sl g0 a0, .sl g1 a1] => bif ctsEq g0 ([.int .i64]) && ctsEq g1 ([.int .i64]) then some (q47 a0 a1, AV.tup [AV.agg [AV.fl [.int .i64] (v47_0 a0 a1), AV.fl [.int .i64] (v47_1 a0 a1), AV.fl [.int .i64, .int .i64] (v47_2 a0 a1)], AV.fl [.int .i64, .int .i64, .int .i64, .int .i64] (v47_3 a0 a1), AV.bool (v47_4 a0 a1)]) else none
  | _ => none
theorem k47 : Known Try.prog 47 := ⟨Try.f47, Try.func47, by kernel_rfl, by kernel_rfl⟩
theorem meets47 : Meets Try.prog 47 m47 := by
  refine meet (f := Try.f47) (l := [(0, sub [1, 1, 1, 1, 0, 1, 0, 0] (body Try.f47))]) (hs := [(47, 0, [1, 4, 7, 8, 9]), (47, 999, [4, 5, 6]), (47, 1000, [4, 7, 8]), (47, 1001, [1, 4, 7, 8, 9])]) (ts := [(41, m41), (96, m96), (102, m102), (103, m103), (104, m104)]) (ws := []) (is := []) (ls := [(47, 0, l47_0)]) (lvl := 0) mixed k47 Try.func47 (by kernel_rfl) (loops_cons ok47_0 noLoop) (allT_cons meets41 (allT_cons meets96 (allT_cons meets102 (allT_cons meets103 (allT_cons meets104 allT_nil))))) allM_nil noI fun w xs us r hl hv h => ?_
  unfold m47 at h
  split at h
  · rename_i g0 a0 g1 a1
    obtain ⟨hg, h⟩ := bif_pair h
    simp only [Bool.and_eq_true] at hg
    obtain ⟨q0, q1⟩ := hg
    obtain rfl := ctsEq_eq _ _ q0
    obtain rfl := ctsEq_eq _ _ q1
    obtain ⟨h1, rfl⟩ := pair_inj h
    exact r47 a0 a1 h1
  · cases h

/-! ### 163 loop.example/g01984/impl.within$1 -/
noncomputable def c163 : Cfg := cfg Try.prog [(163, 999, [4])] [] [] [] []
def q163 (a0 : Int) (a1 : AV) (a2 : AV) : Bool := true
def v163_0 (a0 : Int) (a1 : AV) (a2 : AV) : Bool := (bif decide (a0 < fI a1 0) then true else decide (a0 > fI a2 0))
theorem e163 (a0 : Int) (a1 : AV) (a2 : AV) : funA c163 0 163 [AV.int .i64 a0, AV.rptr [.int .i64] a1 0, AV.rptr [.int .i64] a2 0] = (bif decide (a0 < fI a1 0) then some (AV.bool true)
  else some (AV.bool (decide (a0 > fI a2 0)))) := by kernel_rfl
theorem r163 (a0 : Int) (a1 : AV) (a2 : AV) : funA c163 0 163 [AV.int .i64 a0, AV.rptr [.int .i64] a1 0, AV.rptr [.int .i64] a2 0] = some (AV.bool (v163_0 a0 a1 a2)) := (e163 a0 a1 a2).trans (of_tt (brT (fun b => some (AV.bool (bif b then true else decide (a0 > fI a2 0)))) (fun _ => rfl) (fun _ => rfl)))
def m163 : TModel
  | [.int .i64 a0, .rptr g0 a1 g1, .rptr g2 a2 g3] => bif ctsEq g0 ([.int .i64]) && Nat.beq g1 0 && ctsEq g2 ([.int .i64]) && Nat.beq g3 0 then some (true, AV.bool (v163_0 a0 a1 a2)) else none
  | _ => none
theorem k163 : Known Try.prog 163 := ⟨Try.f163, Try.func163, by kernel_rfl, by kernel_rfl⟩
theorem meets163 : Meets Try.prog 163 m163 := by
  refine meet (f := Try.f163) (l := []) (hs := [(163, 999, [4])]) (ts := []) (ws := []) (is := []) (ls := []) (lvl := 0) mixed k163 Try.func163 (by kernel_rfl) noLoop allT_nil allM_nil noI fun w xs us r hl hv h => ?_
  unfold m163 at h
  split at h
  · rename_i a0 g0 a1 g1 g2 a2 g3
    obtain ⟨hg, h⟩ := bif_pair h
    simp only [Bool.and_eq_true] at hg
    obtain ⟨⟨⟨q0, q1⟩, q2⟩, q3⟩ := hg
    obtain rfl := ctsEq_eq _ _ q0
    obtain rfl := Nat.eq_of_beq_eq_true q1
    obtain rfl := ctsEq_eq _ _ q2
    obtain rfl := Nat.eq_of_beq_eq_true q3
    obtain ⟨h1, rfl⟩ := pair_inj h
    exact r163 a0 a1 a2
  · cases h

/-! ### 178 slices.IndexFunc[[]int,int] -/
def F178_0 (t0 : List AV) (t1_0 : AV) (t1_1 : AV) (t7 : Int) (t8 : Int) : Out (Int) (Unit ⊕ Int) := (bif decide (t8 < t7) then (bif (decide (0 ≤ t8) && decide (t8 < (t0.length : Int))) then (bif (v163_0 (fI (t0.getD t8.toNat AV.undef) 0) t1_0 t1_1) then .stop (.inr t8)
    else .next (IntKind.i64.wrap (t8 + 1)))
   else .fail)
  else .stop (.inl ()))
def R178_0 (t0 : List AV) (t1_0 : AV) (t1_1 : AV) (t7 : Int) : (Int) → Out (Int) (Unit ⊕ Int) := fun s : Int => F178_0 t0 t1_0 t1_1 t7 s
def l178_0 : LModel := fun _ _ st k => match st with
  | ⟨[(0, .sl g0 t0), (1, .fn g1 [.rptr g2 t1_0 g3, .rptr g4 t1_1 g5]), (7, .int .i64 t7), (8, .int .i64 t8)], []⟩ => bif ctsEq g0 ([.int .i64]) && Nat.beq g1 163 && ctsEq g2 ([.int .i64]) && Nat.beq g3 0 && ctsEq g4 ([.int .i64]) && Nat.beq g5 0 then ro (runW (R178_0 t0 t1_0 t1_1 t7) ((t7 - t8).toNat + 1) t8) none (sumE (fun _ : Unit => k (.exit 0) ⟨[], []⟩) (fun p : Int => k .ret ⟨[(4, AV.int .i64 p)], []⟩)) else none
  | _ => none
noncomputable def c178 : Cfg := cfg Try.prog [(178, 0, [0, 1, 7, 8]), (178, 999, [4]), (178, 1000, []), (178, 1001, [0, 1, 7, 8])] [(163, m163)] [] [] [(178, 0, l178_0)]
theorem s178_0 (ce : CallE) (t0 : List AV) (t1_0 : AV) (t1_1 : AV) (t7 : Int) (t8 : Int) (next : St → Option AV) (k : Kont) : stepA (codeA c178 ce [] 178 0 (sub [1, 0, 1, 0, 0] (body Try.f178))) (normA [] [0, 1, 7, 8]) next ⟨[(0, AV.sl [.int .i64] t0), (1, AV.fn 163 [AV.rptr [.int .i64] t1_0 0, AV.rptr [.int .i64] t1_1 0]), (7, AV.int .i64 t7), (8, AV.int .i64 t8)], []⟩ k = (bif decide (t8 < t7) then (bif (decide (0 ≤ t8) && decide (t8 < (t0.length : Int))) then (bif (v163_0 (fI (t0.getD t8.toNat AV.undef) 0) t1_0 t1_1) then k .ret ⟨[(4, AV.int .i64 t8)], []⟩
    else next ⟨[(0, AV.sl [.int .i64] t0), (1, AV.fn 163 [AV.rptr [.int .i64] t1_0 0, AV.rptr [.int .i64] t1_1 0]), (7, AV.int .i64 t7), (8, AV.int .i64 (IntKind.i64.wrap (t8 + 1)))], []⟩)
   else none)
  else k (.exit 0) ⟨[], []⟩) := by kernel_rfl
theorem st178_0 (t0 : List AV) (t1_0 : AV) (t1_1 : AV) (t7 : Int) (ce : CallE) (k : Kont) (s : Int) (next : St → Option AV) : stepA (codeA c178 ce [] 178 0 (sub [1, 0, 1, 0, 0] (body Try.f178))) (normA [] [0, 1, 7, 8]) next ((fun s : Int => ⟨[(0, AV.sl [.int .i64] t0), (1, AV.fn 163 [AV.rptr [.int .i64] t1_0 0, AV.rptr [.int .i64] t1_1 0]), (7, AV.int .i64 t7), (8, AV.int .i64 s)], []⟩) s) k = (R178_0 t0 t1_0 t1_1 t7 s).el none (fun s => next ((fun s : Int => ⟨[(0, AV.sl [.int .i64] t0), (1, AV.fn 163 [AV.rptr [.int .i64] t1_0 0, AV.rptr [.int .i64] t1_1 0]), (7, AV.int .i64 t7), (8, AV.int .i64 s)], []⟩) s)) (sumE (fun _ : Unit => k (.exit 0) ⟨[], []⟩) (fun p : Int => k .ret ⟨[(4, AV.int .i64 p)], []⟩)) := (s178_0 ce t0 t1_0 t1_1 t7 s next k).trans (by unfold R178_0; unfold F178_0; simp only [el_cond, el_ro, el_sum, el_fail, el_next, el_stop] <;> rfl)
theorem ok178_0 {ce : CallE} : LoopOK c178 ce [] 178 0 (sub [1, 0, 1, 0, 0] (body Try.f178)) := by
  intro m hm st k r h
  obtain rfl : l178_0 = m := Option.some.inj hm
  unfold l178_0 at h
  split at h
  · rename_i g0 t0 g1 g2 t1_0 g3 g4 t1_1 g5 t7 t8
    obtain ⟨hg, h⟩ := bif_some h
    simp only [Bool.and_eq_true] at hg
    obtain ⟨⟨⟨⟨⟨q0, q1⟩, q2⟩, q3⟩, q4⟩, q5⟩ := hg
    obtain rfl := ctsEq_eq _ _ q0
    obtain rfl := Nat.eq_of_beq_eq_true q1
    obtain rfl := ctsEq_eq _ _ q2
    obtain rfl := Nat.eq_of_beq_eq_true q3
    obtain rfl := ctsEq_eq _ _ q4
    obtain rfl := Nat.eq_of_beq_eq_true q5
    refine ⟨((t7 - t8).toNat + 1), ?_⟩
    rw [← h]
    exact loop_run (fun s : Int => ⟨[(0, AV.sl [.int .i64] t0), (1, AV.fn 163 [AV.rptr [.int .i64] t1_0 0, AV.rptr [.int .i64] t1_1 0]), (7, AV.int .i64 t7), (8, AV.int .i64 s)], []⟩) (sumE (fun _ : Unit => k (.exit 0) ⟨[], []⟩) (fun p : Int => k .ret ⟨[(4, AV.int .i64 p)], []⟩)) (st178_0 t0 t1_0 t1_1 t7 ce k) _ t8
  · cases h
def q178 (a0 : List AV) (a1_0 : AV) (a1_1 : AV) : Bool := (ro (runW (R178_0 a0 a1_0 a1_1 (a0.length : Int)) (((a0.length : Int) - 0).toNat + 1) 0) false (sumE (fun _ => true) (fun p30 => true)))
def v178_0 (a0 : List AV) (a1_0 : AV) (a1_1 : AV) : Int := (ro (runW (R178_0 a0 a1_0 a1_1 (a0.length : Int)) (((a0.length : Int) - 0).toNat + 1) 0) 0 (sumE (fun _ => (-1)) (fun p30 => p30)))
theorem e178 (a0 : List AV) (a1_0 : AV) (a1_1 : AV) : funA c178 0 178 [AV.sl [.int .i64] a0, AV.fn 163 [AV.rptr [.int .i64] a1_0 0, AV.rptr [.int .i64] a1_1 0]] = (ro (runW (R178_0 a0 a1_0 a1_1 (a0.length : Int)) (((a0.length : Int) - 0).toNat + 1) 0) none (sumE (fun _ => some (AV.int .i64 (-1))) (fun p30 => some (AV.int .i64 p30)))) := by kernel_rfl
theorem r178 (a0 : List AV) (a1_0 : AV) (a1_1 : AV) (h : q178 a0 a1_0 a1_1 = true) : funA c178 0 178 [AV.sl [.int .i64] a0, AV.fn 163 [AV.rptr [.int .i64] a1_0 0, AV.rptr [.int .i64] a1_1 0]] = some (AV.int .i64 (v178_0 a0 a1_0 a1_1)) := (e178 a0 a1_0 a1_1).trans ((brO (fun o : Option (Unit ⊕ Int) => some (AV.int .i64 (ro o 0 (sumE (fun _ => (-1)) (fun p30 => p30))))) (brS (fun o : Unit ⊕ Int => some (AV.int .i64 ((sumE (fun _ => (-1)) (fun p30 => p30)) o))) (fun _ => (fun _ => rfl)) (fun p30 => (fun _ => rfl)))) h)
def m178 : TModel
  | [.sl g0 a0, .fn g1 [.rptr g2 a1_0 g3, .rptr g4 a1_1 g5]] => bif ctsEq g0 ([.int .i64]) && Nat.beq g1 163 && ctsEq g2 ([.int .i64]) && Nat.beq g3 0 && ctsEq g4 ([.int .i64]) && Nat.beq g5 0 then some (q178 a0 a1_0 a1_1, AV.int .i64 (v178_0 a0 a1_0 a1_1)) else none
  | _ => none
theorem k178 : Known Try.prog 178 := ⟨Try.f178, Try.func178, by kernel_rfl, by kernel_rfl⟩
theorem meets178 : Meets Try.prog 178 m178 := by
  refine meet (f := Try.f178) (l := [(0, sub [1, 0, 1, 0, 0] (body Try.f178))]) (hs := [(178, 0, [0, 1, 7, 8]), (178, 999, [4]), (178, 1000, []), (178, 1001, [0, 1, 7, 8])]) (ts := [(163, m163)]) (ws := []) (is := []) (ls := [(178, 0, l178_0)]) (lvl := 0) mixed k178 Try.func178 (by kernel_rfl) (loops_cons ok178_0 noLoop) (allT_cons meets163 allT_nil) allM_nil noI fun w xs us r hl hv h => ?_
  unfold m178 at h
  split at h
  · rename_i g0 a0 g1 g2 a1_0 g3 g4 a1_1 g5
    obtain ⟨hg, h⟩ := bif_pair h
    simp only [Bool.and_eq_true] at hg
    obtain ⟨⟨⟨⟨⟨q0, q1⟩, q2⟩, q3⟩, q4⟩, q5⟩ := hg
    obtain rfl := ctsEq_eq _ _ q0
    obtain rfl := Nat.eq_of_beq_eq_true q1
    obtain rfl := ctsEq_eq _ _ q2
    obtain rfl := Nat.eq_of_beq_eq_true q3
    obtain rfl := ctsEq_eq _ _ q4
    obtain rfl := Nat.eq_of_beq_eq_true q5
    obtain ⟨h1, rfl⟩ := pair_inj h
    exact r178 a0 a1_0 a1_1 h1
  · cases h

/-! ### 162 slices.ContainsFunc[[]int,int] -/
noncomputable def c162 : Cfg := cfg Try.prog [(162, 999, [4])] [(178, m178)] [] [] []
def q162 (a0 : List AV) (a1_0 : AV) (a1_1 : AV) : Bool := q178 a0 a1_0 a1_1
def v162_0 (a0 : List AV) (a1_0 : AV) (a1_1 : AV) : Bool := decide ((v178_0 a0 a1_0 a1_1) ≥ 0)
theorem e162 (a0 : List AV) (a1_0 : AV) (a1_1 : AV) : funA c162 0 162 [AV.sl [.int .i64] a0, AV.fn 163 [AV.rptr [.int .i64] a1_0 0, AV.rptr [.int .i64] a1_1 0]] = (bif q178 a0 a1_0 a1_1 then some (AV.bool (decide ((v178_0 a0 a1_0 a1_1) ≥ 0)))
  else none) := by kernel_rfl
theorem r162 (a0 : List AV) (a1_0 : AV) (a1_1 : AV) (h : q162 a0 a1_0 a1_1 = true) : funA c162 0 162 [AV.sl [.int .i64] a0, AV.fn 163 [AV.rptr [.int .i64] a1_0 0, AV.rptr [.int .i64] a1_1 0]] = some (AV.bool (v162_0 a0 a1_0 a1_1)) := (e162 a0 a1_0 a1_1).trans ((brL1 (fun _ => rfl)) h)
def m162 : TModel
  | [.sl g0 a0, .fn g1 [.rptr g2 a1_0 g3, .rptr g4 a1_1 g5]] => bif ctsEq g0 ([.int .i64]) && Nat.beq g1 163 && ctsEq g2 ([.int .i64]) && Nat.beq g3 0 && ctsEq g4 ([.int .i64]) && Nat.beq g5 0 then some (q162 a0 a1_0 a1_1, AV.bool (v162_0 a0 a1_0 a1_1)) else none
  | _ => none
theorem k162 : Known Try.prog 162 := ⟨Try.f162, Try.func162, by kernel_rfl, by kernel_rfl⟩
theorem meets162 : Meets Try.prog 162 m162 := by
  refine meet (f := Try.f162) (l := []) (hs := [(162, 999, [4])]) (ts := [(178, m178)]) (ws := []) (is := []) (ls := []) (lvl := 0) mixed k162 Try.func162 (by kernel_rfl) noLoop (allT_cons meets178 allT_nil) allM_nil noI fun w xs us r hl hv h => ?_
  unfold m162 at h
  split at h
  · rename_i g0 a0 g1 g2 a1_0 g3 g4 a1_1 g5
    obtain ⟨hg, h⟩ := bif_pair h
    simp only [Bool.and_eq_true] at hg
    obtain ⟨⟨⟨⟨⟨q0, q1⟩, q2⟩, q3⟩, q4⟩, q5⟩ := hg
    obtain rfl := ctsEq_eq _ _ q0
    obtain rfl := Nat.eq_of_beq_eq_true q1
    obtain rfl := ctsEq_eq _ _ q2
    obtain rfl := Nat.eq_of_beq_eq_true q3
    obtain rfl := ctsEq_eq _ _ q4
    obtain rfl := Nat.eq_of_beq_eq_true q5
    obtain ⟨h1, rfl⟩ := pair_inj h
    exact r162 a0 a1_0 a1_1 h1
  · cases h

/-! ### 124 loop.example/g01984/impl.within -/
noncomputable def c124 : Cfg := cfg Try.prog [(124, 999, [6])] [(162, m162)] [] [] []
def q124 (a0 : List AV) (a1 : Int) (a2 : Int) : Bool := q162 a0 (AV.int .i64 a1) (AV.int .i64 a2)
def v124_0 (a0 : List AV) (a1 : Int) (a2 : Int) : Bool := !(v162_0 a0 (AV.int .i64 a1) (AV.int .i64 a2))
theorem e124 (a0 : List AV) (a1 : Int) (a2 : Int) : funA c124 0 124 [AV.sl [.int .i64] a0, AV.int .i64 a1, AV.int .i64 a2] = (bif q162 a0 (AV.int .i64 a1) (AV.int .i64 a2) then some (AV.bool (!(v162_0 a0 (AV.int .i64 a1) (AV.int .i64 a2))))
  else none) := by kernel_rfl
theorem r124 (a0 : List AV) (a1 : Int) (a2 : Int) (h : q124 a0 a1 a2 = true) : funA c124 0 124 [AV.sl [.int .i64] a0, AV.int .i64 a1, AV.int .i64 a2] = some (AV.bool (v124_0 a0 a1 a2)) := (e124 a0 a1 a2).trans ((brL1 (fun _ => rfl)) h)
def m124 : TModel
  | [.sl g0 a0, .int .i64 a1, .int .i64 a2] => bif ctsEq g0 ([.int .i64]) then some (q124 a0 a1 a2, AV.bool (v124_0 a0 a1 a2)) else none
  | _ => none
theorem k124 : Known Try.prog 124 := ⟨Try.f124, Try.func124, by kernel_rfl, by kernel_rfl⟩
theorem meets124 : Meets Try.prog 124 m124 := by
  refine meet (f := Try.f124) (l := []) (hs := [(124, 999, [6])]) (ts := [(162, m162)]) (ws := []) (is := []) (ls := []) (lvl := 0) mixed k124 Try.func124 (by kernel_rfl) noLoop (allT_cons meets162 allT_nil) allM_nil noI fun w xs us r hl hv h => ?_
  unfold m124 at h
  split at h
  · rename_i g0 a0 a1 a2
    obtain ⟨hg, h⟩ := bif_pair h
    have q0 := hg
    obtain rfl := ctsEq_eq _ _ q0
    obtain ⟨h1, rfl⟩ := pair_inj h
    exact r124 a0 a1 a2 h1
  · cases h

/-! ### 105 loop.example/g01984/impl.AreValues -/
noncomputable def c105 : Cfg := cfg Try.prog [(105, 999, [2])] [(124, m124)] [] [] []
def q105 (a0 : List AV) : Bool := (bif decide ((a0.length : Int) ≤ 64) then q124 a0 (-999) 999 else true)
def v105_0 (a0 : List AV) : Bool := (bif decide ((a0.length : Int) ≤ 64) then (v124_0 a0 (-999) 999) else false)
theorem e105 (a0 : List AV) : funA c105 0 105 [AV.sl [.int .i64] a0] = (bif decide ((a0.length : Int) ≤ 64) then (bif q124 a0 (-999) 999 then some (AV.bool (v124_0 a0 (-999) 999))
   else none)
  else some (AV.bool false)) := by kernel_rfl
theorem r105 (a0 : List AV) (h : q105 a0 = true) : funA c105 0 105 [AV.sl [.int .i64] a0] = some (AV.bool (v105_0 a0)) := (e105 a0).trans ((br (fun b => some (AV.bool (bif b then (v124_0 a0 (-999) 999) else false))) (brL1 (fun _ => rfl)) (fun _ => rfl)) h)
def m105 : TModel
  | [.sl g0 a0] => bif ctsEq g0 ([.int .i64]) then some (q105 a0, AV.bool (v105_0 a0)) else none
  | _ => none
theorem k105 : Known Try.prog 105 := ⟨Try.f105, Try.func105, by kernel_rfl, by kernel_rfl⟩
theorem meets105 : Meets Try.prog 105 m105 := by
  refine meet (f := Try.f105) (l := []) (hs := [(105, 999, [2])]) (ts := [(124, m124)]) (ws := []) (is := []) (ls := []) (lvl := 0) mixed k105 Try.func105 (by kernel_rfl) noLoop (allT_cons meets124 allT_nil) allM_nil noI fun w xs us r hl hv h => ?_
  unfold m105 at h
  split at h
  · rename_i g0 a0
    obtain ⟨hg, h⟩ := bif_pair h
    have q0 := hg
    obtain rfl := ctsEq_eq _ _ q0
    obtain ⟨h1, rfl⟩ := pair_inj h
    exact r105 a0 h1
  · cases h

/-! ### 106 loop.example/g01984/impl.isHistory -/
noncomputable def c106 : Cfg := cfg Try.prog [(106, 999, [2])] [(124, m124)] [] [] []
def q106 (a0 : List AV) : Bool := (bif decide ((a0.length : Int) ≤ 60) then q124 a0 (-1000) 1000 else true)
def v106_0 (a0 : List AV) : Bool := (bif decide ((a0.length : Int) ≤ 60) then (v124_0 a0 (-1000) 1000) else false)
theorem e106 (a0 : List AV) : funA c106 0 106 [AV.sl [.int .i64] a0] = (bif decide ((a0.length : Int) ≤ 60) then (bif q124 a0 (-1000) 1000 then some (AV.bool (v124_0 a0 (-1000) 1000))
   else none)
  else some (AV.bool false)) := by kernel_rfl
theorem r106 (a0 : List AV) (h : q106 a0 = true) : funA c106 0 106 [AV.sl [.int .i64] a0] = some (AV.bool (v106_0 a0)) := (e106 a0).trans ((br (fun b => some (AV.bool (bif b then (v124_0 a0 (-1000) 1000) else false))) (brL1 (fun _ => rfl)) (fun _ => rfl)) h)
def m106 : TModel
  | [.sl g0 a0] => bif ctsEq g0 ([.int .i64]) then some (q106 a0, AV.bool (v106_0 a0)) else none
  | _ => none
theorem k106 : Known Try.prog 106 := ⟨Try.f106, Try.func106, by kernel_rfl, by kernel_rfl⟩
theorem meets106 : Meets Try.prog 106 m106 := by
  refine meet (f := Try.f106) (l := []) (hs := [(106, 999, [2])]) (ts := [(124, m124)]) (ws := []) (is := []) (ls := []) (lvl := 0) mixed k106 Try.func106 (by kernel_rfl) noLoop (allT_cons meets124 allT_nil) allM_nil noI fun w xs us r hl hv h => ?_
  unfold m106 at h
  split at h
  · rename_i g0 a0
    obtain ⟨hg, h⟩ := bif_pair h
    have q0 := hg
    obtain rfl := ctsEq_eq _ _ q0
    obtain ⟨h1, rfl⟩ := pair_inj h
    exact r106 a0 h1
  · cases h

/-! ### 139 slices.Clone[[]int,int] -/
noncomputable def c139 : Cfg := cfg Try.prog [(139, 999, [2])] [] [] [] []
def q139 (a0 : List AV) : Bool := decide (a0.length * 8 ≤ 140737488355328) && decide (a0.length ≤ 140737488355328)
def v139_0 (a0 : List AV) : List AV := a0
theorem e139 (a0 : List AV) : funA c139 0 139 [AV.sl [.int .i64] a0] = (bif decide (0 < a0.length) then (bif (decide ((([] : List AV).length + a0.length) * 8 ≤ 140737488355328) && decide ((([] : List AV).length + a0.length) ≤ 140737488355328)) then some (AV.fl [.int .i64] (([] : List AV) ++ a0))
   else none)
  else none) := by kernel_rfl
theorem e139n (b : Bool) : funA c139 0 139 [AV.sle b [.int .i64]] = some (AV.fl [.int .i64] []) := by cases b <;> kernel_rfl
def m139 : TModel
  | [.sl g0 a0] => bif ctsEq g0 [.int .i64] then some (q139 a0, AV.fl [.int .i64] (v139_0 a0)) else none
  | _ => none
theorem k139 : Known Try.prog 139 := ⟨Try.f139, Try.func139, by kernel_rfl, by kernel_rfl⟩
theorem meets139 : Meets Try.prog 139 m139 := by
  refine meet_nil (f := Try.f139) (l := []) (hs := [(139, 999, [2])]) (ts := []) (ws := []) (is := []) (ls := []) (lvl := 0) (tys := [.int .i64]) mixed k139 Try.func139 (by kernel_rfl) noLoop allT_nil allM_nil noI (fun xs r h => ?_) (fun b r h => ?_) (fun ys r h0 h => ?_)
  · unfold m139 at h
    split at h
    · rename_i g0 a0
      obtain ⟨hg, h⟩ := bif_pair h
      obtain rfl := ctsEq_eq _ _ hg
      exact ⟨a0, rfl⟩
    · cases h
  · obtain ⟨hg, h⟩ := bif_pair (g := ctsEq [.int .i64] [.int .i64]) h
    obtain ⟨_, rfl⟩ := pair_inj h
    exact e139n b
  · obtain ⟨hg, h⟩ := bif_pair (g := ctsEq [.int .i64] [.int .i64]) h
    obtain ⟨hq, rfl⟩ := pair_inj h
    refine (e139 ys).trans ?_
    unfold q139 at hq
    have e : ([] : List AV).length + ys.length = ys.length := by simp
    rw [e, hq, decide_eq_true h0]
    rfl
end Go.Proofs.Ytepfklcdpkpepaa
