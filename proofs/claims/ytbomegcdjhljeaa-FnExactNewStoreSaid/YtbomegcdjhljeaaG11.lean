/- The walk of what this claim reaches: printed by a program, each equation checked by the kernel. -/
import Derived.Test.YtbomegcdjhljeaaVEy
import Derived.Test.YtbomegcdjhljeaaProg
import Derived.KernelRfl
namespace Go.Proofs.Ytbomegcdjhljeaa
open Go Go.Proofs.VE
set_option linter.unusedVariables false
set_option linter.unusedSimpArgs false
set_option maxRecDepth 100000
theorem mixed : Try.prog.follows .mixedOrders = true := by kernel_rfl
/-! ### 34 loop.example/g01984/laws.toIntS -/
def F34_0 (t0 : List AV) (t4 : Int) (h0 : List AV) : Out ((Int × (List AV))) (((List AV))) := (bif decide (t4 < (t0.length : Int)) then (bif (decide (0 ≤ t4) && decide (t4 < (t0.length : Int))) then (bif (decide (0 ≤ t4) && decide (t4 < (h0.length : Int))) then .next (IntKind.i64.wrap (t4 + 1), h0.set t4.toNat (AV.agg [AV.int .i64 (fI (t0.getD t4.toNat AV.undef) 0)]))
    else .fail)
   else .fail)
  else .stop h0)
def R34_0 (t0 : List AV) : ((Int × (List AV))) → Out ((Int × (List AV))) (((List AV))) := fun s : Int × (List AV) => F34_0 t0 s.1 s.2
def l34_0 : LModel := fun _ _ st k => match st with
  | ⟨[(0, .sl g0 t0), (3, .own g1), (4, .int .i64 t4)], [(g2, ⟨false, g3, h0⟩)]⟩ => bif ctsEq g0 ([.int .i64]) && nmEq g1 ([0, 3]) && nmEq g2 ([0, 3]) && ctsEq g3 ([.int .i64]) then ro (runW (R34_0 t0) (((t0.length : Int) - t4).toNat + 1) (t4, h0)) none (fun p : (List AV) => k (.exit 0) ⟨[(3, AV.own [0, 3])], [([0, 3], ⟨false, [.int .i64], p⟩)]⟩) else none
  | _ => none
noncomputable def c34 : Cfg := cfg Try.prog [(34, 0, [0, 3, 4]), (34, 999, [2]), (34, 1000, [3]), (34, 1001, [0, 3, 4])] [] [] [] [(34, 0, l34_0)]
theorem s34_0 (ce : CallE) (t0 : List AV) (t4 : Int) (h0 : List AV) (next : St → Option AV) (k : Kont) : stepA (codeA c34 ce [] 34 0 (sub [1, 1, 0, 1, 0, 0] (body Try.f34))) (normA [] [0, 3, 4]) next ⟨[(0, AV.sl [.int .i64] t0), (3, AV.own [0, 3]), (4, AV.int .i64 t4)], [([0, 3], ⟨false, [.int .i64], h0⟩)]⟩ k = (bif decide (t4 < (t0.length : Int)) then (bif (decide (0 ≤ t4) && decide (t4 < (t0.length : Int))) then (bif (decide (0 ≤ t4) && decide (t4 < (h0.length : Int))) then next ⟨[(0, AV.sl [.int .i64] t0), (3, AV.own [0, 3]), (4, AV.int .i64 (IntKind.i64.wrap (t4 + 1)))], [([0, 3], ⟨false, [.int .i64], h0.set t4.toNat (AV.agg [AV.int .i64 (fI (t0.getD t4.toNat AV.undef) 0)])⟩)]⟩
    else none)
   else none)
  else k (.exit 0) ⟨[(3, AV.own [0, 3])], [([0, 3], ⟨false, [.int .i64], h0⟩)]⟩) := by kernel_rfl
theorem st34_0 (t0 : List AV) (ce : CallE) (k : Kont) (s : (Int × (List AV))) (next : St → Option AV) : stepA (codeA c34 ce [] 34 0 (sub [1, 1, 0, 1, 0, 0] (body Try.f34))) (normA [] [0, 3, 4]) next ((fun s : Int × (List AV) => ⟨[(0, AV.sl [.int .i64] t0), (3, AV.own [0, 3]), (4, AV.int .i64 s.1)], [([0, 3], ⟨false, [.int .i64], s.2⟩)]⟩) s) k = (R34_0 t0 s).el none (fun s => next ((fun s : Int × (List AV) => ⟨[(0, AV.sl [.int .i64] t0), (3, AV.own [0, 3]), (4, AV.int .i64 s.1)], [([0, 3], ⟨false, [.int .i64], s.2⟩)]⟩) s)) (fun p : (List AV) => k (.exit 0) ⟨[(3, AV.own [0, 3])], [([0, 3], ⟨false, [.int .i64], p⟩)]⟩) := (s34_0 ce t0 s.1 s.2 next k).trans (by unfold R34_0; unfold F34_0; simp only [el_cond, el_ro, el_sum, el_fail, el_next, el_stop] <;> rfl)
theorem ok34_0 : LoopOK c34 [] 34 0 (sub [1, 1, 0, 1, 0, 0] (body Try.f34)) := by
  intro m hm ce st k r h
  obtain rfl : l34_0 = m := Option.some.inj hm
  unfold l34_0 at h
  split at h
  · rename_i g0 t0 g1 t4 g2 g3 h0
    obtain ⟨hg, h⟩ := bif_some h
    simp only [Bool.and_eq_true] at hg
    obtain ⟨⟨⟨q0, q1⟩, q2⟩, q3⟩ := hg
    obtain rfl := ctsEq_eq _ _ q0
    obtain rfl := (nmEq_iff _ _).1 q1
    obtain rfl := (nmEq_iff _ _).1 q2
    obtain rfl := ctsEq_eq _ _ q3
    refine ⟨(((t0.length : Int) - t4).toNat + 1), ?_⟩
    rw [← h]
    exact loop_run (fun s : Int × (List AV) => ⟨[(0, AV.sl [.int .i64] t0), (3, AV.own [0, 3]), (4, AV.int .i64 s.1)], [([0, 3], ⟨false, [.int .i64], s.2⟩)]⟩) (fun p : (List AV) => k (.exit 0) ⟨[(3, AV.own [0, 3])], [([0, 3], ⟨false, [.int .i64], p⟩)]⟩) (st34_0 t0 ce k) _ (t4, h0)
  · cases h
def q34 (a0 : List AV) : Bool := ((decide (0 ≤ (a0.length : Int)) && decide ((a0.length : Int) ≤ (a0.length : Int)) && decide ((a0.length : Int) * 8 ≤ 140737488355328) && decide ((a0.length : Int) ≤ 140737488355328)) && (ro (runW (R34_0 a0) (((a0.length : Int) - 0).toNat + 1) (0, List.replicate (Int.toNat (a0.length : Int)) (AV.int .i64 0))) false (fun p1 => true)))
def v34_0 (a0 : List AV) : List AV := (ro (runW (R34_0 a0) (((a0.length : Int) - 0).toNat + 1) (0, List.replicate (Int.toNat (a0.length : Int)) (AV.int .i64 0))) [] (fun p1 => p1))
theorem e34 (a0 : List AV) : funA c34 0 34 [AV.sl [.int .i64] a0] = (bif (decide (0 ≤ (a0.length : Int)) && decide ((a0.length : Int) ≤ (a0.length : Int)) && decide ((a0.length : Int) * 8 ≤ 140737488355328) && decide ((a0.length : Int) ≤ 140737488355328)) then (ro (runW (R34_0 a0) (((a0.length : Int) - 0).toNat + 1) (0, List.replicate (Int.toNat (a0.length : Int)) (AV.int .i64 0))) none (fun p1 => some (AV.fl [.int .i64] p1)))
  else none) := by kernel_rfl
theorem r34 (a0 : List AV) (h : q34 a0 = true) : funA c34 0 34 [AV.sl [.int .i64] a0] = some (AV.fl [.int .i64] (v34_0 a0)) := (e34 a0).trans ((brL (brO (fun o : Option (((List AV))) => some (AV.fl [.int .i64] (ro o [] (fun p1 => p1)))) (fun p1 => (fun _ => rfl)))) h)
def m34 : TModel
  | [.sl g0 a0] => bif ctsEq g0 ([.int .i64]) then some (q34 a0, AV.fl [.int .i64] (v34_0 a0)) else none
  | _ => none
theorem k34 : Known Try.prog 34 := ⟨Try.f34, Try.func34, by kernel_rfl, by kernel_rfl⟩
theorem meets34 : Meets Try.prog 34 m34 := by
  refine meet (f := Try.f34) (l := [(0, sub [1, 1, 0, 1, 0, 0] (body Try.f34))]) (hs := [(34, 0, [0, 3, 4]), (34, 999, [2]), (34, 1000, [3]), (34, 1001, [0, 3, 4])]) (ts := []) (ws := []) (is := []) (ls := [(34, 0, l34_0)]) (lvl := 0) mixed k34 Try.func34 (by kernel_rfl) (loops_cons ok34_0 noLoop) allT_nil allM_nil noI fun w xs us r hl hv h => ?_
  unfold m34 at h
  split at h
  · rename_i g0 a0
    obtain ⟨hg, h⟩ := bif_pair h
    have q0 := hg
    obtain rfl := ctsEq_eq _ _ q0
    obtain ⟨h1, rfl⟩ := pair_inj h
    exact r34 a0 h1
  · cases h

/-! ### 66 loop.example/g01984/spec.l1In -/
noncomputable def c66 : Cfg := cfg Try.prog [(66, 999, [6])] [] [] [] []
def q66 (a0 : Int) (a1 : Int) (a2 : Int) : Bool := true
def v66_0 (a0 : Int) (a1 : Int) (a2 : Int) : Bool := (bif decide (a0 ≥ a1) then decide (a0 ≤ a2) else false)
theorem e66 (a0 : Int) (a1 : Int) (a2 : Int) : funA c66 0 66 [AV.int .i64 a0, AV.int .i64 a1, AV.int .i64 a2] = (bif decide (a0 ≥ a1) then some (AV.bool (decide (a0 ≤ a2)))
  else some (AV.bool false)) := by kernel_rfl
theorem r66 (a0 : Int) (a1 : Int) (a2 : Int) : funA c66 0 66 [AV.int .i64 a0, AV.int .i64 a1, AV.int .i64 a2] = some (AV.bool (v66_0 a0 a1 a2)) := (e66 a0 a1 a2).trans (of_tt (brT (fun b => some (AV.bool (bif b then decide (a0 ≤ a2) else false))) (fun _ => rfl) (fun _ => rfl)))
def m66 : TModel
  | [.int .i64 a0, .int .i64 a1, .int .i64 a2] => some (true, AV.bool (v66_0 a0 a1 a2))
  | _ => none
theorem k66 : Known Try.prog 66 := ⟨Try.f66, Try.func66, by kernel_rfl, by kernel_rfl⟩
theorem meets66 : Meets Try.prog 66 m66 := by
  refine meet (f := Try.f66) (l := []) (hs := [(66, 999, [6])]) (ts := []) (ws := []) (is := []) (ls := []) (lvl := 0) mixed k66 Try.func66 (by kernel_rfl) noLoop allT_nil allM_nil noI fun w xs us r hl hv h => ?_
  unfold m66 at h
  split at h
  · rename_i a0 a1 a2
    obtain ⟨h1, rfl⟩ := pair_inj h
    exact r66 a0 a1 a2
  · cases h

/-! ### 90 loop.example/g01984/spec.AreValues -/
def F90_0 (t0 : List AV) (t3 : Int) : Out (Int) (Unit ⊕ Unit) := (bif decide (t3 < (t0.length : Int)) then (bif (decide (0 ≤ t3) && decide (t3 < (t0.length : Int))) then (bif !(v66_0 (fI (t0.getD t3.toNat AV.undef) 0) (-999) 999) then .stop (.inr ())
    else .next (IntKind.i64.wrap (t3 + 1)))
   else .fail)
  else .stop (.inl ()))
def R90_0 (t0 : List AV) : (Int) → Out (Int) (Unit ⊕ Unit) := fun s : Int => F90_0 t0 s
def l90_0 : LModel := fun _ _ st k => match st with
  | ⟨[(0, .sl g0 t0), (3, .int .i64 t3)], []⟩ => bif ctsEq g0 ([.int .i64]) then ro (runW (R90_0 t0) (((t0.length : Int) - t3).toNat + 1) t3) none (sumE (fun _ : Unit => k (.exit 0) ⟨[(0, AV.sl [.int .i64] t0)], []⟩) (fun _ : Unit => k .ret ⟨[(2, AV.bool false)], []⟩)) else none
  | _ => none
noncomputable def c90 : Cfg := cfg Try.prog [(90, 0, [0, 3]), (90, 999, [2]), (90, 1000, [0]), (90, 1001, [0, 3])] [(66, m66)] [] [] [(90, 0, l90_0)]
theorem s90_0 (ce : CallE) (t0 : List AV) (t3 : Int) (next : St → Option AV) (k : Kont) : stepA (codeA c90 ce [] 90 0 (sub [1, 0, 1, 0, 0] (body Try.f90))) (normA [] [0, 3]) next ⟨[(0, AV.sl [.int .i64] t0), (3, AV.int .i64 t3)], []⟩ k = (bif decide (t3 < (t0.length : Int)) then (bif (decide (0 ≤ t3) && decide (t3 < (t0.length : Int))) then (bif !(v66_0 (fI (t0.getD t3.toNat AV.undef) 0) (-999) 999) then k .ret ⟨[(2, AV.bool false)], []⟩
    else next ⟨[(0, AV.sl [.int .i64] t0), (3, AV.int .i64 (IntKind.i64.wrap (t3 + 1)))], []⟩)
   else none)
  else k (.exit 0) ⟨[(0, AV.sl [.int .i64] t0)], []⟩) := by kernel_rfl
theorem st90_0 (t0 : List AV) (ce : CallE) (k : Kont) (s : Int) (next : St → Option AV) : stepA (codeA c90 ce [] 90 0 (sub [1, 0, 1, 0, 0] (body Try.f90))) (normA [] [0, 3]) next ((fun s : Int => ⟨[(0, AV.sl [.int .i64] t0), (3, AV.int .i64 s)], []⟩) s) k = (R90_0 t0 s).el none (fun s => next ((fun s : Int => ⟨[(0, AV.sl [.int .i64] t0), (3, AV.int .i64 s)], []⟩) s)) (sumE (fun _ : Unit => k (.exit 0) ⟨[(0, AV.sl [.int .i64] t0)], []⟩) (fun _ : Unit => k .ret ⟨[(2, AV.bool false)], []⟩)) := (s90_0 ce t0 s next k).trans (by unfold R90_0; unfold F90_0; simp only [el_cond, el_ro, el_sum, el_fail, el_next, el_stop] <;> rfl)
theorem ok90_0 : LoopOK c90 [] 90 0 (sub [1, 0, 1, 0, 0] (body Try.f90)) := by
  intro m hm ce st k r h
  obtain rfl : l90_0 = m := Option.some.inj hm
  unfold l90_0 at h
  split at h
  · rename_i g0 t0 t3
    obtain ⟨hg, h⟩ := bif_some h
    have q0 := hg
    obtain rfl := ctsEq_eq _ _ q0
    refine ⟨(((t0.length : Int) - t3).toNat + 1), ?_⟩
    rw [← h]
    exact loop_run (fun s : Int => ⟨[(0, AV.sl [.int .i64] t0), (3, AV.int .i64 s)], []⟩) (sumE (fun _ : Unit => k (.exit 0) ⟨[(0, AV.sl [.int .i64] t0)], []⟩) (fun _ : Unit => k .ret ⟨[(2, AV.bool false)], []⟩)) (st90_0 t0 ce k) _ t3
  · cases h
def q90 (a0 : List AV) : Bool := (ro (runW (R90_0 a0) (((a0.length : Int) - 0).toNat + 1) 0) false (sumE (fun _ => true) (fun _ => true)))
def v90_0 (a0 : List AV) : Bool := (ro (runW (R90_0 a0) (((a0.length : Int) - 0).toNat + 1) 0) false (sumE (fun _ => decide ((a0.length : Int) ≤ 64)) (fun _ => false)))
theorem e90 (a0 : List AV) : funA c90 0 90 [AV.sl [.int .i64] a0] = (ro (runW (R90_0 a0) (((a0.length : Int) - 0).toNat + 1) 0) none (sumE (fun _ => some (AV.bool (decide ((a0.length : Int) ≤ 64)))) (fun _ => some (AV.bool false)))) := by kernel_rfl
theorem r90 (a0 : List AV) (h : q90 a0 = true) : funA c90 0 90 [AV.sl [.int .i64] a0] = some (AV.bool (v90_0 a0)) := (e90 a0).trans ((brO (fun o : Option (Unit ⊕ Unit) => some (AV.bool (ro o false (sumE (fun _ => decide ((a0.length : Int) ≤ 64)) (fun _ => false))))) (brS (fun o : Unit ⊕ Unit => some (AV.bool ((sumE (fun _ => decide ((a0.length : Int) ≤ 64)) (fun _ => false)) o))) (fun _ => (fun _ => rfl)) (fun _ => (fun _ => rfl)))) h)
def m90 : TModel
  | [.sl g0 a0] => bif ctsEq g0 ([.int .i64]) then some (q90 a0, AV.bool (v90_0 a0)) else none
  | _ => none
theorem k90 : Known Try.prog 90 := ⟨Try.f90, Try.func90, by kernel_rfl, by kernel_rfl⟩
theorem meets90 : Meets Try.prog 90 m90 := by
  refine meet (f := Try.f90) (l := [(0, sub [1, 0, 1, 0, 0] (body Try.f90))]) (hs := [(90, 0, [0, 3]), (90, 999, [2]), (90, 1000, [0]), (90, 1001, [0, 3])]) (ts := [(66, m66)]) (ws := []) (is := []) (ls := [(90, 0, l90_0)]) (lvl := 0) mixed k90 Try.func90 (by kernel_rfl) (loops_cons ok90_0 noLoop) (allT_cons meets66 allT_nil) allM_nil noI fun w xs us r hl hv h => ?_
  unfold m90 at h
  split at h
  · rename_i g0 a0
    obtain ⟨hg, h⟩ := bif_pair h
    have q0 := hg
    obtain rfl := ctsEq_eq _ _ q0
    obtain ⟨h1, rfl⟩ := pair_inj h
    exact r90 a0 h1
  · cases h

/-! ### 89 loop.example/g01984/spec.NewCracker -/
def F89_0_s0 (t0 : List AV) (h0 : List AV) (t4 : Int) : Out (Int ⊕ (Int × (List AV))) (Unit ⊕ ((List AV))) := (bif decide (t4 < (t0.length : Int)) then (bif (decide ((([AV.int .i64 t4]).length) * 8 ≤ 140737488355328) && decide ((([AV.int .i64 t4]).length) ≤ 140737488355328)) then .next (.inr (IntKind.i64.wrap (t4 + 1), [AV.int .i64 t4]))
   else .fail)
  else .stop (.inl ()))
def F89_0_s1 (t0 : List AV) (h0 : List AV) (t4 : Int) (h1 : List AV) : Out (Int ⊕ (Int × (List AV))) (Unit ⊕ ((List AV))) := (bif decide (t4 < (t0.length : Int)) then (bif (decide ((h1.length + ([AV.int .i64 t4]).length) * 8 ≤ 140737488355328) && decide ((h1.length + ([AV.int .i64 t4]).length) ≤ 140737488355328)) then .next (.inr (IntKind.i64.wrap (t4 + 1), h1 ++ ([AV.int .i64 t4])))
   else .fail)
  else .stop (.inr h1))
def R89_0 (t0 : List AV) (h0 : List AV) : (Int ⊕ (Int × (List AV))) → Out (Int ⊕ (Int × (List AV))) (Unit ⊕ ((List AV))) := sumE (fun s : Int => F89_0_s0 t0 h0 s) (fun s : Int × (List AV) => F89_0_s1 t0 h0 s.1 s.2)
def l89_0 : LModel := fun _ _ st k => match st with
  | ⟨[(0, .sl g0 t0), (2, .ptr g1 g2 g3), (3, .ptr g4 g5 g6), (4, .int .i64 t4)], [(g7, ⟨false, g8, h0⟩), (g9, ⟨true, [], [.agg [.snil, .snil, .snil]]⟩), (g10, ⟨true, [], [.agg [.own g11, .snil, .snil]]⟩)]⟩ => bif ctsEq g0 ([.int .i64]) && nmEq g1 ([0, 2]) && Nat.beq g2 0 && Nat.beq g3 0 && nmEq g4 ([0, 3]) && Nat.beq g5 0 && Nat.beq g6 0 && nmEq g7 ([0, 0, 3]) && ctsEq g8 ([.int .i64]) && nmEq g9 ([0, 2]) && nmEq g10 ([0, 3]) && nmEq g11 ([0, 0, 3]) then ro (runW (R89_0 t0 h0) (((t0.length : Int) - t4).toNat + 1) (.inl t4)) none (sumE (fun _ : Unit => k (.exit 0) ⟨[(2, AV.ptr [0, 2] 0 0), (3, AV.ptr [0, 3] 0 0)], [([0, 0, 3], ⟨false, [.int .i64], h0⟩), ([0, 2], ⟨true, [], [AV.agg [AV.snil, AV.snil, AV.snil]]⟩), ([0, 3], ⟨true, [], [AV.agg [AV.own [0, 0, 3], AV.snil, AV.snil]]⟩)]⟩) (fun p : (List AV) => k (.exit 0) ⟨[(2, AV.ptr [0, 2] 0 0), (3, AV.ptr [0, 3] 0 0)], [([0, 0, 3], ⟨false, [.int .i64], h0⟩), ([0, 1, 3], ⟨false, [.int .i64], p⟩), ([0, 2], ⟨true, [], [AV.agg [AV.snil, AV.snil, AV.snil]]⟩), ([0, 3], ⟨true, [], [AV.agg [AV.own [0, 0, 3], AV.own [0, 1, 3], AV.snil]]⟩)]⟩)) else none
  | ⟨[(0, .sl g0 t0), (2, .ptr g1 g2 g3), (3, .ptr g4 g5 g6), (4, .int .i64 t4)], [(g7, ⟨false, g8, h0⟩), (g9, ⟨false, g10, h1⟩), (g11, ⟨true, [], [.agg [.snil, .snil, .snil]]⟩), (g12, ⟨true, [], [.agg [.own g13, .own g14, .snil]]⟩)]⟩ => bif ctsEq g0 ([.int .i64]) && nmEq g1 ([0, 2]) && Nat.beq g2 0 && Nat.beq g3 0 && nmEq g4 ([0, 3]) && Nat.beq g5 0 && Nat.beq g6 0 && nmEq g7 ([0, 0, 3]) && ctsEq g8 ([.int .i64]) && nmEq g9 ([0, 1, 3]) && ctsEq g10 ([.int .i64]) && nmEq g11 ([0, 2]) && nmEq g12 ([0, 3]) && nmEq g13 ([0, 0, 3]) && nmEq g14 ([0, 1, 3]) then ro (runW (R89_0 t0 h0) (((t0.length : Int) - t4).toNat + 1) (.inr (t4, h1))) none (sumE (fun _ : Unit => k (.exit 0) ⟨[(2, AV.ptr [0, 2] 0 0), (3, AV.ptr [0, 3] 0 0)], [([0, 0, 3], ⟨false, [.int .i64], h0⟩), ([0, 2], ⟨true, [], [AV.agg [AV.snil, AV.snil, AV.snil]]⟩), ([0, 3], ⟨true, [], [AV.agg [AV.own [0, 0, 3], AV.snil, AV.snil]]⟩)]⟩) (fun p : (List AV) => k (.exit 0) ⟨[(2, AV.ptr [0, 2] 0 0), (3, AV.ptr [0, 3] 0 0)], [([0, 0, 3], ⟨false, [.int .i64], h0⟩), ([0, 1, 3], ⟨false, [.int .i64], p⟩), ([0, 2], ⟨true, [], [AV.agg [AV.snil, AV.snil, AV.snil]]⟩), ([0, 3], ⟨true, [], [AV.agg [AV.own [0, 0, 3], AV.own [0, 1, 3], AV.snil]]⟩)]⟩)) else none
  | _ => none
noncomputable def c89 : Cfg := cfg Try.prog [(89, 0, [0, 2, 3, 4]), (89, 999, [2]), (89, 1000, [2, 3]), (89, 1001, [0, 2, 3, 4])] [(90, m90)] [] [] [(89, 0, l89_0)]
theorem s89_0_s0 (ce : CallE) (t0 : List AV) (t4 : Int) (h0 : List AV) (next : St → Option AV) (k : Kont) : stepA (codeA c89 ce [] 89 0 (sub [1, 1, 1, 0, 1, 0, 0] (body Try.f89))) (normA [] [0, 2, 3, 4]) next ⟨[(0, AV.sl [.int .i64] t0), (2, AV.ptr [0, 2] 0 0), (3, AV.ptr [0, 3] 0 0), (4, AV.int .i64 t4)], [([0, 0, 3], ⟨false, [.int .i64], h0⟩), ([0, 2], ⟨true, [], [AV.agg [AV.snil, AV.snil, AV.snil]]⟩), ([0, 3], ⟨true, [], [AV.agg [AV.own [0, 0, 3], AV.snil, AV.snil]]⟩)]⟩ k = (bif decide (t4 < (t0.length : Int)) then (bif (decide ((([AV.int .i64 t4]).length) * 8 ≤ 140737488355328) && decide ((([AV.int .i64 t4]).length) ≤ 140737488355328)) then next ⟨[(0, AV.sl [.int .i64] t0), (2, AV.ptr [0, 2] 0 0), (3, AV.ptr [0, 3] 0 0), (4, AV.int .i64 (IntKind.i64.wrap (t4 + 1)))], [([0, 0, 3], ⟨false, [.int .i64], h0⟩), ([0, 1, 3], ⟨false, [.int .i64], [AV.int .i64 t4]⟩), ([0, 2], ⟨true, [], [AV.agg [AV.snil, AV.snil, AV.snil]]⟩), ([0, 3], ⟨true, [], [AV.agg [AV.own [0, 0, 3], AV.own [0, 1, 3], AV.snil]]⟩)]⟩
   else none)
  else k (.exit 0) ⟨[(2, AV.ptr [0, 2] 0 0), (3, AV.ptr [0, 3] 0 0)], [([0, 0, 3], ⟨false, [.int .i64], h0⟩), ([0, 2], ⟨true, [], [AV.agg [AV.snil, AV.snil, AV.snil]]⟩), ([0, 3], ⟨true, [], [AV.agg [AV.own [0, 0, 3], AV.snil, AV.snil]]⟩)]⟩) := by kernel_rfl
theorem s89_0_s1 (ce : CallE) (t0 : List AV) (t4 : Int) (h0 : List AV) (h1 : List AV) (next : St → Option AV) (k : Kont) : stepA (codeA c89 ce [] 89 0 (sub [1, 1, 1, 0, 1, 0, 0] (body Try.f89))) (normA [] [0, 2, 3, 4]) next ⟨[(0, AV.sl [.int .i64] t0), (2, AV.ptr [0, 2] 0 0), (3, AV.ptr [0, 3] 0 0), (4, AV.int .i64 t4)], [([0, 0, 3], ⟨false, [.int .i64], h0⟩), ([0, 1, 3], ⟨false, [.int .i64], h1⟩), ([0, 2], ⟨true, [], [AV.agg [AV.snil, AV.snil, AV.snil]]⟩), ([0, 3], ⟨true, [], [AV.agg [AV.own [0, 0, 3], AV.own [0, 1, 3], AV.snil]]⟩)]⟩ k = (bif decide (t4 < (t0.length : Int)) then (bif (decide ((h1.length + ([AV.int .i64 t4]).length) * 8 ≤ 140737488355328) && decide ((h1.length + ([AV.int .i64 t4]).length) ≤ 140737488355328)) then next ⟨[(0, AV.sl [.int .i64] t0), (2, AV.ptr [0, 2] 0 0), (3, AV.ptr [0, 3] 0 0), (4, AV.int .i64 (IntKind.i64.wrap (t4 + 1)))], [([0, 0, 3], ⟨false, [.int .i64], h0⟩), ([0, 1, 3], ⟨false, [.int .i64], h1 ++ ([AV.int .i64 t4])⟩), ([0, 2], ⟨true, [], [AV.agg [AV.snil, AV.snil, AV.snil]]⟩), ([0, 3], ⟨true, [], [AV.agg [AV.own [0, 0, 3], AV.own [0, 1, 3], AV.snil]]⟩)]⟩
   else none)
  else k (.exit 0) ⟨[(2, AV.ptr [0, 2] 0 0), (3, AV.ptr [0, 3] 0 0)], [([0, 0, 3], ⟨false, [.int .i64], h0⟩), ([0, 1, 3], ⟨false, [.int .i64], h1⟩), ([0, 2], ⟨true, [], [AV.agg [AV.snil, AV.snil, AV.snil]]⟩), ([0, 3], ⟨true, [], [AV.agg [AV.own [0, 0, 3], AV.own [0, 1, 3], AV.snil]]⟩)]⟩) := by kernel_rfl
theorem st89_0 (t0 : List AV) (h0 : List AV) (ce : CallE) (k : Kont) (s : Int ⊕ (Int × (List AV))) (next : St → Option AV) : stepA (codeA c89 ce [] 89 0 (sub [1, 1, 1, 0, 1, 0, 0] (body Try.f89))) (normA [] [0, 2, 3, 4]) next ((sumE (fun s : Int => ⟨[(0, AV.sl [.int .i64] t0), (2, AV.ptr [0, 2] 0 0), (3, AV.ptr [0, 3] 0 0), (4, AV.int .i64 s)], [([0, 0, 3], ⟨false, [.int .i64], h0⟩), ([0, 2], ⟨true, [], [AV.agg [AV.snil, AV.snil, AV.snil]]⟩), ([0, 3], ⟨true, [], [AV.agg [AV.own [0, 0, 3], AV.snil, AV.snil]]⟩)]⟩) (fun s : Int × (List AV) => ⟨[(0, AV.sl [.int .i64] t0), (2, AV.ptr [0, 2] 0 0), (3, AV.ptr [0, 3] 0 0), (4, AV.int .i64 s.1)], [([0, 0, 3], ⟨false, [.int .i64], h0⟩), ([0, 1, 3], ⟨false, [.int .i64], s.2⟩), ([0, 2], ⟨true, [], [AV.agg [AV.snil, AV.snil, AV.snil]]⟩), ([0, 3], ⟨true, [], [AV.agg [AV.own [0, 0, 3], AV.own [0, 1, 3], AV.snil]]⟩)]⟩)) s) k = (R89_0 t0 h0 s).el none (fun s => next ((sumE (fun s : Int => ⟨[(0, AV.sl [.int .i64] t0), (2, AV.ptr [0, 2] 0 0), (3, AV.ptr [0, 3] 0 0), (4, AV.int .i64 s)], [([0, 0, 3], ⟨false, [.int .i64], h0⟩), ([0, 2], ⟨true, [], [AV.agg [AV.snil, AV.snil, AV.snil]]⟩), ([0, 3], ⟨true, [], [AV.agg [AV.own [0, 0, 3], AV.snil, AV.snil]]⟩)]⟩) (fun s : Int × (List AV) => ⟨[(0, AV.sl [.int .i64] t0), (2, AV.ptr [0, 2] 0 0), (3, AV.ptr [0, 3] 0 0), (4, AV.int .i64 s.1)], [([0, 0, 3], ⟨false, [.int .i64], h0⟩), ([0, 1, 3], ⟨false, [.int .i64], s.2⟩), ([0, 2], ⟨true, [], [AV.agg [AV.snil, AV.snil, AV.snil]]⟩), ([0, 3], ⟨true, [], [AV.agg [AV.own [0, 0, 3], AV.own [0, 1, 3], AV.snil]]⟩)]⟩)) s)) (sumE (fun _ : Unit => k (.exit 0) ⟨[(2, AV.ptr [0, 2] 0 0), (3, AV.ptr [0, 3] 0 0)], [([0, 0, 3], ⟨false, [.int .i64], h0⟩), ([0, 2], ⟨true, [], [AV.agg [AV.snil, AV.snil, AV.snil]]⟩), ([0, 3], ⟨true, [], [AV.agg [AV.own [0, 0, 3], AV.snil, AV.snil]]⟩)]⟩) (fun p : (List AV) => k (.exit 0) ⟨[(2, AV.ptr [0, 2] 0 0), (3, AV.ptr [0, 3] 0 0)], [([0, 0, 3], ⟨false, [.int .i64], h0⟩), ([0, 1, 3], ⟨false, [.int .i64], p⟩), ([0, 2], ⟨true, [], [AV.agg [AV.snil, AV.snil, AV.snil]]⟩), ([0, 3], ⟨true, [], [AV.agg [AV.own [0, 0, 3], AV.own [0, 1, 3], AV.snil]]⟩)]⟩)) := (match s with | .inl s => (s89_0_s0 ce t0 s h0 next k).trans (by unfold R89_0; unfold F89_0_s0; simp only [el_cond, el_ro, el_sum, el_fail, el_next, el_stop] <;> rfl) | .inr s => (s89_0_s1 ce t0 s.1 h0 s.2 next k).trans (by unfold R89_0; unfold F89_0_s1; simp only [el_cond, el_ro, el_sum, el_fail, el_next, el_stop] <;> rfl))
theorem ok89_0 : LoopOK c89 [] 89 0 (sub [1, 1, 1, 0, 1, 0, 0] (body Try.f89)) := by
  intro m hm ce st k r h
  obtain rfl : l89_0 = m := Option.some.inj hm
  unfold l89_0 at h
  split at h
  · rename_i g0 t0 g1 g2 g3 g4 g5 g6 t4 g7 g8 h0 g9 g10 g11
    obtain ⟨hg, h⟩ := bif_some h
    simp only [Bool.and_eq_true] at hg
    obtain ⟨⟨⟨⟨⟨⟨⟨⟨⟨⟨⟨q0, q1⟩, q2⟩, q3⟩, q4⟩, q5⟩, q6⟩, q7⟩, q8⟩, q9⟩, q10⟩, q11⟩ := hg
    obtain rfl := ctsEq_eq _ _ q0
    obtain rfl := (nmEq_iff _ _).1 q1
    obtain rfl := Nat.eq_of_beq_eq_true q2
    obtain rfl := Nat.eq_of_beq_eq_true q3
    obtain rfl := (nmEq_iff _ _).1 q4
    obtain rfl := Nat.eq_of_beq_eq_true q5
    obtain rfl := Nat.eq_of_beq_eq_true q6
    obtain rfl := (nmEq_iff _ _).1 q7
    obtain rfl := ctsEq_eq _ _ q8
    obtain rfl := (nmEq_iff _ _).1 q9
    obtain rfl := (nmEq_iff _ _).1 q10
    obtain rfl := (nmEq_iff _ _).1 q11
    refine ⟨(((t0.length : Int) - t4).toNat + 1), ?_⟩
    rw [← h]
    exact loop_run (sumE (fun s : Int => ⟨[(0, AV.sl [.int .i64] t0), (2, AV.ptr [0, 2] 0 0), (3, AV.ptr [0, 3] 0 0), (4, AV.int .i64 s)], [([0, 0, 3], ⟨false, [.int .i64], h0⟩), ([0, 2], ⟨true, [], [AV.agg [AV.snil, AV.snil, AV.snil]]⟩), ([0, 3], ⟨true, [], [AV.agg [AV.own [0, 0, 3], AV.snil, AV.snil]]⟩)]⟩) (fun s : Int × (List AV) => ⟨[(0, AV.sl [.int .i64] t0), (2, AV.ptr [0, 2] 0 0), (3, AV.ptr [0, 3] 0 0), (4, AV.int .i64 s.1)], [([0, 0, 3], ⟨false, [.int .i64], h0⟩), ([0, 1, 3], ⟨false, [.int .i64], s.2⟩), ([0, 2], ⟨true, [], [AV.agg [AV.snil, AV.snil, AV.snil]]⟩), ([0, 3], ⟨true, [], [AV.agg [AV.own [0, 0, 3], AV.own [0, 1, 3], AV.snil]]⟩)]⟩)) (sumE (fun _ : Unit => k (.exit 0) ⟨[(2, AV.ptr [0, 2] 0 0), (3, AV.ptr [0, 3] 0 0)], [([0, 0, 3], ⟨false, [.int .i64], h0⟩), ([0, 2], ⟨true, [], [AV.agg [AV.snil, AV.snil, AV.snil]]⟩), ([0, 3], ⟨true, [], [AV.agg [AV.own [0, 0, 3], AV.snil, AV.snil]]⟩)]⟩) (fun p : (List AV) => k (.exit 0) ⟨[(2, AV.ptr [0, 2] 0 0), (3, AV.ptr [0, 3] 0 0)], [([0, 0, 3], ⟨false, [.int .i64], h0⟩), ([0, 1, 3], ⟨false, [.int .i64], p⟩), ([0, 2], ⟨true, [], [AV.agg [AV.snil, AV.snil, AV.snil]]⟩), ([0, 3], ⟨true, [], [AV.agg [AV.own [0, 0, 3], AV.own [0, 1, 3], AV.snil]]⟩)]⟩)) (st89_0 t0 h0 ce k) _ (.inl t4)
  · rename_i g0 t0 g1 g2 g3 g4 g5 g6 t4 g7 g8 h0 g9 g10 h1 g11 g12 g13 g14
    obtain ⟨hg, h⟩ := bif_some h
    simp only [Bool.and_eq_true] at hg
    obtain ⟨⟨⟨⟨⟨⟨⟨⟨⟨⟨⟨⟨⟨⟨q0, q1⟩, q2⟩, q3⟩, q4⟩, q5⟩, q6⟩, q7⟩, q8⟩, q9⟩, q10⟩, q11⟩, q12⟩, q13⟩, q14⟩ := hg
    obtain rfl := ctsEq_eq _ _ q0
    obtain rfl := (nmEq_iff _ _).1 q1
    obtain rfl := Nat.eq_of_beq_eq_true q2
    obtain rfl := Nat.eq_of_beq_eq_true q3
    obtain rfl := (nmEq_iff _ _).1 q4
    obtain rfl := Nat.eq_of_beq_eq_true q5
    obtain rfl := Nat.eq_of_beq_eq_true q6
    obtain rfl := (nmEq_iff _ _).1 q7
    obtain rfl := ctsEq_eq _ _ q8
    obtain rfl := (nmEq_iff _ _).1 q9
    obtain rfl := ctsEq_eq _ _ q10
    obtain rfl := (nmEq_iff _ _).1 q11
    obtain rfl := (nmEq_iff _ _).1 q12
    obtain rfl := (nmEq_iff _ _).1 q13
    obtain rfl := (nmEq_iff _ _).1 q14
    refine ⟨(((t0.length : Int) - t4).toNat + 1), ?_⟩
    rw [← h]
    exact loop_run (sumE (fun s : Int => ⟨[(0, AV.sl [.int .i64] t0), (2, AV.ptr [0, 2] 0 0), (3, AV.ptr [0, 3] 0 0), (4, AV.int .i64 s)], [([0, 0, 3], ⟨false, [.int .i64], h0⟩), ([0, 2], ⟨true, [], [AV.agg [AV.snil, AV.snil, AV.snil]]⟩), ([0, 3], ⟨true, [], [AV.agg [AV.own [0, 0, 3], AV.snil, AV.snil]]⟩)]⟩) (fun s : Int × (List AV) => ⟨[(0, AV.sl [.int .i64] t0), (2, AV.ptr [0, 2] 0 0), (3, AV.ptr [0, 3] 0 0), (4, AV.int .i64 s.1)], [([0, 0, 3], ⟨false, [.int .i64], h0⟩), ([0, 1, 3], ⟨false, [.int .i64], s.2⟩), ([0, 2], ⟨true, [], [AV.agg [AV.snil, AV.snil, AV.snil]]⟩), ([0, 3], ⟨true, [], [AV.agg [AV.own [0, 0, 3], AV.own [0, 1, 3], AV.snil]]⟩)]⟩)) (sumE (fun _ : Unit => k (.exit 0) ⟨[(2, AV.ptr [0, 2] 0 0), (3, AV.ptr [0, 3] 0 0)], [([0, 0, 3], ⟨false, [.int .i64], h0⟩), ([0, 2], ⟨true, [], [AV.agg [AV.snil, AV.snil, AV.snil]]⟩), ([0, 3], ⟨true, [], [AV.agg [AV.own [0, 0, 3], AV.snil, AV.snil]]⟩)]⟩) (fun p : (List AV) => k (.exit 0) ⟨[(2, AV.ptr [0, 2] 0 0), (3, AV.ptr [0, 3] 0 0)], [([0, 0, 3], ⟨false, [.int .i64], h0⟩), ([0, 1, 3], ⟨false, [.int .i64], p⟩), ([0, 2], ⟨true, [], [AV.agg [AV.snil, AV.snil, AV.snil]]⟩), ([0, 3], ⟨true, [], [AV.agg [AV.own [0, 0, 3], AV.own [0, 1, 3], AV.snil]]⟩)]⟩)) (st89_0 t0 h0 ce k) _ (.inr (t4, h1))
  · cases h
def q89 (a0 : List AV) : Bool := (q90 a0 && (bif !(v90_0 a0) then true else ((decide ((([] : List AV).length + a0.length) * 8 ≤ 140737488355328) && decide ((([] : List AV).length + a0.length) ≤ 140737488355328)) && (ro (runW (R89_0 a0 (([] : List AV) ++ a0)) (((a0.length : Int) - 0).toNat + 1) (.inl 0)) false (sumE (fun _ => true) (fun p5 => true))))))
def v89_0 (a0 : List AV) : List AV := (bif !(v90_0 a0) then ([] : List AV) else ([] : List AV) ++ a0)
def v89_1 (a0 : List AV) : List AV := (bif !(v90_0 a0) then ([] : List AV) else (ro (runW (R89_0 a0 (([] : List AV) ++ a0)) (((a0.length : Int) - 0).toNat + 1) (.inl 0)) [] (sumE (fun _ => ([] : List AV)) (fun p5 => p5))))
def v89_2 (a0 : List AV) : List AV := ([] : List AV)
theorem e89 (a0 : List AV) : funA c89 0 89 [AV.sl [.int .i64] a0] = (bif q90 a0 then (bif !(v90_0 a0) then some (AV.agg [AV.fl [.int .i64] ([] : List AV), AV.fl [.int .i64] ([] : List AV), AV.fl [.int .i64, .int .i64] ([] : List AV)])
   else (bif (decide ((([] : List AV).length + a0.length) * 8 ≤ 140737488355328) && decide ((([] : List AV).length + a0.length) ≤ 140737488355328)) then (ro (runW (R89_0 a0 (([] : List AV) ++ a0)) (((a0.length : Int) - 0).toNat + 1) (.inl 0)) none (sumE (fun _ => some (AV.agg [AV.fl [.int .i64] (([] : List AV) ++ a0), AV.fl [.int .i64] ([] : List AV), AV.fl [.int .i64, .int .i64] ([] : List AV)])) (fun p5 => some (AV.agg [AV.fl [.int .i64] (([] : List AV) ++ a0), AV.fl [.int .i64] p5, AV.fl [.int .i64, .int .i64] ([] : List AV)]))))
    else none))
  else none) := by kernel_rfl
theorem r89 (a0 : List AV) (h : q89 a0 = true) : funA c89 0 89 [AV.sl [.int .i64] a0] = some (AV.agg [AV.fl [.int .i64] (v89_0 a0), AV.fl [.int .i64] (v89_1 a0), AV.fl [.int .i64, .int .i64] (v89_2 a0)]) := (e89 a0).trans ((brL (br (fun b => some (AV.agg [AV.fl [.int .i64] (bif b then ([] : List AV) else ([] : List AV) ++ a0), AV.fl [.int .i64] (bif b then ([] : List AV) else (ro (runW (R89_0 a0 (([] : List AV) ++ a0)) (((a0.length : Int) - 0).toNat + 1) (.inl 0)) [] (sumE (fun _ => ([] : List AV)) (fun p5 => p5)))), AV.fl [.int .i64, .int .i64] ([] : List AV)])) (fun _ => rfl) (brL (brO (fun o : Option (Unit ⊕ ((List AV))) => some (AV.agg [AV.fl [.int .i64] (([] : List AV) ++ a0), AV.fl [.int .i64] (ro o [] (sumE (fun _ => ([] : List AV)) (fun p5 => p5))), AV.fl [.int .i64, .int .i64] ([] : List AV)])) (brS (fun o : Unit ⊕ ((List AV)) => some (AV.agg [AV.fl [.int .i64] (([] : List AV) ++ a0), AV.fl [.int .i64] ((sumE (fun _ => ([] : List AV)) (fun p5 => p5)) o), AV.fl [.int .i64, .int .i64] ([] : List AV)])) (fun _ => (fun _ => rfl)) (fun p5 => (fun _ => rfl))))))) h)
def m89 : TModel
  | [.sl g0 a0] => bif ctsEq g0 ([.int .i64]) then some (q89 a0, AV.agg [AV.fl [.int .i64] (v89_0 a0), AV.fl [.int .i64] (v89_1 a0), AV.fl [.int .i64, .int .i64] (v89_2 a0)]) else none
  | _ => none
theorem k89 : Known Try.prog 89 := ⟨Try.f89, Try.func89, by kernel_rfl, by kernel_rfl⟩
theorem meets89 : Meets Try.prog 89 m89 := by
  refine meet (f := Try.f89) (l := [(0, sub [1, 1, 1, 0, 1, 0, 0] (body Try.f89))]) (hs := [(89, 0, [0, 2, 3, 4]), (89, 999, [2]), (89, 1000, [2, 3]), (89, 1001, [0, 2, 3, 4])]) (ts := [(90, m90)]) (ws := []) (is := []) (ls := [(89, 0, l89_0)]) (lvl := 0) mixed k89 Try.func89 (by kernel_rfl) (loops_cons ok89_0 noLoop) (allT_cons meets90 allT_nil) allM_nil noI fun w xs us r hl hv h => ?_
  unfold m89 at h
  split at h
  · rename_i g0 a0
    obtain ⟨hg, h⟩ := bif_pair h
    have q0 := hg
    obtain rfl := ctsEq_eq _ _ q0
    obtain ⟨h1, rfl⟩ := pair_inj h
    exact r89 a0 h1
  · cases h

/-! ### 51 loop.example/g01984/spec.NewStore -/
def F51_0_s0 (t0 : List AV) (t4 : Int) (h0 : Int) (h1 : List AV) (h2 : Int) (h3 : List AV) (h4 : List AV) : Out ((Int × Int × (List AV) × Int × (List AV) × (List AV)) ⊕ (Int × (List AV) × Int × (List AV) × Int × (List AV) × (List AV))) ((Int × (List AV) × Int × (List AV) × (List AV)) ⊕ ((List AV) × Int × (List AV) × Int × (List AV) × (List AV))) := (bif decide (t4 < (t0.length : Int)) then (bif (decide (0 ≤ t4) && decide (t4 < (t0.length : Int))) then (bif (decide ((([AV.agg [AV.int .i64 (fI (t0.getD t4.toNat AV.undef) 0), AV.int .i64 t4, AV.int .i64 0, AV.int .i64 (-1)]]).length) * 32 ≤ 140737488355328) && decide ((([AV.agg [AV.int .i64 (fI (t0.getD t4.toNat AV.undef) 0), AV.int .i64 t4, AV.int .i64 0, AV.int .i64 (-1)]]).length) ≤ 140737488355328)) then .next (.inr (IntKind.i64.wrap (t4 + 1), [AV.agg [AV.int .i64 (fI (t0.getD t4.toNat AV.undef) 0), AV.int .i64 t4, AV.int .i64 0, AV.int .i64 (-1)]], h0, h1, h2, h3, h4))
    else .fail)
   else .fail)
  else .stop (.inl (h0, h1, h2, h3, h4)))
def F51_0_s1 (t0 : List AV) (t4 : Int) (h0 : List AV) (h1 : Int) (h2 : List AV) (h3 : Int) (h4 : List AV) (h5 : List AV) : Out ((Int × Int × (List AV) × Int × (List AV) × (List AV)) ⊕ (Int × (List AV) × Int × (List AV) × Int × (List AV) × (List AV))) ((Int × (List AV) × Int × (List AV) × (List AV)) ⊕ ((List AV) × Int × (List AV) × Int × (List AV) × (List AV))) := (bif decide (t4 < (t0.length : Int)) then (bif (decide (0 ≤ t4) && decide (t4 < (t0.length : Int))) then (bif (decide ((h0.length + ([AV.agg [AV.int .i64 (fI (t0.getD t4.toNat AV.undef) 0), AV.int .i64 t4, AV.int .i64 0, AV.int .i64 (-1)]]).length) * 32 ≤ 140737488355328) && decide ((h0.length + ([AV.agg [AV.int .i64 (fI (t0.getD t4.toNat AV.undef) 0), AV.int .i64 t4, AV.int .i64 0, AV.int .i64 (-1)]]).length) ≤ 140737488355328)) then .next (.inr (IntKind.i64.wrap (t4 + 1), h0 ++ ([AV.agg [AV.int .i64 (fI (t0.getD t4.toNat AV.undef) 0), AV.int .i64 t4, AV.int .i64 0, AV.int .i64 (-1)]]), h1, h2, h3, h4, h5))
    else .fail)
   else .fail)
  else .stop (.inr (h0, h1, h2, h3, h4, h5)))
def R51_0 (t0 : List AV) : ((Int × Int × (List AV) × Int × (List AV) × (List AV)) ⊕ (Int × (List AV) × Int × (List AV) × Int × (List AV) × (List AV))) → Out ((Int × Int × (List AV) × Int × (List AV) × (List AV)) ⊕ (Int × (List AV) × Int × (List AV) × Int × (List AV) × (List AV))) ((Int × (List AV) × Int × (List AV) × (List AV)) ⊕ ((List AV) × Int × (List AV) × Int × (List AV) × (List AV))) := sumE (fun s : Int × Int × (List AV) × Int × (List AV) × (List AV) => F51_0_s0 t0 s.1 s.2.1 s.2.2.1 s.2.2.2.1 s.2.2.2.2.1 s.2.2.2.2.2) (fun s : Int × (List AV) × Int × (List AV) × Int × (List AV) × (List AV) => F51_0_s1 t0 s.1 s.2.1 s.2.2.1 s.2.2.2.1 s.2.2.2.2.1 s.2.2.2.2.2.1 s.2.2.2.2.2.2)
def l51_0 : LModel := fun _ _ st k => match st with
  | ⟨[(0, .sl g0 t0), (2, .ptr g1 g2 g3), (3, .ptr g4 g5 g6), (4, .int .i64 t4)], [(g7, ⟨true, [], [.agg [.snil, .int .i64 h0, .snil, .snil, .snil]]⟩), (g8, ⟨false, g9, h1⟩), (g10, ⟨true, [], [.agg [.snil, .int .i64 h2, .own g11, .own g12, .own g13]]⟩), (g14, ⟨false, g15, h3⟩), (g16, ⟨false, g17, h4⟩)]⟩ => bif ctsEq g0 ([.int .i64]) && nmEq g1 ([0, 2]) && Nat.beq g2 0 && Nat.beq g3 0 && nmEq g4 ([0, 3]) && Nat.beq g5 0 && Nat.beq g6 0 && nmEq g7 ([0, 2]) && nmEq g8 ([0, 2, 3]) && ctsEq g9 ([.int .i64]) && nmEq g10 ([0, 3]) && nmEq g11 ([0, 2, 3]) && nmEq g12 ([0, 3, 3]) && nmEq g13 ([0, 4, 3]) && nmEq g14 ([0, 3, 3]) && ctsEq g15 ([.int .i64]) && nmEq g16 ([0, 4, 3]) && ctsEq g17 ([.int .i64, .int .i64]) then ro (runW (R51_0 t0) (((t0.length : Int) - t4).toNat + 1) (.inl (t4, h0, h1, h2, h3, h4))) none (sumE (fun p : Int × (List AV) × Int × (List AV) × (List AV) => k (.exit 0) ⟨[(2, AV.ptr [0, 2] 0 0), (3, AV.ptr [0, 3] 0 0)], [([0, 2], ⟨true, [], [AV.agg [AV.snil, AV.int .i64 p.1, AV.snil, AV.snil, AV.snil]]⟩), ([0, 2, 3], ⟨false, [.int .i64], p.2.1⟩), ([0, 3], ⟨true, [], [AV.agg [AV.snil, AV.int .i64 p.2.2.1, AV.own [0, 2, 3], AV.own [0, 3, 3], AV.own [0, 4, 3]]]⟩), ([0, 3, 3], ⟨false, [.int .i64], p.2.2.2.1⟩), ([0, 4, 3], ⟨false, [.int .i64, .int .i64], p.2.2.2.2⟩)]⟩) (fun p : (List AV) × Int × (List AV) × Int × (List AV) × (List AV) => k (.exit 0) ⟨[(2, AV.ptr [0, 2] 0 0), (3, AV.ptr [0, 3] 0 0)], [([0, 0, 3], ⟨false, [.int .i64, .int .i64, .int .i64, .int .i64], p.1⟩), ([0, 2], ⟨true, [], [AV.agg [AV.snil, AV.int .i64 p.2.1, AV.snil, AV.snil, AV.snil]]⟩), ([0, 2, 3], ⟨false, [.int .i64], p.2.2.1⟩), ([0, 3], ⟨true, [], [AV.agg [AV.own [0, 0, 3], AV.int .i64 p.2.2.2.1, AV.own [0, 2, 3], AV.own [0, 3, 3], AV.own [0, 4, 3]]]⟩), ([0, 3, 3], ⟨false, [.int .i64], p.2.2.2.2.1⟩), ([0, 4, 3], ⟨false, [.int .i64, .int .i64], p.2.2.2.2.2⟩)]⟩)) else none
  | ⟨[(0, .sl g0 t0), (2, .ptr g1 g2 g3), (3, .ptr g4 g5 g6), (4, .int .i64 t4)], [(g7, ⟨false, g8, h0⟩), (g9, ⟨true, [], [.agg [.snil, .int .i64 h1, .snil, .snil, .snil]]⟩), (g10, ⟨false, g11, h2⟩), (g12, ⟨true, [], [.agg [.own g13, .int .i64 h3, .own g14, .own g15, .own g16]]⟩), (g17, ⟨false, g18, h4⟩), (g19, ⟨false, g20, h5⟩)]⟩ => bif ctsEq g0 ([.int .i64]) && nmEq g1 ([0, 2]) && Nat.beq g2 0 && Nat.beq g3 0 && nmEq g4 ([0, 3]) && Nat.beq g5 0 && Nat.beq g6 0 && nmEq g7 ([0, 0, 3]) && ctsEq g8 ([.int .i64, .int .i64, .int .i64, .int .i64]) && nmEq g9 ([0, 2]) && nmEq g10 ([0, 2, 3]) && ctsEq g11 ([.int .i64]) && nmEq g12 ([0, 3]) && nmEq g13 ([0, 0, 3]) && nmEq g14 ([0, 2, 3]) && nmEq g15 ([0, 3, 3]) && nmEq g16 ([0, 4, 3]) && nmEq g17 ([0, 3, 3]) && ctsEq g18 ([.int .i64]) && nmEq g19 ([0, 4, 3]) && ctsEq g20 ([.int .i64, .int .i64]) then ro (runW (R51_0 t0) (((t0.length : Int) - t4).toNat + 1) (.inr (t4, h0, h1, h2, h3, h4, h5))) none (sumE (fun p : Int × (List AV) × Int × (List AV) × (List AV) => k (.exit 0) ⟨[(2, AV.ptr [0, 2] 0 0), (3, AV.ptr [0, 3] 0 0)], [([0, 2], ⟨true, [], [AV.agg [AV.snil, AV.int .i64 p.1, AV.snil, AV.snil, AV.snil]]⟩), ([0, 2, 3], ⟨false, [.int .i64], p.2.1⟩), ([0, 3], ⟨true, [], [AV.agg [AV.snil, AV.int .i64 p.2.2.1, AV.own [0, 2, 3], AV.own [0, 3, 3], AV.own [0, 4, 3]]]⟩), ([0, 3, 3], ⟨false, [.int .i64], p.2.2.2.1⟩), ([0, 4, 3], ⟨false, [.int .i64, .int .i64], p.2.2.2.2⟩)]⟩) (fun p : (List AV) × Int × (List AV) × Int × (List AV) × (List AV) => k (.exit 0) ⟨[(2, AV.ptr [0, 2] 0 0), (3, AV.ptr [0, 3] 0 0)], [([0, 0, 3], ⟨false, [.int .i64, .int .i64, .int .i64, .int .i64], p.1⟩), ([0, 2], ⟨true, [], [AV.agg [AV.snil, AV.int .i64 p.2.1, AV.snil, AV.snil, AV.snil]]⟩), ([0, 2, 3], ⟨false, [.int .i64], p.2.2.1⟩), ([0, 3], ⟨true, [], [AV.agg [AV.own [0, 0, 3], AV.int .i64 p.2.2.2.1, AV.own [0, 2, 3], AV.own [0, 3, 3], AV.own [0, 4, 3]]]⟩), ([0, 3, 3], ⟨false, [.int .i64], p.2.2.2.2.1⟩), ([0, 4, 3], ⟨false, [.int .i64, .int .i64], p.2.2.2.2.2⟩)]⟩)) else none
  | _ => none
noncomputable def c51 : Cfg := cfg Try.prog [(51, 0, [0, 2, 3, 4]), (51, 999, [2]), (51, 1000, [2, 3]), (51, 1001, [0, 2, 3, 4])] [(89, m89), (90, m90)] [] [] [(51, 0, l51_0)]
theorem s51_0_s0 (ce : CallE) (t0 : List AV) (t4 : Int) (h0 : Int) (h1 : List AV) (h2 : Int) (h3 : List AV) (h4 : List AV) (next : St → Option AV) (k : Kont) : stepA (codeA c51 ce [] 51 0 (sub [1, 1, 1, 0, 1, 0, 0] (body Try.f51))) (normA [] [0, 2, 3, 4]) next ⟨[(0, AV.sl [.int .i64] t0), (2, AV.ptr [0, 2] 0 0), (3, AV.ptr [0, 3] 0 0), (4, AV.int .i64 t4)], [([0, 2], ⟨true, [], [AV.agg [AV.snil, AV.int .i64 h0, AV.snil, AV.snil, AV.snil]]⟩), ([0, 2, 3], ⟨false, [.int .i64], h1⟩), ([0, 3], ⟨true, [], [AV.agg [AV.snil, AV.int .i64 h2, AV.own [0, 2, 3], AV.own [0, 3, 3], AV.own [0, 4, 3]]]⟩), ([0, 3, 3], ⟨false, [.int .i64], h3⟩), ([0, 4, 3], ⟨false, [.int .i64, .int .i64], h4⟩)]⟩ k = (bif decide (t4 < (t0.length : Int)) then (bif (decide (0 ≤ t4) && decide (t4 < (t0.length : Int))) then (bif (decide ((([AV.agg [AV.int .i64 (fI (t0.getD t4.toNat AV.undef) 0), AV.int .i64 t4, AV.int .i64 0, AV.int .i64 (-1)]]).length) * 32 ≤ 140737488355328) && decide ((([AV.agg [AV.int .i64 (fI (t0.getD t4.toNat AV.undef) 0), AV.int .i64 t4, AV.int .i64 0, AV.int .i64 (-1)]]).length) ≤ 140737488355328)) then next ⟨[(0, AV.sl [.int .i64] t0), (2, AV.ptr [0, 2] 0 0), (3, AV.ptr [0, 3] 0 0), (4, AV.int .i64 (IntKind.i64.wrap (t4 + 1)))], [([0, 0, 3], ⟨false, [.int .i64, .int .i64, .int .i64, .int .i64], [AV.agg [AV.int .i64 (fI (t0.getD t4.toNat AV.undef) 0), AV.int .i64 t4, AV.int .i64 0, AV.int .i64 (-1)]]⟩), ([0, 2], ⟨true, [], [AV.agg [AV.snil, AV.int .i64 h0, AV.snil, AV.snil, AV.snil]]⟩), ([0, 2, 3], ⟨false, [.int .i64], h1⟩), ([0, 3], ⟨true, [], [AV.agg [AV.own [0, 0, 3], AV.int .i64 h2, AV.own [0, 2, 3], AV.own [0, 3, 3], AV.own [0, 4, 3]]]⟩), ([0, 3, 3], ⟨false, [.int .i64], h3⟩), ([0, 4, 3], ⟨false, [.int .i64, .int .i64], h4⟩)]⟩
    else none)
   else none)
  else k (.exit 0) ⟨[(2, AV.ptr [0, 2] 0 0), (3, AV.ptr [0, 3] 0 0)], [([0, 2], ⟨true, [], [AV.agg [AV.snil, AV.int .i64 h0, AV.snil, AV.snil, AV.snil]]⟩), ([0, 2, 3], ⟨false, [.int .i64], h1⟩), ([0, 3], ⟨true, [], [AV.agg [AV.snil, AV.int .i64 h2, AV.own [0, 2, 3], AV.own [0, 3, 3], AV.own [0, 4, 3]]]⟩), ([0, 3, 3], ⟨false, [.int .i64], h3⟩), ([0, 4, 3], ⟨false, [.int .i64, .int .i64], h4⟩)]⟩) := by kernel_rfl
theorem s51_0_s1 (ce : CallE) (t0 : List AV) (t4 : Int) (h0 : List AV) (h1 : Int) (h2 : List AV) (h3 : Int) (h4 : List AV) (h5 : List AV) (next : St → Option AV) (k : Kont) : stepA (codeA c51 ce [] 51 0 (sub [1, 1, 1, 0, 1, 0, 0] (body Try.f51))) (normA [] [0, 2, 3, 4]) next ⟨[(0, AV.sl [.int .i64] t0), (2, AV.ptr [0, 2] 0 0), (3, AV.ptr [0, 3] 0 0), (4, AV.int .i64 t4)], [([0, 0, 3], ⟨false, [.int .i64, .int .i64, .int .i64, .int .i64], h0⟩), ([0, 2], ⟨true, [], [AV.agg [AV.snil, AV.int .i64 h1, AV.snil, AV.snil, AV.snil]]⟩), ([0, 2, 3], ⟨false, [.int .i64], h2⟩), ([0, 3], ⟨true, [], [AV.agg [AV.own [0, 0, 3], AV.int .i64 h3, AV.own [0, 2, 3], AV.own [0, 3, 3], AV.own [0, 4, 3]]]⟩), ([0, 3, 3], ⟨false, [.int .i64], h4⟩), ([0, 4, 3], ⟨false, [.int .i64, .int .i64], h5⟩)]⟩ k = (bif decide (t4 < (t0.length : Int)) then (bif (decide (0 ≤ t4) && decide (t4 < (t0.length : Int))) then (bif (decide ((h0.length + ([AV.agg [AV.int .i64 (fI (t0.getD t4.toNat AV.undef) 0), AV.int .i64 t4, AV.int .i64 0, AV.int .i64 (-1)]]).length) * 32 ≤ 140737488355328) && decide ((h0.length + ([AV.agg [AV.int .i64 (fI (t0.getD t4.toNat AV.undef) 0), AV.int .i64 t4, AV.int .i64 0, AV.int .i64 (-1)]]).length) ≤ 140737488355328)) then next ⟨[(0, AV.sl [.int .i64] t0), (2, AV.ptr [0, 2] 0 0), (3, AV.ptr [0, 3] 0 0), (4, AV.int .i64 (IntKind.i64.wrap (t4 + 1)))], [([0, 0, 3], ⟨false, [.int .i64, .int .i64, .int .i64, .int .i64], h0 ++ ([AV.agg [AV.int .i64 (fI (t0.getD t4.toNat AV.undef) 0), AV.int .i64 t4, AV.int .i64 0, AV.int .i64 (-1)]])⟩), ([0, 2], ⟨true, [], [AV.agg [AV.snil, AV.int .i64 h1, AV.snil, AV.snil, AV.snil]]⟩), ([0, 2, 3], ⟨false, [.int .i64], h2⟩), ([0, 3], ⟨true, [], [AV.agg [AV.own [0, 0, 3], AV.int .i64 h3, AV.own [0, 2, 3], AV.own [0, 3, 3], AV.own [0, 4, 3]]]⟩), ([0, 3, 3], ⟨false, [.int .i64], h4⟩), ([0, 4, 3], ⟨false, [.int .i64, .int .i64], h5⟩)]⟩
    else none)
   else none)
  else k (.exit 0) ⟨[(2, AV.ptr [0, 2] 0 0), (3, AV.ptr [0, 3] 0 0)], [([0, 0, 3], ⟨false, [.int .i64, .int .i64, .int .i64, .int .i64], h0⟩), ([0, 2], ⟨true, [], [AV.agg [AV.snil, AV.int .i64 h1, AV.snil, AV.snil, AV.snil]]⟩), ([0, 2, 3], ⟨false, [.int .i64], h2⟩), ([0, 3], ⟨true, [], [AV.agg [AV.own [0, 0, 3], AV.int .i64 h3, AV.own [0, 2, 3], AV.own [0, 3, 3], AV.own [0, 4, 3]]]⟩), ([0, 3, 3], ⟨false, [.int .i64], h4⟩), ([0, 4, 3], ⟨false, [.int .i64, .int .i64], h5⟩)]⟩) := by kernel_rfl
theorem st51_0 (t0 : List AV) (ce : CallE) (k : Kont) (s : (Int × Int × (List AV) × Int × (List AV) × (List AV)) ⊕ (Int × (List AV) × Int × (List AV) × Int × (List AV) × (List AV))) (next : St → Option AV) : stepA (codeA c51 ce [] 51 0 (sub [1, 1, 1, 0, 1, 0, 0] (body Try.f51))) (normA [] [0, 2, 3, 4]) next ((sumE (fun s : Int × Int × (List AV) × Int × (List AV) × (List AV) => ⟨[(0, AV.sl [.int .i64] t0), (2, AV.ptr [0, 2] 0 0), (3, AV.ptr [0, 3] 0 0), (4, AV.int .i64 s.1)], [([0, 2], ⟨true, [], [AV.agg [AV.snil, AV.int .i64 s.2.1, AV.snil, AV.snil, AV.snil]]⟩), ([0, 2, 3], ⟨false, [.int .i64], s.2.2.1⟩), ([0, 3], ⟨true, [], [AV.agg [AV.snil, AV.int .i64 s.2.2.2.1, AV.own [0, 2, 3], AV.own [0, 3, 3], AV.own [0, 4, 3]]]⟩), ([0, 3, 3], ⟨false, [.int .i64], s.2.2.2.2.1⟩), ([0, 4, 3], ⟨false, [.int .i64, .int .i64], s.2.2.2.2.2⟩)]⟩) (fun s : Int × (List AV) × Int × (List AV) × Int × (List AV) × (List AV) => ⟨[(0, AV.sl [.int .i64] t0), (2, AV.ptr [0, 2] 0 0), (3, AV.ptr [0, 3] 0 0), (4, AV.int .i64 s.1)], [([0, 0, 3], ⟨false, [.int .i64, .int .i64, .int .i64, .int .i64], s.2.1⟩), ([0, 2], ⟨true, [], [AV.agg [AV.snil, AV.int .i64 s.2.2.1, AV.snil, AV.snil, AV.snil]]⟩), ([0, 2, 3], ⟨false, [.int .i64], s.2.2.2.1⟩), ([0, 3], ⟨true, [], [AV.agg [AV.own [0, 0, 3], AV.int .i64 s.2.2.2.2.1, AV.own [0, 2, 3], AV.own [0, 3, 3], AV.own [0, 4, 3]]]⟩), ([0, 3, 3], ⟨false, [.int .i64], s.2.2.2.2.2.1⟩), ([0, 4, 3], ⟨false, [.int .i64, .int .i64], s.2.2.2.2.2.2⟩)]⟩)) s) k = (R51_0 t0 s).el none (fun s => next ((sumE (fun s : Int × Int × (List AV) × Int × (List AV) × (List AV) => ⟨[(0, AV.sl [.int .i64] t0), (2, AV.ptr [0, 2] 0 0), (3, AV.ptr [0, 3] 0 0), (4, AV.int .i64 s.1)], [([0, 2], ⟨true, [], [AV.agg [AV.snil, AV.int .i64 s.2.1, AV.snil, AV.snil, AV.snil]]⟩), ([0, 2, 3], ⟨false, [.int .i64], s.2.2.1⟩), ([0, 3], ⟨true, [], [AV.agg [AV.snil, AV.int .i64 s.2.2.2.1, AV.own [0, 2, 3], AV.own [0, 3, 3], AV.own [0, 4, 3]]]⟩), ([0, 3, 3], ⟨false, [.int .i64], s.2.2.2.2.1⟩), ([0, 4, 3], ⟨false, [.int .i64, .int .i64], s.2.2.2.2.2⟩)]⟩) (fun s : Int × (List AV) × Int × (List AV) × Int × (List AV) × (List AV) => ⟨[(0, AV.sl [.int .i64] t0), (2, AV.ptr [0, 2] 0 0), (3, AV.ptr [0, 3] 0 0), (4, AV.int .i64 s.1)], [([0, 0, 3], ⟨false, [.int .i64, .int .i64, .int .i64, .int .i64], s.2.1⟩), ([0, 2], ⟨true, [], [AV.agg [AV.snil, AV.int .i64 s.2.2.1, AV.snil, AV.snil, AV.snil]]⟩), ([0, 2, 3], ⟨false, [.int .i64], s.2.2.2.1⟩), ([0, 3], ⟨true, [], [AV.agg [AV.own [0, 0, 3], AV.int .i64 s.2.2.2.2.1, AV.own [0, 2, 3], AV.own [0, 3, 3], AV.own [0, 4, 3]]]⟩), ([0, 3, 3], ⟨false, [.int .i64], s.2.2.2.2.2.1⟩), ([0, 4, 3], ⟨false, [.int .i64, .int .i64], s.2.2.2.2.2.2⟩)]⟩)) s)) (sumE (fun p : Int × (List AV) × Int × (List AV) × (List AV) => k (.exit 0) ⟨[(2, AV.ptr [0, 2] 0 0), (3, AV.ptr [0, 3] 0 0)], [([0, 2], ⟨true, [], [AV.agg [AV.snil, AV.int .i64 p.1, AV.snil, AV.snil, AV.snil]]⟩), ([0, 2, 3], ⟨false, [.int .i64], p.2.1⟩), ([0, 3], ⟨true, [], [AV.agg [AV.snil, AV.int .i64 p.2.2.1, AV.own [0, 2, 3], AV.own [0, 3, 3], AV.own [0, 4, 3]]]⟩), ([0, 3, 3], ⟨false, [.int .i64], p.2.2.2.1⟩), ([0, 4, 3], ⟨false, [.int .i64, .int .i64], p.2.2.2.2⟩)]⟩) (fun p : (List AV) × Int × (List AV) × Int × (List AV) × (List AV) => k (.exit 0) ⟨[(2, AV.ptr [0, 2] 0 0), (3, AV.ptr [0, 3] 0 0)], [([0, 0, 3], ⟨false, [.int .i64, .int .i64, .int .i64, .int .i64], p.1⟩), ([0, 2], ⟨true, [], [AV.agg [AV.snil, AV.int .i64 p.2.1, AV.snil, AV.snil, AV.snil]]⟩), ([0, 2, 3], ⟨false, [.int .i64], p.2.2.1⟩), ([0, 3], ⟨true, [], [AV.agg [AV.own [0, 0, 3], AV.int .i64 p.2.2.2.1, AV.own [0, 2, 3], AV.own [0, 3, 3], AV.own [0, 4, 3]]]⟩), ([0, 3, 3], ⟨false, [.int .i64], p.2.2.2.2.1⟩), ([0, 4, 3], ⟨false, [.int .i64, .int .i64], p.2.2.2.2.2⟩)]⟩)) := (match s with | .inl s => (s51_0_s0 ce t0 s.1 s.2.1 s.2.2.1 s.2.2.2.1 s.2.2.2.2.1 s.2.2.2.2.2 next k).trans (by unfold R51_0; unfold F51_0_s0; simp only [el_cond, el_ro, el_sum, el_fail, el_next, el_stop] <;> rfl) | .inr s => (s51_0_s1 ce t0 s.1 s.2.1 s.2.2.1 s.2.2.2.1 s.2.2.2.2.1 s.2.2.2.2.2.1 s.2.2.2.2.2.2 next k).trans (by unfold R51_0; unfold F51_0_s1; simp only [el_cond, el_ro, el_sum, el_fail, el_next, el_stop] <;> rfl))
theorem ok51_0 : LoopOK c51 [] 51 0 (sub [1, 1, 1, 0, 1, 0, 0] (body Try.f51)) := by
  intro m hm ce st k r h
  obtain rfl : l51_0 = m := Option.some.inj hm
  unfold l51_0 at h
  split at h
  · rename_i g0 t0 g1 g2 g3 g4 g5 g6 t4 g7 h0 g8 g9 h1 g10 h2 g11 g12 g13 g14 g15 h3 g16 g17 h4
    obtain ⟨hg, h⟩ := bif_some h
    simp only [Bool.and_eq_true] at hg
    obtain ⟨⟨⟨⟨⟨⟨⟨⟨⟨⟨⟨⟨⟨⟨⟨⟨⟨q0, q1⟩, q2⟩, q3⟩, q4⟩, q5⟩, q6⟩, q7⟩, q8⟩, q9⟩, q10⟩, q11⟩, q12⟩, q13⟩, q14⟩, q15⟩, q16⟩, q17⟩ := hg
    obtain rfl := ctsEq_eq _ _ q0
    obtain rfl := (nmEq_iff _ _).1 q1
    obtain rfl := Nat.eq_of_beq_eq_true q2
    obtain rfl := Nat.eq_of_beq_eq_true q3
    obtain rfl := (nmEq_iff _ _).1 q4
    obtain rfl := Nat.eq_of_beq_eq_true q5
    obtain rfl := Nat.eq_of_beq_eq_true q6
    obtain rfl := (nmEq_iff _ _).1 q7
    obtain rfl := (nmEq_iff _ _).1 q8
    obtain rfl := ctsEq_eq _ _ q9
    obtain rfl := (nmEq_iff _ _).1 q10
    obtain rfl := (nmEq_iff _ _).1 q11
    obtain rfl := (nmEq_iff _ _).1 q12
    obtain rfl := (nmEq_iff _ _).1 q13
    obtain rfl := (nmEq_iff _ _).1 q14
    obtain rfl := ctsEq_eq _ _ q15
    obtain rfl := (nmEq_iff _ _).1 q16
    obtain rfl := ctsEq_eq _ _ q17
    refine ⟨(((t0.length : Int) - t4).toNat + 1), ?_⟩
    rw [← h]
    exact loop_run (sumE (fun s : Int × Int × (List AV) × Int × (List AV) × (List AV) => ⟨[(0, AV.sl [.int .i64] t0), (2, AV.ptr [0, 2] 0 0), (3, AV.ptr [0, 3] 0 0), (4, AV.int .i64 s.1)], [([0, 2], ⟨true, [], [AV.agg [AV.snil, AV.int .i64 s.2.1, AV.snil, AV.snil, AV.snil]]⟩), ([0, 2, 3], ⟨false, [.int .i64], s.2.2.1⟩), ([0, 3], ⟨true, [], [AV.agg [AV.snil, AV.int .i64 s.2.2.2.1, AV.own [0, 2, 3], AV.own [0, 3, 3], AV.own [0, 4, 3]]]⟩), ([0, 3, 3], ⟨false, [.int .i64], s.2.2.2.2.1⟩), ([0, 4, 3], ⟨false, [.int .i64, .int .i64], s.2.2.2.2.2⟩)]⟩) (fun s : Int × (List AV) × Int × (List AV) × Int × (List AV) × (List AV) => ⟨[(0, AV.sl [.int .i64] t0), (2, AV.ptr [0, 2] 0 0), (3, AV.ptr [0, 3] 0 0), (4, AV.int .i64 s.1)], [([0, 0, 3], ⟨false, [.int .i64, .int .i64, .int .i64, .int .i64], s.2.1⟩), ([0, 2], ⟨true, [], [AV.agg [AV.snil, AV.int .i64 s.2.2.1, AV.snil, AV.snil, AV.snil]]⟩), ([0, 2, 3], ⟨false, [.int .i64], s.2.2.2.1⟩), ([0, 3], ⟨true, [], [AV.agg [AV.own [0, 0, 3], AV.int .i64 s.2.2.2.2.1, AV.own [0, 2, 3], AV.own [0, 3, 3], AV.own [0, 4, 3]]]⟩), ([0, 3, 3], ⟨false, [.int .i64], s.2.2.2.2.2.1⟩), ([0, 4, 3], ⟨false, [.int .i64, .int .i64], s.2.2.2.2.2.2⟩)]⟩)) (sumE (fun p : Int × (List AV) × Int × (List AV) × (List AV) => k (.exit 0) ⟨[(2, AV.ptr [0, 2] 0 0), (3, AV.ptr [0, 3] 0 0)], [([0, 2], ⟨true, [], [AV.agg [AV.snil, AV.int .i64 p.1, AV.snil, AV.snil, AV.snil]]⟩), ([0, 2, 3], ⟨false, [.int .i64], p.2.1⟩), ([0, 3], ⟨true, [], [AV.agg [AV.snil, AV.int .i64 p.2.2.1, AV.own [0, 2, 3], AV.own [0, 3, 3], AV.own [0, 4, 3]]]⟩), ([0, 3, 3], ⟨false, [.int .i64], p.2.2.2.1⟩), ([0, 4, 3], ⟨false, [.int .i64, .int .i64], p.2.2.2.2⟩)]⟩) (fun p : (List AV) × Int × (List AV) × Int × (List AV) × (List AV) => k (.exit 0) ⟨[(2, AV.ptr [0, 2] 0 0), (3, AV.ptr [0, 3] 0 0)], [([0, 0, 3], ⟨false, [.int .i64, .int .i64, .int .i64, .int .i64], p.1⟩), ([0, 2], ⟨true, [], [AV.agg [AV.snil, AV.int .i64 p.2.1, AV.snil, AV.snil, AV.snil]]⟩), ([0, 2, 3], ⟨false, [.int .i64], p.2.2.1⟩), ([0, 3], ⟨true, [], [AV.agg [AV.own [0, 0, 3], AV.int .i64 p.2.2.2.1, AV.own [0, 2, 3], AV.own [0, 3, 3], AV.own [0, 4, 3]]]⟩), ([0, 3, 3], ⟨false, [.int .i64], p.2.2.2.2.1⟩), ([0, 4, 3], ⟨false, [.int .i64, .int .i64], p.2.2.2.2.2⟩)]⟩)) (st51_0 t0 ce k) _ (.inl (t4, h0, h1, h2, h3, h4))
  · rename_i g0 t0 g1 g2 g3 g4 g5 g6 t4 g7 g8 h0 g9 h1 g10 g11 h2 g12 g13 h3 g14 g15 g16 g17 g18 h4 g19 g20 h5
    obtain ⟨hg, h⟩ := bif_some h
    simp only [Bool.and_eq_true] at hg
    obtain ⟨⟨⟨⟨⟨⟨⟨⟨⟨⟨⟨⟨⟨⟨⟨⟨⟨⟨⟨⟨q0, q1⟩, q2⟩, q3⟩, q4⟩, q5⟩, q6⟩, q7⟩, q8⟩, q9⟩, q10⟩, q11⟩, q12⟩, q13⟩, q14⟩, q15⟩, q16⟩, q17⟩, q18⟩, q19⟩, q20⟩ := hg
    obtain rfl := ctsEq_eq _ _ q0
    obtain rfl := (nmEq_iff _ _).1 q1
    obtain rfl := Nat.eq_of_beq_eq_true q2
    obtain rfl := Nat.eq_of_beq_eq_true q3
    obtain rfl := (nmEq_iff _ _).1 q4
    obtain rfl := Nat.eq_of_beq_eq_true q5
    obtain rfl := Nat.eq_of_beq_eq_true q6
    obtain rfl := (nmEq_iff _ _).1 q7
    obtain rfl := ctsEq_eq _ _ q8
    obtain rfl := (nmEq_iff _ _).1 q9
    obtain rfl := (nmEq_iff _ _).1 q10
    obtain rfl := ctsEq_eq _ _ q11
    obtain rfl := (nmEq_iff _ _).1 q12
    obtain rfl := (nmEq_iff _ _).1 q13
    obtain rfl := (nmEq_iff _ _).1 q14
    obtain rfl := (nmEq_iff _ _).1 q15
    obtain rfl := (nmEq_iff _ _).1 q16
    obtain rfl := (nmEq_iff _ _).1 q17
    obtain rfl := ctsEq_eq _ _ q18
    obtain rfl := (nmEq_iff _ _).1 q19
    obtain rfl := ctsEq_eq _ _ q20
    refine ⟨(((t0.length : Int) - t4).toNat + 1), ?_⟩
    rw [← h]
    exact loop_run (sumE (fun s : Int × Int × (List AV) × Int × (List AV) × (List AV) => ⟨[(0, AV.sl [.int .i64] t0), (2, AV.ptr [0, 2] 0 0), (3, AV.ptr [0, 3] 0 0), (4, AV.int .i64 s.1)], [([0, 2], ⟨true, [], [AV.agg [AV.snil, AV.int .i64 s.2.1, AV.snil, AV.snil, AV.snil]]⟩), ([0, 2, 3], ⟨false, [.int .i64], s.2.2.1⟩), ([0, 3], ⟨true, [], [AV.agg [AV.snil, AV.int .i64 s.2.2.2.1, AV.own [0, 2, 3], AV.own [0, 3, 3], AV.own [0, 4, 3]]]⟩), ([0, 3, 3], ⟨false, [.int .i64], s.2.2.2.2.1⟩), ([0, 4, 3], ⟨false, [.int .i64, .int .i64], s.2.2.2.2.2⟩)]⟩) (fun s : Int × (List AV) × Int × (List AV) × Int × (List AV) × (List AV) => ⟨[(0, AV.sl [.int .i64] t0), (2, AV.ptr [0, 2] 0 0), (3, AV.ptr [0, 3] 0 0), (4, AV.int .i64 s.1)], [([0, 0, 3], ⟨false, [.int .i64, .int .i64, .int .i64, .int .i64], s.2.1⟩), ([0, 2], ⟨true, [], [AV.agg [AV.snil, AV.int .i64 s.2.2.1, AV.snil, AV.snil, AV.snil]]⟩), ([0, 2, 3], ⟨false, [.int .i64], s.2.2.2.1⟩), ([0, 3], ⟨true, [], [AV.agg [AV.own [0, 0, 3], AV.int .i64 s.2.2.2.2.1, AV.own [0, 2, 3], AV.own [0, 3, 3], AV.own [0, 4, 3]]]⟩), ([0, 3, 3], ⟨false, [.int .i64], s.2.2.2.2.2.1⟩), ([0, 4, 3], ⟨false, [.int .i64, .int .i64], s.2.2.2.2.2.2⟩)]⟩)) (sumE (fun p : Int × (List AV) × Int × (List AV) × (List AV) => k (.exit 0) ⟨[(2, AV.ptr [0, 2] 0 0), (3, AV.ptr [0, 3] 0 0)], [([0, 2], ⟨true, [], [AV.agg [AV.snil, AV.int .i64 p.1, AV.snil, AV.snil, AV.snil]]⟩), ([0, 2, 3], ⟨false, [.int .i64], p.2.1⟩), ([0, 3], ⟨true, [], [AV.agg [AV.snil, AV.int .i64 p.2.2.1, AV.own [0, 2, 3], AV.own [0, 3, 3], AV.own [0, 4, 3]]]⟩), ([0, 3, 3], ⟨false, [.int .i64], p.2.2.2.1⟩), ([0, 4, 3], ⟨false, [.int .i64, .int .i64], p.2.2.2.2⟩)]⟩) (fun p : (List AV) × Int × (List AV) × Int × (List AV) × (List AV) => k (.exit 0) ⟨[(2, AV.ptr [0, 2] 0 0), (3, AV.ptr [0, 3] 0 0)], [([0, 0, 3], ⟨false, [.int .i64, .int .i64, .int .i64, .int .i64], p.1⟩), ([0, 2], ⟨true, [], [AV.agg [AV.snil, AV.int .i64 p.2.1, AV.snil, AV.snil, AV.snil]]⟩), ([0, 2, 3], ⟨false, [.int .i64], p.2.2.1⟩), ([0, 3], ⟨true, [], [AV.agg [AV.own [0, 0, 3], AV.int .i64 p.2.2.2.1, AV.own [0, 2, 3], AV.own [0, 3, 3], AV.own [0, 4, 3]]]⟩), ([0, 3, 3], ⟨false, [.int .i64], p.2.2.2.2.1⟩), ([0, 4, 3], ⟨false, [.int .i64, .int .i64], p.2.2.2.2.2⟩)]⟩)) (st51_0 t0 ce k) _ (.inr (t4, h0, h1, h2, h3, h4, h5))
  · cases h
def q51 (a0 : List AV) : Bool := (q90 a0 && (bif !(v90_0 a0) then true else (q89 a0 && (ro (runW (R51_0 a0) (((a0.length : Int) - 0).toNat + 1) (.inl (0, 0, (v89_0 a0), 0, (v89_1 a0), (v89_2 a0)))) false (sumE (fun p6 => true) (fun p7 => true))))))
def v51_0 (a0 : List AV) : List AV := (bif !(v90_0 a0) then ([] : List AV) else (ro (runW (R51_0 a0) (((a0.length : Int) - 0).toNat + 1) (.inl (0, 0, (v89_0 a0), 0, (v89_1 a0), (v89_2 a0)))) [] (sumE (fun p6 => ([] : List AV)) (fun p7 => p7.1))))
def v51_1 (a0 : List AV) : Int := (bif !(v90_0 a0) then 0 else (ro (runW (R51_0 a0) (((a0.length : Int) - 0).toNat + 1) (.inl (0, 0, (v89_0 a0), 0, (v89_1 a0), (v89_2 a0)))) 0 (sumE (fun p6 => p6.2.2.1) (fun p7 => p7.2.2.2.1))))
def v51_2 (a0 : List AV) : List AV := (bif !(v90_0 a0) then ([] : List AV) else (ro (runW (R51_0 a0) (((a0.length : Int) - 0).toNat + 1) (.inl (0, 0, (v89_0 a0), 0, (v89_1 a0), (v89_2 a0)))) [] (sumE (fun p6 => p6.2.1) (fun p7 => p7.2.2.1))))
def v51_3 (a0 : List AV) : List AV := (bif !(v90_0 a0) then ([] : List AV) else (ro (runW (R51_0 a0) (((a0.length : Int) - 0).toNat + 1) (.inl (0, 0, (v89_0 a0), 0, (v89_1 a0), (v89_2 a0)))) [] (sumE (fun p6 => p6.2.2.2.1) (fun p7 => p7.2.2.2.2.1))))
def v51_4 (a0 : List AV) : List AV := (bif !(v90_0 a0) then ([] : List AV) else (ro (runW (R51_0 a0) (((a0.length : Int) - 0).toNat + 1) (.inl (0, 0, (v89_0 a0), 0, (v89_1 a0), (v89_2 a0)))) [] (sumE (fun p6 => p6.2.2.2.2) (fun p7 => p7.2.2.2.2.2))))
theorem e51 (a0 : List AV) : funA c51 0 51 [AV.sl [.int .i64] a0] = (bif q90 a0 then (bif !(v90_0 a0) then some (AV.agg [AV.fl [.int .i64, .int .i64, .int .i64, .int .i64] ([] : List AV), AV.int .i64 0, AV.fl [.int .i64] ([] : List AV), AV.fl [.int .i64] ([] : List AV), AV.fl [.int .i64, .int .i64] ([] : List AV)])
   else (bif q89 a0 then (ro (runW (R51_0 a0) (((a0.length : Int) - 0).toNat + 1) (.inl (0, 0, (v89_0 a0), 0, (v89_1 a0), (v89_2 a0)))) none (sumE (fun p6 => some (AV.agg [AV.fl [.int .i64, .int .i64, .int .i64, .int .i64] ([] : List AV), AV.int .i64 p6.2.2.1, AV.fl [.int .i64] p6.2.1, AV.fl [.int .i64] p6.2.2.2.1, AV.fl [.int .i64, .int .i64] p6.2.2.2.2])) (fun p7 => some (AV.agg [AV.fl [.int .i64, .int .i64, .int .i64, .int .i64] p7.1, AV.int .i64 p7.2.2.2.1, AV.fl [.int .i64] p7.2.2.1, AV.fl [.int .i64] p7.2.2.2.2.1, AV.fl [.int .i64, .int .i64] p7.2.2.2.2.2]))))
    else none))
  else none) := by kernel_rfl
theorem r51 (a0 : List AV) (h : q51 a0 = true) : funA c51 0 51 [AV.sl [.int .i64] a0] = some (AV.agg [AV.fl [.int .i64, .int .i64, .int .i64, .int .i64] (v51_0 a0), AV.int .i64 (v51_1 a0), AV.fl [.int .i64] (v51_2 a0), AV.fl [.int .i64] (v51_3 a0), AV.fl [.int .i64, .int .i64] (v51_4 a0)]) := (e51 a0).trans ((brL (br (fun b => some (AV.agg [AV.fl [.int .i64, .int .i64, .int .i64, .int .i64] (bif b then ([] : List AV) else (ro (runW (R51_0 a0) (((a0.length : Int) - 0).toNat + 1) (.inl (0, 0, (v89_0 a0), 0, (v89_1 a0), (v89_2 a0)))) [] (sumE (fun p6 => ([] : List AV)) (fun p7 => p7.1)))), AV.int .i64 (bif b then 0 else (ro (runW (R51_0 a0) (((a0.length : Int) - 0).toNat + 1) (.inl (0, 0, (v89_0 a0), 0, (v89_1 a0), (v89_2 a0)))) 0 (sumE (fun p6 => p6.2.2.1) (fun p7 => p7.2.2.2.1)))), AV.fl [.int .i64] (bif b then ([] : List AV) else (ro (runW (R51_0 a0) (((a0.length : Int) - 0).toNat + 1) (.inl (0, 0, (v89_0 a0), 0, (v89_1 a0), (v89_2 a0)))) [] (sumE (fun p6 => p6.2.1) (fun p7 => p7.2.2.1)))), AV.fl [.int .i64] (bif b then ([] : List AV) else (ro (runW (R51_0 a0) (((a0.length : Int) - 0).toNat + 1) (.inl (0, 0, (v89_0 a0), 0, (v89_1 a0), (v89_2 a0)))) [] (sumE (fun p6 => p6.2.2.2.1) (fun p7 => p7.2.2.2.2.1)))), AV.fl [.int .i64, .int .i64] (bif b then ([] : List AV) else (ro (runW (R51_0 a0) (((a0.length : Int) - 0).toNat + 1) (.inl (0, 0, (v89_0 a0), 0, (v89_1 a0), (v89_2 a0)))) [] (sumE (fun p6 => p6.2.2.2.2) (fun p7 => p7.2.2.2.2.2))))])) (fun _ => rfl) (brL (brO (fun o : Option ((Int × (List AV) × Int × (List AV) × (List AV)) ⊕ ((List AV) × Int × (List AV) × Int × (List AV) × (List AV))) => some (AV.agg [AV.fl [.int .i64, .int .i64, .int .i64, .int .i64] (ro o [] (sumE (fun p6 => ([] : List AV)) (fun p7 => p7.1))), AV.int .i64 (ro o 0 (sumE (fun p6 => p6.2.2.1) (fun p7 => p7.2.2.2.1))), AV.fl [.int .i64] (ro o [] (sumE (fun p6 => p6.2.1) (fun p7 => p7.2.2.1))), AV.fl [.int .i64] (ro o [] (sumE (fun p6 => p6.2.2.2.1) (fun p7 => p7.2.2.2.2.1))), AV.fl [.int .i64, .int .i64] (ro o [] (sumE (fun p6 => p6.2.2.2.2) (fun p7 => p7.2.2.2.2.2)))])) (brS (fun o : (Int × (List AV) × Int × (List AV) × (List AV)) ⊕ ((List AV) × Int × (List AV) × Int × (List AV) × (List AV)) => some (AV.agg [AV.fl [.int .i64, .int .i64, .int .i64, .int .i64] ((sumE (fun p6 => ([] : List AV)) (fun p7 => p7.1)) o), AV.int .i64 ((sumE (fun p6 => p6.2.2.1) (fun p7 => p7.2.2.2.1)) o), AV.fl [.int .i64] ((sumE (fun p6 => p6.2.1) (fun p7 => p7.2.2.1)) o), AV.fl [.int .i64] ((sumE (fun p6 => p6.2.2.2.1) (fun p7 => p7.2.2.2.2.1)) o), AV.fl [.int .i64, .int .i64] ((sumE (fun p6 => p6.2.2.2.2) (fun p7 => p7.2.2.2.2.2)) o)])) (fun p6 => (fun _ => rfl)) (fun p7 => (fun _ => rfl))))))) h)
def m51 : TModel
  | [.sl g0 a0] => bif ctsEq g0 ([.int .i64]) then some (q51 a0, AV.agg [AV.fl [.int .i64, .int .i64, .int .i64, .int .i64] (v51_0 a0), AV.int .i64 (v51_1 a0), AV.fl [.int .i64] (v51_2 a0), AV.fl [.int .i64] (v51_3 a0), AV.fl [.int .i64, .int .i64] (v51_4 a0)]) else none
  | _ => none
theorem k51 : Known Try.prog 51 := ⟨Try.f51, Try.func51, by kernel_rfl, by kernel_rfl⟩
theorem meets51 : Meets Try.prog 51 m51 := by
  refine meet (f := Try.f51) (l := [(0, sub [1, 1, 1, 0, 1, 0, 0] (body Try.f51))]) (hs := [(51, 0, [0, 2, 3, 4]), (51, 999, [2]), (51, 1000, [2, 3]), (51, 1001, [0, 2, 3, 4])]) (ts := [(89, m89), (90, m90)]) (ws := []) (is := []) (ls := [(51, 0, l51_0)]) (lvl := 0) mixed k51 Try.func51 (by kernel_rfl) (loops_cons ok51_0 noLoop) (allT_cons meets89 (allT_cons meets90 allT_nil)) allM_nil noI fun w xs us r hl hv h => ?_
  unfold m51 at h
  split at h
  · rename_i g0 a0
    obtain ⟨hg, h⟩ := bif_pair h
    have q0 := hg
    obtain rfl := ctsEq_eq _ _ q0
    obtain ⟨h1, rfl⟩ := pair_inj h
    exact r51 a0 h1
  · cases h

/-! ### 145 loop.example/g01984/impl.within$1 -/
noncomputable def c145 : Cfg := cfg Try.prog [(145, 999, [4])] [] [] [] []
def q145 (a0 : Int) (a1 : AV) (a2 : AV) : Bool := true
def v145_0 (a0 : Int) (a1 : AV) (a2 : AV) : Bool := (bif decide (a0 < fI a1 0) then true else decide (a0 > fI a2 0))
theorem e145 (a0 : Int) (a1 : AV) (a2 : AV) : funA c145 0 145 [AV.int .i64 a0, AV.rptr [.int .i64] a1 0, AV.rptr [.int .i64] a2 0] = (bif decide (a0 < fI a1 0) then some (AV.bool true)
  else some (AV.bool (decide (a0 > fI a2 0)))) := by kernel_rfl
theorem r145 (a0 : Int) (a1 : AV) (a2 : AV) : funA c145 0 145 [AV.int .i64 a0, AV.rptr [.int .i64] a1 0, AV.rptr [.int .i64] a2 0] = some (AV.bool (v145_0 a0 a1 a2)) := (e145 a0 a1 a2).trans (of_tt (brT (fun b => some (AV.bool (bif b then true else decide (a0 > fI a2 0)))) (fun _ => rfl) (fun _ => rfl)))
def m145 : TModel
  | [.int .i64 a0, .rptr g0 a1 g1, .rptr g2 a2 g3] => bif ctsEq g0 ([.int .i64]) && Nat.beq g1 0 && ctsEq g2 ([.int .i64]) && Nat.beq g3 0 then some (true, AV.bool (v145_0 a0 a1 a2)) else none
  | _ => none
theorem k145 : Known Try.prog 145 := ⟨Try.f145, Try.func145, by kernel_rfl, by kernel_rfl⟩
theorem meets145 : Meets Try.prog 145 m145 := by
  refine meet (f := Try.f145) (l := []) (hs := [(145, 999, [4])]) (ts := []) (ws := []) (is := []) (ls := []) (lvl := 0) mixed k145 Try.func145 (by kernel_rfl) noLoop allT_nil allM_nil noI fun w xs us r hl hv h => ?_
  unfold m145 at h
  split at h
  · rename_i a0 g0 a1 g1 g2 a2 g3
    obtain ⟨hg, h⟩ := bif_pair h
    simp only [Bool.and_eq_true] at hg
    obtain ⟨⟨⟨q0, q1⟩, q2⟩, q3⟩ := hg
    obtain rfl := ctsEq_eq _ _ q0
    obtain rfl := Nat.eq_of_beq_eq_true q1
    obtain rfl := ctsEq_eq _ _ q2
    obtain rfl := Nat.eq_of_beq_eq_true q3
    obtain ⟨h1, rfl⟩ := pair_inj h
    exact r145 a0 a1 a2
  · cases h

/-! ### 164 slices.IndexFunc[[]int,int] -/
def F164_0 (t0 : List AV) (t1_0 : AV) (t1_1 : AV) (t7 : Int) (t8 : Int) : Out (Int) (Unit ⊕ Int) := (bif decide (t8 < t7) then (bif (decide (0 ≤ t8) && decide (t8 < (t0.length : Int))) then (bif (v145_0 (fI (t0.getD t8.toNat AV.undef) 0) t1_0 t1_1) then .stop (.inr t8)
    else .next (IntKind.i64.wrap (t8 + 1)))
   else .fail)
  else .stop (.inl ()))
def R164_0 (t0 : List AV) (t1_0 : AV) (t1_1 : AV) (t7 : Int) : (Int) → Out (Int) (Unit ⊕ Int) := fun s : Int => F164_0 t0 t1_0 t1_1 t7 s
def l164_0 : LModel := fun _ _ st k => match st with
  | ⟨[(0, .sl g0 t0), (1, .fn g1 [.rptr g2 t1_0 g3, .rptr g4 t1_1 g5]), (7, .int .i64 t7), (8, .int .i64 t8)], []⟩ => bif ctsEq g0 ([.int .i64]) && Nat.beq g1 145 && ctsEq g2 ([.int .i64]) && Nat.beq g3 0 && ctsEq g4 ([.int .i64]) && Nat.beq g5 0 then ro (runW (R164_0 t0 t1_0 t1_1 t7) ((t7 - t8).toNat + 1) t8) none (sumE (fun _ : Unit => k (.exit 0) ⟨[], []⟩) (fun p : Int => k .ret ⟨[(4, AV.int .i64 p)], []⟩)) else none
  | _ => none
noncomputable def c164 : Cfg := cfg Try.prog [(164, 0, [0, 1, 7, 8]), (164, 999, [4]), (164, 1000, []), (164, 1001, [0, 1, 7, 8])] [(145, m145)] [] [] [(164, 0, l164_0)]
theorem s164_0 (ce : CallE) (t0 : List AV) (t1_0 : AV) (t1_1 : AV) (t7 : Int) (t8 : Int) (next : St → Option AV) (k : Kont) : stepA (codeA c164 ce [] 164 0 (sub [1, 0, 1, 0, 0] (body Try.f164))) (normA [] [0, 1, 7, 8]) next ⟨[(0, AV.sl [.int .i64] t0), (1, AV.fn 145 [AV.rptr [.int .i64] t1_0 0, AV.rptr [.int .i64] t1_1 0]), (7, AV.int .i64 t7), (8, AV.int .i64 t8)], []⟩ k = (bif decide (t8 < t7) then (bif (decide (0 ≤ t8) && decide (t8 < (t0.length : Int))) then (bif (v145_0 (fI (t0.getD t8.toNat AV.undef) 0) t1_0 t1_1) then k .ret ⟨[(4, AV.int .i64 t8)], []⟩
    else next ⟨[(0, AV.sl [.int .i64] t0), (1, AV.fn 145 [AV.rptr [.int .i64] t1_0 0, AV.rptr [.int .i64] t1_1 0]), (7, AV.int .i64 t7), (8, AV.int .i64 (IntKind.i64.wrap (t8 + 1)))], []⟩)
   else none)
  else k (.exit 0) ⟨[], []⟩) := by kernel_rfl
theorem st164_0 (t0 : List AV) (t1_0 : AV) (t1_1 : AV) (t7 : Int) (ce : CallE) (k : Kont) (s : Int) (next : St → Option AV) : stepA (codeA c164 ce [] 164 0 (sub [1, 0, 1, 0, 0] (body Try.f164))) (normA [] [0, 1, 7, 8]) next ((fun s : Int => ⟨[(0, AV.sl [.int .i64] t0), (1, AV.fn 145 [AV.rptr [.int .i64] t1_0 0, AV.rptr [.int .i64] t1_1 0]), (7, AV.int .i64 t7), (8, AV.int .i64 s)], []⟩) s) k = (R164_0 t0 t1_0 t1_1 t7 s).el none (fun s => next ((fun s : Int => ⟨[(0, AV.sl [.int .i64] t0), (1, AV.fn 145 [AV.rptr [.int .i64] t1_0 0, AV.rptr [.int .i64] t1_1 0]), (7, AV.int .i64 t7), (8, AV.int .i64 s)], []⟩) s)) (sumE (fun _ : Unit => k (.exit 0) ⟨[], []⟩) (fun p : Int => k .ret ⟨[(4, AV.int .i64 p)], []⟩)) := (s164_0 ce t0 t1_0 t1_1 t7 s next k).trans (by unfold R164_0; unfold F164_0; simp only [el_cond, el_ro, el_sum, el_fail, el_next, el_stop] <;> rfl)
theorem ok164_0 : LoopOK c164 [] 164 0 (sub [1, 0, 1, 0, 0] (body Try.f164)) := by
  intro m hm ce st k r h
  obtain rfl : l164_0 = m := Option.some.inj hm
  unfold l164_0 at h
  split at h
  · rename_i g0 t0 g1 g2 t1_0 g3 g4 t1_1 g5 t7 t8
    obtain ⟨hg, h⟩ := bif_some h
    simp only [Bool.and_eq_true] at hg
    obtain ⟨⟨⟨⟨⟨q0, q1⟩, q2⟩, q3⟩, q4⟩, q5⟩ := hg
    obtain rfl := ctsEq_eq _ _ q0
    obtain rfl := Nat.eq_of_beq_eq_true q1
    obtain rfl := ctsEq_eq _ _ q2
    obtain rfl := Nat.eq_of_beq_eq_true q3
    obtain rfl := ctsEq_eq _ _ q4
    obtain rfl := Nat.eq_of_beq_eq_true q5
    refine ⟨((t7 - t8).toNat + 1), ?_⟩
    rw [← h]
    exact loop_run (fun s : Int => ⟨[(0, AV.sl [.int .i64] t0), (1, AV.fn 145 [AV.rptr [.int .i64] t1_0 0, AV.rptr [.int .i64] t1_1 0]), (7, AV.int .i64 t7), (8, AV.int .i64 s)], []⟩) (sumE (fun _ : Unit => k (.exit 0) ⟨[], []⟩) (fun p : Int => k .ret ⟨[(4, AV.int .i64 p)], []⟩)) (st164_0 t0 t1_0 t1_1 t7 ce k) _ t8
  · cases h
def q164 (a0 : List AV) (a1_0 : AV) (a1_1 : AV) : Bool := (ro (runW (R164_0 a0 a1_0 a1_1 (a0.length : Int)) (((a0.length : Int) - 0).toNat + 1) 0) false (sumE (fun _ => true) (fun p9 => true)))
def v164_0 (a0 : List AV) (a1_0 : AV) (a1_1 : AV) : Int := (ro (runW (R164_0 a0 a1_0 a1_1 (a0.length : Int)) (((a0.length : Int) - 0).toNat + 1) 0) 0 (sumE (fun _ => (-1)) (fun p9 => p9)))
theorem e164 (a0 : List AV) (a1_0 : AV) (a1_1 : AV) : funA c164 0 164 [AV.sl [.int .i64] a0, AV.fn 145 [AV.rptr [.int .i64] a1_0 0, AV.rptr [.int .i64] a1_1 0]] = (ro (runW (R164_0 a0 a1_0 a1_1 (a0.length : Int)) (((a0.length : Int) - 0).toNat + 1) 0) none (sumE (fun _ => some (AV.int .i64 (-1))) (fun p9 => some (AV.int .i64 p9)))) := by kernel_rfl
theorem r164 (a0 : List AV) (a1_0 : AV) (a1_1 : AV) (h : q164 a0 a1_0 a1_1 = true) : funA c164 0 164 [AV.sl [.int .i64] a0, AV.fn 145 [AV.rptr [.int .i64] a1_0 0, AV.rptr [.int .i64] a1_1 0]] = some (AV.int .i64 (v164_0 a0 a1_0 a1_1)) := (e164 a0 a1_0 a1_1).trans ((brO (fun o : Option (Unit ⊕ Int) => some (AV.int .i64 (ro o 0 (sumE (fun _ => (-1)) (fun p9 => p9))))) (brS (fun o : Unit ⊕ Int => some (AV.int .i64 ((sumE (fun _ => (-1)) (fun p9 => p9)) o))) (fun _ => (fun _ => rfl)) (fun p9 => (fun _ => rfl)))) h)
def m164 : TModel
  | [.sl g0 a0, .fn g1 [.rptr g2 a1_0 g3, .rptr g4 a1_1 g5]] => bif ctsEq g0 ([.int .i64]) && Nat.beq g1 145 && ctsEq g2 ([.int .i64]) && Nat.beq g3 0 && ctsEq g4 ([.int .i64]) && Nat.beq g5 0 then some (q164 a0 a1_0 a1_1, AV.int .i64 (v164_0 a0 a1_0 a1_1)) else none
  | _ => none
theorem k164 : Known Try.prog 164 := ⟨Try.f164, Try.func164, by kernel_rfl, by kernel_rfl⟩
theorem meets164 : Meets Try.prog 164 m164 := by
  refine meet (f := Try.f164) (l := [(0, sub [1, 0, 1, 0, 0] (body Try.f164))]) (hs := [(164, 0, [0, 1, 7, 8]), (164, 999, [4]), (164, 1000, []), (164, 1001, [0, 1, 7, 8])]) (ts := [(145, m145)]) (ws := []) (is := []) (ls := [(164, 0, l164_0)]) (lvl := 0) mixed k164 Try.func164 (by kernel_rfl) (loops_cons ok164_0 noLoop) (allT_cons meets145 allT_nil) allM_nil noI fun w xs us r hl hv h => ?_
  unfold m164 at h
  split at h
  · rename_i g0 a0 g1 g2 a1_0 g3 g4 a1_1 g5
    obtain ⟨hg, h⟩ := bif_pair h
    simp only [Bool.and_eq_true] at hg
    obtain ⟨⟨⟨⟨⟨q0, q1⟩, q2⟩, q3⟩, q4⟩, q5⟩ := hg
    obtain rfl := ctsEq_eq _ _ q0
    obtain rfl := Nat.eq_of_beq_eq_true q1
    obtain rfl := ctsEq_eq _ _ q2
    obtain rfl := Nat.eq_of_beq_eq_true q3
    obtain rfl := ctsEq_eq _ _ q4
    obtain rfl := Nat.eq_of_beq_eq_true q5
    obtain ⟨h1, rfl⟩ := pair_inj h
    exact r164 a0 a1_0 a1_1 h1
  · cases h

/-! ### 144 slices.ContainsFunc[[]int,int] -/
noncomputable def c144 : Cfg := cfg Try.prog [(144, 999, [4])] [(164, m164)] [] [] []
def q144 (a0 : List AV) (a1_0 : AV) (a1_1 : AV) : Bool := q164 a0 a1_0 a1_1
def v144_0 (a0 : List AV) (a1_0 : AV) (a1_1 : AV) : Bool := decide ((v164_0 a0 a1_0 a1_1) ≥ 0)
theorem e144 (a0 : List AV) (a1_0 : AV) (a1_1 : AV) : funA c144 0 144 [AV.sl [.int .i64] a0, AV.fn 145 [AV.rptr [.int .i64] a1_0 0, AV.rptr [.int .i64] a1_1 0]] = (bif q164 a0 a1_0 a1_1 then some (AV.bool (decide ((v164_0 a0 a1_0 a1_1) ≥ 0)))
  else none) := by kernel_rfl
theorem r144 (a0 : List AV) (a1_0 : AV) (a1_1 : AV) (h : q144 a0 a1_0 a1_1 = true) : funA c144 0 144 [AV.sl [.int .i64] a0, AV.fn 145 [AV.rptr [.int .i64] a1_0 0, AV.rptr [.int .i64] a1_1 0]] = some (AV.bool (v144_0 a0 a1_0 a1_1)) := (e144 a0 a1_0 a1_1).trans ((brL1 (fun _ => rfl)) h)
def m144 : TModel
  | [.sl g0 a0, .fn g1 [.rptr g2 a1_0 g3, .rptr g4 a1_1 g5]] => bif ctsEq g0 ([.int .i64]) && Nat.beq g1 145 && ctsEq g2 ([.int .i64]) && Nat.beq g3 0 && ctsEq g4 ([.int .i64]) && Nat.beq g5 0 then some (q144 a0 a1_0 a1_1, AV.bool (v144_0 a0 a1_0 a1_1)) else none
  | _ => none
theorem k144 : Known Try.prog 144 := ⟨Try.f144, Try.func144, by kernel_rfl, by kernel_rfl⟩
theorem meets144 : Meets Try.prog 144 m144 := by
  refine meet (f := Try.f144) (l := []) (hs := [(144, 999, [4])]) (ts := [(164, m164)]) (ws := []) (is := []) (ls := []) (lvl := 0) mixed k144 Try.func144 (by kernel_rfl) noLoop (allT_cons meets164 allT_nil) allM_nil noI fun w xs us r hl hv h => ?_
  unfold m144 at h
  split at h
  · rename_i g0 a0 g1 g2 a1_0 g3 g4 a1_1 g5
    obtain ⟨hg, h⟩ := bif_pair h
    simp only [Bool.and_eq_true] at hg
    obtain ⟨⟨⟨⟨⟨q0, q1⟩, q2⟩, q3⟩, q4⟩, q5⟩ := hg
    obtain rfl := ctsEq_eq _ _ q0
    obtain rfl := Nat.eq_of_beq_eq_true q1
    obtain rfl := ctsEq_eq _ _ q2
    obtain rfl := Nat.eq_of_beq_eq_true q3
    obtain rfl := ctsEq_eq _ _ q4
    obtain rfl := Nat.eq_of_beq_eq_true q5
    obtain ⟨h1, rfl⟩ := pair_inj h
    exact r144 a0 a1_0 a1_1 h1
  · cases h

/-! ### 110 loop.example/g01984/impl.within -/
noncomputable def c110 : Cfg := cfg Try.prog [(110, 999, [6])] [(144, m144)] [] [] []
def q110 (a0 : List AV) (a1 : Int) (a2 : Int) : Bool := q144 a0 (AV.int .i64 a1) (AV.int .i64 a2)
def v110_0 (a0 : List AV) (a1 : Int) (a2 : Int) : Bool := !(v144_0 a0 (AV.int .i64 a1) (AV.int .i64 a2))
theorem e110 (a0 : List AV) (a1 : Int) (a2 : Int) : funA c110 0 110 [AV.sl [.int .i64] a0, AV.int .i64 a1, AV.int .i64 a2] = (bif q144 a0 (AV.int .i64 a1) (AV.int .i64 a2) then some (AV.bool (!(v144_0 a0 (AV.int .i64 a1) (AV.int .i64 a2))))
  else none) := by kernel_rfl
theorem r110 (a0 : List AV) (a1 : Int) (a2 : Int) (h : q110 a0 a1 a2 = true) : funA c110 0 110 [AV.sl [.int .i64] a0, AV.int .i64 a1, AV.int .i64 a2] = some (AV.bool (v110_0 a0 a1 a2)) := (e110 a0 a1 a2).trans ((brL1 (fun _ => rfl)) h)
def m110 : TModel
  | [.sl g0 a0, .int .i64 a1, .int .i64 a2] => bif ctsEq g0 ([.int .i64]) then some (q110 a0 a1 a2, AV.bool (v110_0 a0 a1 a2)) else none
  | _ => none
theorem k110 : Known Try.prog 110 := ⟨Try.f110, Try.func110, by kernel_rfl, by kernel_rfl⟩
theorem meets110 : Meets Try.prog 110 m110 := by
  refine meet (f := Try.f110) (l := []) (hs := [(110, 999, [6])]) (ts := [(144, m144)]) (ws := []) (is := []) (ls := []) (lvl := 0) mixed k110 Try.func110 (by kernel_rfl) noLoop (allT_cons meets144 allT_nil) allM_nil noI fun w xs us r hl hv h => ?_
  unfold m110 at h
  split at h
  · rename_i g0 a0 a1 a2
    obtain ⟨hg, h⟩ := bif_pair h
    have q0 := hg
    obtain rfl := ctsEq_eq _ _ q0
    obtain ⟨h1, rfl⟩ := pair_inj h
    exact r110 a0 a1 a2 h1
  · cases h

/-! ### 74 loop.example/g01984/impl.AreValues -/
noncomputable def c74 : Cfg := cfg Try.prog [(74, 999, [2])] [(110, m110)] [] [] []
def q74 (a0 : List AV) : Bool := (bif decide ((a0.length : Int) ≤ 64) then q110 a0 (-999) 999 else true)
def v74_0 (a0 : List AV) : Bool := (bif decide ((a0.length : Int) ≤ 64) then (v110_0 a0 (-999) 999) else false)
theorem e74 (a0 : List AV) : funA c74 0 74 [AV.sl [.int .i64] a0] = (bif decide ((a0.length : Int) ≤ 64) then (bif q110 a0 (-999) 999 then some (AV.bool (v110_0 a0 (-999) 999))
   else none)
  else some (AV.bool false)) := by kernel_rfl
theorem r74 (a0 : List AV) (h : q74 a0 = true) : funA c74 0 74 [AV.sl [.int .i64] a0] = some (AV.bool (v74_0 a0)) := (e74 a0).trans ((br (fun b => some (AV.bool (bif b then (v110_0 a0 (-999) 999) else false))) (brL1 (fun _ => rfl)) (fun _ => rfl)) h)
def m74 : TModel
  | [.sl g0 a0] => bif ctsEq g0 ([.int .i64]) then some (q74 a0, AV.bool (v74_0 a0)) else none
  | _ => none
theorem k74 : Known Try.prog 74 := ⟨Try.f74, Try.func74, by kernel_rfl, by kernel_rfl⟩
theorem meets74 : Meets Try.prog 74 m74 := by
  refine meet (f := Try.f74) (l := []) (hs := [(74, 999, [2])]) (ts := [(110, m110)]) (ws := []) (is := []) (ls := []) (lvl := 0) mixed k74 Try.func74 (by kernel_rfl) noLoop (allT_cons meets110 allT_nil) allM_nil noI fun w xs us r hl hv h => ?_
  unfold m74 at h
  split at h
  · rename_i g0 a0
    obtain ⟨hg, h⟩ := bif_pair h
    have q0 := hg
    obtain rfl := ctsEq_eq _ _ q0
    obtain ⟨h1, rfl⟩ := pair_inj h
    exact r74 a0 h1
  · cases h

/-! ### 121 slices.Clone[[]int,int] -/
noncomputable def c121 : Cfg := cfg Try.prog [(121, 999, [2])] [] [] [] []
def q121 (a0 : List AV) : Bool := decide (a0.length * 8 ≤ 140737488355328) && decide (a0.length ≤ 140737488355328)
def v121_0 (a0 : List AV) : List AV := a0
theorem e121 (a0 : List AV) : funA c121 0 121 [AV.sl [.int .i64] a0] = (bif decide (0 < a0.length) then (bif (decide ((([] : List AV).length + a0.length) * 8 ≤ 140737488355328) && decide ((([] : List AV).length + a0.length) ≤ 140737488355328)) then some (AV.fl [.int .i64] (([] : List AV) ++ a0))
   else none)
  else none) := by kernel_rfl
theorem e121n (b : Bool) : funA c121 0 121 [AV.sle b [.int .i64]] = some (AV.fl [.int .i64] []) := by cases b <;> kernel_rfl
def m121 : TModel
  | [.sl g0 a0] => bif ctsEq g0 [.int .i64] then some (q121 a0, AV.fl [.int .i64] (v121_0 a0)) else none
  | _ => none
theorem k121 : Known Try.prog 121 := ⟨Try.f121, Try.func121, by kernel_rfl, by kernel_rfl⟩
theorem meets121 : Meets Try.prog 121 m121 := by
  refine meet_nil (f := Try.f121) (l := []) (hs := [(121, 999, [2])]) (ts := []) (ws := []) (is := []) (ls := []) (lvl := 0) (tys := [.int .i64]) mixed k121 Try.func121 (by kernel_rfl) noLoop allT_nil allM_nil noI (fun xs r h => ?_) (fun b r h => ?_) (fun ys r h0 h => ?_)
  · unfold m121 at h
    split at h
    · rename_i g0 a0
      obtain ⟨hg, h⟩ := bif_pair h
      obtain rfl := ctsEq_eq _ _ hg
      exact ⟨a0, rfl⟩
    · cases h
  · obtain ⟨hg, h⟩ := bif_pair (g := ctsEq [.int .i64] [.int .i64]) h
    obtain ⟨_, rfl⟩ := pair_inj h
    exact e121n b
  · obtain ⟨hg, h⟩ := bif_pair (g := ctsEq [.int .i64] [.int .i64]) h
    obtain ⟨hq, rfl⟩ := pair_inj h
    refine (e121 ys).trans ?_
    unfold q121 at hq
    have e : ([] : List AV).length + ys.length = ys.length := by simp
    rw [e, hq, decide_eq_true h0]
    rfl

/-! ### 86 loop.example/g01984/impl.NewCracker -/
def F86_0_s0 (t13 : Int) (h0 : List AV) (t14 : Int) : Out (Int ⊕ (Int × (List AV))) (Unit ⊕ ((List AV))) := (bif decide (t14 < t13) then (bif (decide ((([AV.int .i64 t14]).length) * 8 ≤ 140737488355328) && decide ((([AV.int .i64 t14]).length) ≤ 140737488355328)) then .next (.inr (IntKind.i64.wrap (t14 + 1), [AV.int .i64 t14]))
   else .fail)
  else .stop (.inl ()))
def F86_0_s1 (t13 : Int) (h0 : List AV) (t14 : Int) (h1 : List AV) : Out (Int ⊕ (Int × (List AV))) (Unit ⊕ ((List AV))) := (bif decide (t14 < t13) then (bif (decide ((h1.length + ([AV.int .i64 t14]).length) * 8 ≤ 140737488355328) && decide ((h1.length + ([AV.int .i64 t14]).length) ≤ 140737488355328)) then .next (.inr (IntKind.i64.wrap (t14 + 1), h1 ++ ([AV.int .i64 t14])))
   else .fail)
  else .stop (.inr h1))
def R86_0 (t13 : Int) (h0 : List AV) : (Int ⊕ (Int × (List AV))) → Out (Int ⊕ (Int × (List AV))) (Unit ⊕ ((List AV))) := sumE (fun s : Int => F86_0_s0 t13 h0 s) (fun s : Int × (List AV) => F86_0_s1 t13 h0 s.1 s.2)
def l86_0 : LModel := fun _ _ st k => match st with
  | ⟨[(2, .ptr g0 g1 g2), (3, .ptr g3 g4 g5), (13, .int .i64 t13), (14, .int .i64 t14)], [(g6, ⟨false, g7, h0⟩), (g8, ⟨true, [], [.agg [.snil, .snil, .snil]]⟩), (g9, ⟨true, [], [.agg [.own g10, .snil, .snil]]⟩)]⟩ => bif nmEq g0 ([0, 2]) && Nat.beq g1 0 && Nat.beq g2 0 && nmEq g3 ([0, 3]) && Nat.beq g4 0 && Nat.beq g5 0 && nmEq g6 ([0, 0, 3]) && ctsEq g7 ([.int .i64]) && nmEq g8 ([0, 2]) && nmEq g9 ([0, 3]) && nmEq g10 ([0, 0, 3]) then ro (runW (R86_0 t13 h0) ((t13 - t14).toNat + 1) (.inl t14)) none (sumE (fun _ : Unit => k (.exit 0) ⟨[(2, AV.ptr [0, 2] 0 0), (3, AV.ptr [0, 3] 0 0)], [([0, 0, 3], ⟨false, [.int .i64], h0⟩), ([0, 2], ⟨true, [], [AV.agg [AV.snil, AV.snil, AV.snil]]⟩), ([0, 3], ⟨true, [], [AV.agg [AV.own [0, 0, 3], AV.snil, AV.snil]]⟩)]⟩) (fun p : (List AV) => k (.exit 0) ⟨[(2, AV.ptr [0, 2] 0 0), (3, AV.ptr [0, 3] 0 0)], [([0, 0, 3], ⟨false, [.int .i64], h0⟩), ([0, 1, 3], ⟨false, [.int .i64], p⟩), ([0, 2], ⟨true, [], [AV.agg [AV.snil, AV.snil, AV.snil]]⟩), ([0, 3], ⟨true, [], [AV.agg [AV.own [0, 0, 3], AV.own [0, 1, 3], AV.snil]]⟩)]⟩)) else none
  | ⟨[(2, .ptr g0 g1 g2), (3, .ptr g3 g4 g5), (13, .int .i64 t13), (14, .int .i64 t14)], [(g6, ⟨false, g7, h0⟩), (g8, ⟨false, g9, h1⟩), (g10, ⟨true, [], [.agg [.snil, .snil, .snil]]⟩), (g11, ⟨true, [], [.agg [.own g12, .own g13, .snil]]⟩)]⟩ => bif nmEq g0 ([0, 2]) && Nat.beq g1 0 && Nat.beq g2 0 && nmEq g3 ([0, 3]) && Nat.beq g4 0 && Nat.beq g5 0 && nmEq g6 ([0, 0, 3]) && ctsEq g7 ([.int .i64]) && nmEq g8 ([0, 1, 3]) && ctsEq g9 ([.int .i64]) && nmEq g10 ([0, 2]) && nmEq g11 ([0, 3]) && nmEq g12 ([0, 0, 3]) && nmEq g13 ([0, 1, 3]) then ro (runW (R86_0 t13 h0) ((t13 - t14).toNat + 1) (.inr (t14, h1))) none (sumE (fun _ : Unit => k (.exit 0) ⟨[(2, AV.ptr [0, 2] 0 0), (3, AV.ptr [0, 3] 0 0)], [([0, 0, 3], ⟨false, [.int .i64], h0⟩), ([0, 2], ⟨true, [], [AV.agg [AV.snil, AV.snil, AV.snil]]⟩), ([0, 3], ⟨true, [], [AV.agg [AV.own [0, 0, 3], AV.snil, AV.snil]]⟩)]⟩) (fun p : (List AV) => k (.exit 0) ⟨[(2, AV.ptr [0, 2] 0 0), (3, AV.ptr [0, 3] 0 0)], [([0, 0, 3], ⟨false, [.int .i64], h0⟩), ([0, 1, 3], ⟨false, [.int .i64], p⟩), ([0, 2], ⟨true, [], [AV.agg [AV.snil, AV.snil, AV.snil]]⟩), ([0, 3], ⟨true, [], [AV.agg [AV.own [0, 0, 3], AV.own [0, 1, 3], AV.snil]]⟩)]⟩)) else none
  | _ => none
noncomputable def c86 : Cfg := cfg Try.prog [(86, 0, [2, 3, 13, 14]), (86, 999, [2]), (86, 1000, [2, 3]), (86, 1001, [2, 3, 13, 14])] [(74, m74), (121, m121)] [] [] [(86, 0, l86_0)]
theorem s86_0_s0 (ce : CallE) (t13 : Int) (t14 : Int) (h0 : List AV) (next : St → Option AV) (k : Kont) : stepA (codeA c86 ce [] 86 0 (sub [1, 1, 1, 0, 1, 0, 0] (body Try.f86))) (normA [] [2, 3, 13, 14]) next ⟨[(2, AV.ptr [0, 2] 0 0), (3, AV.ptr [0, 3] 0 0), (13, AV.int .i64 t13), (14, AV.int .i64 t14)], [([0, 0, 3], ⟨false, [.int .i64], h0⟩), ([0, 2], ⟨true, [], [AV.agg [AV.snil, AV.snil, AV.snil]]⟩), ([0, 3], ⟨true, [], [AV.agg [AV.own [0, 0, 3], AV.snil, AV.snil]]⟩)]⟩ k = (bif decide (t14 < t13) then (bif (decide ((([AV.int .i64 t14]).length) * 8 ≤ 140737488355328) && decide ((([AV.int .i64 t14]).length) ≤ 140737488355328)) then next ⟨[(2, AV.ptr [0, 2] 0 0), (3, AV.ptr [0, 3] 0 0), (13, AV.int .i64 t13), (14, AV.int .i64 (IntKind.i64.wrap (t14 + 1)))], [([0, 0, 3], ⟨false, [.int .i64], h0⟩), ([0, 1, 3], ⟨false, [.int .i64], [AV.int .i64 t14]⟩), ([0, 2], ⟨true, [], [AV.agg [AV.snil, AV.snil, AV.snil]]⟩), ([0, 3], ⟨true, [], [AV.agg [AV.own [0, 0, 3], AV.own [0, 1, 3], AV.snil]]⟩)]⟩
   else none)
  else k (.exit 0) ⟨[(2, AV.ptr [0, 2] 0 0), (3, AV.ptr [0, 3] 0 0)], [([0, 0, 3], ⟨false, [.int .i64], h0⟩), ([0, 2], ⟨true, [], [AV.agg [AV.snil, AV.snil, AV.snil]]⟩), ([0, 3], ⟨true, [], [AV.agg [AV.own [0, 0, 3], AV.snil, AV.snil]]⟩)]⟩) := by kernel_rfl
theorem s86_0_s1 (ce : CallE) (t13 : Int) (t14 : Int) (h0 : List AV) (h1 : List AV) (next : St → Option AV) (k : Kont) : stepA (codeA c86 ce [] 86 0 (sub [1, 1, 1, 0, 1, 0, 0] (body Try.f86))) (normA [] [2, 3, 13, 14]) next ⟨[(2, AV.ptr [0, 2] 0 0), (3, AV.ptr [0, 3] 0 0), (13, AV.int .i64 t13), (14, AV.int .i64 t14)], [([0, 0, 3], ⟨false, [.int .i64], h0⟩), ([0, 1, 3], ⟨false, [.int .i64], h1⟩), ([0, 2], ⟨true, [], [AV.agg [AV.snil, AV.snil, AV.snil]]⟩), ([0, 3], ⟨true, [], [AV.agg [AV.own [0, 0, 3], AV.own [0, 1, 3], AV.snil]]⟩)]⟩ k = (bif decide (t14 < t13) then (bif (decide ((h1.length + ([AV.int .i64 t14]).length) * 8 ≤ 140737488355328) && decide ((h1.length + ([AV.int .i64 t14]).length) ≤ 140737488355328)) then next ⟨[(2, AV.ptr [0, 2] 0 0), (3, AV.ptr [0, 3] 0 0), (13, AV.int .i64 t13), (14, AV.int .i64 (IntKind.i64.wrap (t14 + 1)))], [([0, 0, 3], ⟨false, [.int .i64], h0⟩), ([0, 1, 3], ⟨false, [.int .i64], h1 ++ ([AV.int .i64 t14])⟩), ([0, 2], ⟨true, [], [AV.agg [AV.snil, AV.snil, AV.snil]]⟩), ([0, 3], ⟨true, [], [AV.agg [AV.own [0, 0, 3], AV.own [0, 1, 3], AV.snil]]⟩)]⟩
   else none)
  else k (.exit 0) ⟨[(2, AV.ptr [0, 2] 0 0), (3, AV.ptr [0, 3] 0 0)], [([0, 0, 3], ⟨false, [.int .i64], h0⟩), ([0, 1, 3], ⟨false, [.int .i64], h1⟩), ([0, 2], ⟨true, [], [AV.agg [AV.snil, AV.snil, AV.snil]]⟩), ([0, 3], ⟨true, [], [AV.agg [AV.own [0, 0, 3], AV.own [0, 1, 3], AV.snil]]⟩)]⟩) := by kernel_rfl
theorem st86_0 (t13 : Int) (h0 : List AV) (ce : CallE) (k : Kont) (s : Int ⊕ (Int × (List AV))) (next : St → Option AV) : stepA (codeA c86 ce [] 86 0 (sub [1, 1, 1, 0, 1, 0, 0] (body Try.f86))) (normA [] [2, 3, 13, 14]) next ((sumE (fun s : Int => ⟨[(2, AV.ptr [0, 2] 0 0), (3, AV.ptr [0, 3] 0 0), (13, AV.int .i64 t13), (14, AV.int .i64 s)], [([0, 0, 3], ⟨false, [.int .i64], h0⟩), ([0, 2], ⟨true, [], [AV.agg [AV.snil, AV.snil, AV.snil]]⟩), ([0, 3], ⟨true, [], [AV.agg [AV.own [0, 0, 3], AV.snil, AV.snil]]⟩)]⟩) (fun s : Int × (List AV) => ⟨[(2, AV.ptr [0, 2] 0 0), (3, AV.ptr [0, 3] 0 0), (13, AV.int .i64 t13), (14, AV.int .i64 s.1)], [([0, 0, 3], ⟨false, [.int .i64], h0⟩), ([0, 1, 3], ⟨false, [.int .i64], s.2⟩), ([0, 2], ⟨true, [], [AV.agg [AV.snil, AV.snil, AV.snil]]⟩), ([0, 3], ⟨true, [], [AV.agg [AV.own [0, 0, 3], AV.own [0, 1, 3], AV.snil]]⟩)]⟩)) s) k = (R86_0 t13 h0 s).el none (fun s => next ((sumE (fun s : Int => ⟨[(2, AV.ptr [0, 2] 0 0), (3, AV.ptr [0, 3] 0 0), (13, AV.int .i64 t13), (14, AV.int .i64 s)], [([0, 0, 3], ⟨false, [.int .i64], h0⟩), ([0, 2], ⟨true, [], [AV.agg [AV.snil, AV.snil, AV.snil]]⟩), ([0, 3], ⟨true, [], [AV.agg [AV.own [0, 0, 3], AV.snil, AV.snil]]⟩)]⟩) (fun s : Int × (List AV) => ⟨[(2, AV.ptr [0, 2] 0 0), (3, AV.ptr [0, 3] 0 0), (13, AV.int .i64 t13), (14, AV.int .i64 s.1)], [([0, 0, 3], ⟨false, [.int .i64], h0⟩), ([0, 1, 3], ⟨false, [.int .i64], s.2⟩), ([0, 2], ⟨true, [], [AV.agg [AV.snil, AV.snil, AV.snil]]⟩), ([0, 3], ⟨true, [], [AV.agg [AV.own [0, 0, 3], AV.own [0, 1, 3], AV.snil]]⟩)]⟩)) s)) (sumE (fun _ : Unit => k (.exit 0) ⟨[(2, AV.ptr [0, 2] 0 0), (3, AV.ptr [0, 3] 0 0)], [([0, 0, 3], ⟨false, [.int .i64], h0⟩), ([0, 2], ⟨true, [], [AV.agg [AV.snil, AV.snil, AV.snil]]⟩), ([0, 3], ⟨true, [], [AV.agg [AV.own [0, 0, 3], AV.snil, AV.snil]]⟩)]⟩) (fun p : (List AV) => k (.exit 0) ⟨[(2, AV.ptr [0, 2] 0 0), (3, AV.ptr [0, 3] 0 0)], [([0, 0, 3], ⟨false, [.int .i64], h0⟩), ([0, 1, 3], ⟨false, [.int .i64], p⟩), ([0, 2], ⟨true, [], [AV.agg [AV.snil, AV.snil, AV.snil]]⟩), ([0, 3], ⟨true, [], [AV.agg [AV.own [0, 0, 3], AV.own [0, 1, 3], AV.snil]]⟩)]⟩)) := (match s with | .inl s => (s86_0_s0 ce t13 s h0 next k).trans (by unfold R86_0; unfold F86_0_s0; simp only [el_cond, el_ro, el_sum, el_fail, el_next, el_stop] <;> rfl) | .inr s => (s86_0_s1 ce t13 s.1 h0 s.2 next k).trans (by unfold R86_0; unfold F86_0_s1; simp only [el_cond, el_ro, el_sum, el_fail, el_next, el_stop] <;> rfl))
theorem ok86_0 : LoopOK c86 [] 86 0 (sub [1, 1, 1, 0, 1, 0, 0] (body Try.f86)) := by
  intro m hm ce st k r h
  obtain rfl : l86_0 = m := Option.some.inj hm
  unfold l86_0 at h
  split at h
  · rename_i g0 g1 g2 g3 g4 g5 t13 t14 g6 g7 h0 g8 g9 g10
    obtain ⟨hg, h⟩ := bif_some h
    simp only [Bool.and_eq_true] at hg
    obtain ⟨⟨⟨⟨⟨⟨⟨⟨⟨⟨q0, q1⟩, q2⟩, q3⟩, q4⟩, q5⟩, q6⟩, q7⟩, q8⟩, q9⟩, q10⟩ := hg
    obtain rfl := (nmEq_iff _ _).1 q0
    obtain rfl := Nat.eq_of_beq_eq_true q1
    obtain rfl := Nat.eq_of_beq_eq_true q2
    obtain rfl := (nmEq_iff _ _).1 q3
    obtain rfl := Nat.eq_of_beq_eq_true q4
    obtain rfl := Nat.eq_of_beq_eq_true q5
    obtain rfl := (nmEq_iff _ _).1 q6
    obtain rfl := ctsEq_eq _ _ q7
    obtain rfl := (nmEq_iff _ _).1 q8
    obtain rfl := (nmEq_iff _ _).1 q9
    obtain rfl := (nmEq_iff _ _).1 q10
    refine ⟨((t13 - t14).toNat + 1), ?_⟩
    rw [← h]
    exact loop_run (sumE (fun s : Int => ⟨[(2, AV.ptr [0, 2] 0 0), (3, AV.ptr [0, 3] 0 0), (13, AV.int .i64 t13), (14, AV.int .i64 s)], [([0, 0, 3], ⟨false, [.int .i64], h0⟩), ([0, 2], ⟨true, [], [AV.agg [AV.snil, AV.snil, AV.snil]]⟩), ([0, 3], ⟨true, [], [AV.agg [AV.own [0, 0, 3], AV.snil, AV.snil]]⟩)]⟩) (fun s : Int × (List AV) => ⟨[(2, AV.ptr [0, 2] 0 0), (3, AV.ptr [0, 3] 0 0), (13, AV.int .i64 t13), (14, AV.int .i64 s.1)], [([0, 0, 3], ⟨false, [.int .i64], h0⟩), ([0, 1, 3], ⟨false, [.int .i64], s.2⟩), ([0, 2], ⟨true, [], [AV.agg [AV.snil, AV.snil, AV.snil]]⟩), ([0, 3], ⟨true, [], [AV.agg [AV.own [0, 0, 3], AV.own [0, 1, 3], AV.snil]]⟩)]⟩)) (sumE (fun _ : Unit => k (.exit 0) ⟨[(2, AV.ptr [0, 2] 0 0), (3, AV.ptr [0, 3] 0 0)], [([0, 0, 3], ⟨false, [.int .i64], h0⟩), ([0, 2], ⟨true, [], [AV.agg [AV.snil, AV.snil, AV.snil]]⟩), ([0, 3], ⟨true, [], [AV.agg [AV.own [0, 0, 3], AV.snil, AV.snil]]⟩)]⟩) (fun p : (List AV) => k (.exit 0) ⟨[(2, AV.ptr [0, 2] 0 0), (3, AV.ptr [0, 3] 0 0)], [([0, 0, 3], ⟨false, [.int .i64], h0⟩), ([0, 1, 3], ⟨false, [.int .i64], p⟩), ([0, 2], ⟨true, [], [AV.agg [AV.snil, AV.snil, AV.snil]]⟩), ([0, 3], ⟨true, [], [AV.agg [AV.own [0, 0, 3], AV.own [0, 1, 3], AV.snil]]⟩)]⟩)) (st86_0 t13 h0 ce k) _ (.inl t14)
  · rename_i g0 g1 g2 g3 g4 g5 t13 t14 g6 g7 h0 g8 g9 h1 g10 g11 g12 g13
    obtain ⟨hg, h⟩ := bif_some h
    simp only [Bool.and_eq_true] at hg
    obtain ⟨⟨⟨⟨⟨⟨⟨⟨⟨⟨⟨⟨⟨q0, q1⟩, q2⟩, q3⟩, q4⟩, q5⟩, q6⟩, q7⟩, q8⟩, q9⟩, q10⟩, q11⟩, q12⟩, q13⟩ := hg
    obtain rfl := (nmEq_iff _ _).1 q0
    obtain rfl := Nat.eq_of_beq_eq_true q1
    obtain rfl := Nat.eq_of_beq_eq_true q2
    obtain rfl := (nmEq_iff _ _).1 q3
    obtain rfl := Nat.eq_of_beq_eq_true q4
    obtain rfl := Nat.eq_of_beq_eq_true q5
    obtain rfl := (nmEq_iff _ _).1 q6
    obtain rfl := ctsEq_eq _ _ q7
    obtain rfl := (nmEq_iff _ _).1 q8
    obtain rfl := ctsEq_eq _ _ q9
    obtain rfl := (nmEq_iff _ _).1 q10
    obtain rfl := (nmEq_iff _ _).1 q11
    obtain rfl := (nmEq_iff _ _).1 q12
    obtain rfl := (nmEq_iff _ _).1 q13
    refine ⟨((t13 - t14).toNat + 1), ?_⟩
    rw [← h]
    exact loop_run (sumE (fun s : Int => ⟨[(2, AV.ptr [0, 2] 0 0), (3, AV.ptr [0, 3] 0 0), (13, AV.int .i64 t13), (14, AV.int .i64 s)], [([0, 0, 3], ⟨false, [.int .i64], h0⟩), ([0, 2], ⟨true, [], [AV.agg [AV.snil, AV.snil, AV.snil]]⟩), ([0, 3], ⟨true, [], [AV.agg [AV.own [0, 0, 3], AV.snil, AV.snil]]⟩)]⟩) (fun s : Int × (List AV) => ⟨[(2, AV.ptr [0, 2] 0 0), (3, AV.ptr [0, 3] 0 0), (13, AV.int .i64 t13), (14, AV.int .i64 s.1)], [([0, 0, 3], ⟨false, [.int .i64], h0⟩), ([0, 1, 3], ⟨false, [.int .i64], s.2⟩), ([0, 2], ⟨true, [], [AV.agg [AV.snil, AV.snil, AV.snil]]⟩), ([0, 3], ⟨true, [], [AV.agg [AV.own [0, 0, 3], AV.own [0, 1, 3], AV.snil]]⟩)]⟩)) (sumE (fun _ : Unit => k (.exit 0) ⟨[(2, AV.ptr [0, 2] 0 0), (3, AV.ptr [0, 3] 0 0)], [([0, 0, 3], ⟨false, [.int .i64], h0⟩), ([0, 2], ⟨true, [], [AV.agg [AV.snil, AV.snil, AV.snil]]⟩), ([0, 3], ⟨true, [], [AV.agg [AV.own [0, 0, 3], AV.snil, AV.snil]]⟩)]⟩) (fun p : (List AV) => k (.exit 0) ⟨[(2, AV.ptr [0, 2] 0 0), (3, AV.ptr [0, 3] 0 0)], [([0, 0, 3], ⟨false, [.int .i64], h0⟩), ([0, 1, 3], ⟨false, [.int .i64], p⟩), ([0, 2], ⟨true, [], [AV.agg [AV.snil, AV.snil, AV.snil]]⟩), ([0, 3], ⟨true, [], [AV.agg [AV.own [0, 0, 3], AV.own [0, 1, 3], AV.snil]]⟩)]⟩)) (st86_0 t13 h0 ce k) _ (.inr (t14, h1))
  · cases h
def q86 (a0 : List AV) : Bool := (q74 a0 && (bif !(v74_0 a0) then true else (q121 a0 && (ro (runW (R86_0 (a0.length : Int) (v121_0 a0)) (((a0.length : Int) - 0).toNat + 1) (.inl 0)) false (sumE (fun _ => true) (fun p11 => true))))))
def v86_0 (a0 : List AV) : List AV := (bif !(v74_0 a0) then ([] : List AV) else (v121_0 a0))
def v86_1 (a0 : List AV) : List AV := (bif !(v74_0 a0) then ([] : List AV) else (ro (runW (R86_0 (a0.length : Int) (v121_0 a0)) (((a0.length : Int) - 0).toNat + 1) (.inl 0)) [] (sumE (fun _ => ([] : List AV)) (fun p11 => p11))))
def v86_2 (a0 : List AV) : List AV := ([] : List AV)
theorem e86 (a0 : List AV) : funA c86 0 86 [AV.sl [.int .i64] a0] = (bif q74 a0 then (bif !(v74_0 a0) then some (AV.agg [AV.fl [.int .i64] ([] : List AV), AV.fl [.int .i64] ([] : List AV), AV.fl [.int .i64, .int .i64] ([] : List AV)])
   else (bif q121 a0 then (ro (runW (R86_0 (a0.length : Int) (v121_0 a0)) (((a0.length : Int) - 0).toNat + 1) (.inl 0)) none (sumE (fun _ => some (AV.agg [AV.fl [.int .i64] (v121_0 a0), AV.fl [.int .i64] ([] : List AV), AV.fl [.int .i64, .int .i64] ([] : List AV)])) (fun p11 => some (AV.agg [AV.fl [.int .i64] (v121_0 a0), AV.fl [.int .i64] p11, AV.fl [.int .i64, .int .i64] ([] : List AV)]))))
    else none))
  else none) := by kernel_rfl
theorem r86 (a0 : List AV) (h : q86 a0 = true) : funA c86 0 86 [AV.sl [.int .i64] a0] = some (AV.agg [AV.fl [.int .i64] (v86_0 a0), AV.fl [.int .i64] (v86_1 a0), AV.fl [.int .i64, .int .i64] (v86_2 a0)]) := (e86 a0).trans ((brL (br (fun b => some (AV.agg [AV.fl [.int .i64] (bif b then ([] : List AV) else (v121_0 a0)), AV.fl [.int .i64] (bif b then ([] : List AV) else (ro (runW (R86_0 (a0.length : Int) (v121_0 a0)) (((a0.length : Int) - 0).toNat + 1) (.inl 0)) [] (sumE (fun _ => ([] : List AV)) (fun p11 => p11)))), AV.fl [.int .i64, .int .i64] ([] : List AV)])) (fun _ => rfl) (brL (brO (fun o : Option (Unit ⊕ ((List AV))) => some (AV.agg [AV.fl [.int .i64] (v121_0 a0), AV.fl [.int .i64] (ro o [] (sumE (fun _ => ([] : List AV)) (fun p11 => p11))), AV.fl [.int .i64, .int .i64] ([] : List AV)])) (brS (fun o : Unit ⊕ ((List AV)) => some (AV.agg [AV.fl [.int .i64] (v121_0 a0), AV.fl [.int .i64] ((sumE (fun _ => ([] : List AV)) (fun p11 => p11)) o), AV.fl [.int .i64, .int .i64] ([] : List AV)])) (fun _ => (fun _ => rfl)) (fun p11 => (fun _ => rfl))))))) h)
def m86 : TModel
  | [.sl g0 a0] => bif ctsEq g0 ([.int .i64]) then some (q86 a0, AV.agg [AV.fl [.int .i64] (v86_0 a0), AV.fl [.int .i64] (v86_1 a0), AV.fl [.int .i64, .int .i64] (v86_2 a0)]) else none
  | _ => none
theorem k86 : Known Try.prog 86 := ⟨Try.f86, Try.func86, by kernel_rfl, by kernel_rfl⟩
theorem meets86 : Meets Try.prog 86 m86 := by
  refine meet (f := Try.f86) (l := [(0, sub [1, 1, 1, 0, 1, 0, 0] (body Try.f86))]) (hs := [(86, 0, [2, 3, 13, 14]), (86, 999, [2]), (86, 1000, [2, 3]), (86, 1001, [2, 3, 13, 14])]) (ts := [(74, m74), (121, m121)]) (ws := []) (is := []) (ls := [(86, 0, l86_0)]) (lvl := 0) mixed k86 Try.func86 (by kernel_rfl) (loops_cons ok86_0 noLoop) (allT_cons meets74 (allT_cons meets121 allT_nil)) allM_nil noI fun w xs us r hl hv h => ?_
  unfold m86 at h
  split at h
  · rename_i g0 a0
    obtain ⟨hg, h⟩ := bif_pair h
    have q0 := hg
    obtain rfl := ctsEq_eq _ _ q0
    obtain ⟨h1, rfl⟩ := pair_inj h
    exact r86 a0 h1
  · cases h

/-! ### 52 loop.example/g01984/impl.NewStore -/
def F52_0_s0 (t13 : List AV) (t14 : Int) (t15 : Int) (h0 : Int) (h1 : List AV) (h2 : Int) (h3 : List AV) (h4 : List AV) : Out ((Int × Int × (List AV) × Int × (List AV) × (List AV)) ⊕ (Int × (List AV) × Int × (List AV) × Int × (List AV) × (List AV))) ((Int × (List AV) × Int × (List AV) × (List AV)) ⊕ ((List AV) × Int × (List AV) × Int × (List AV) × (List AV))) := (bif decide (t15 < t14) then (bif (decide (0 ≤ t15) && decide (t15 < (t13.length : Int))) then (bif (decide ((([AV.agg [AV.int .i64 (fI (t13.getD t15.toNat AV.undef) 0), AV.int .i64 t15, AV.int .i64 0, AV.int .i64 (-1)]]).length) * 32 ≤ 140737488355328) && decide ((([AV.agg [AV.int .i64 (fI (t13.getD t15.toNat AV.undef) 0), AV.int .i64 t15, AV.int .i64 0, AV.int .i64 (-1)]]).length) ≤ 140737488355328)) then .next (.inr (IntKind.i64.wrap (t15 + 1), [AV.agg [AV.int .i64 (fI (t13.getD t15.toNat AV.undef) 0), AV.int .i64 t15, AV.int .i64 0, AV.int .i64 (-1)]], h0, h1, h2, h3, h4))
    else .fail)
   else .fail)
  else .stop (.inl (h0, h1, h2, h3, h4)))
def F52_0_s1 (t13 : List AV) (t14 : Int) (t15 : Int) (h0 : List AV) (h1 : Int) (h2 : List AV) (h3 : Int) (h4 : List AV) (h5 : List AV) : Out ((Int × Int × (List AV) × Int × (List AV) × (List AV)) ⊕ (Int × (List AV) × Int × (List AV) × Int × (List AV) × (List AV))) ((Int × (List AV) × Int × (List AV) × (List AV)) ⊕ ((List AV) × Int × (List AV) × Int × (List AV) × (List AV))) := (bif decide (t15 < t14) then (bif (decide (0 ≤ t15) && decide (t15 < (t13.length : Int))) then (bif (decide ((h0.length + ([AV.agg [AV.int .i64 (fI (t13.getD t15.toNat AV.undef) 0), AV.int .i64 t15, AV.int .i64 0, AV.int .i64 (-1)]]).length) * 32 ≤ 140737488355328) && decide ((h0.length + ([AV.agg [AV.int .i64 (fI (t13.getD t15.toNat AV.undef) 0), AV.int .i64 t15, AV.int .i64 0, AV.int .i64 (-1)]]).length) ≤ 140737488355328)) then .next (.inr (IntKind.i64.wrap (t15 + 1), h0 ++ ([AV.agg [AV.int .i64 (fI (t13.getD t15.toNat AV.undef) 0), AV.int .i64 t15, AV.int .i64 0, AV.int .i64 (-1)]]), h1, h2, h3, h4, h5))
    else .fail)
   else .fail)
  else .stop (.inr (h0, h1, h2, h3, h4, h5)))
def R52_0 (t13 : List AV) (t14 : Int) : ((Int × Int × (List AV) × Int × (List AV) × (List AV)) ⊕ (Int × (List AV) × Int × (List AV) × Int × (List AV) × (List AV))) → Out ((Int × Int × (List AV) × Int × (List AV) × (List AV)) ⊕ (Int × (List AV) × Int × (List AV) × Int × (List AV) × (List AV))) ((Int × (List AV) × Int × (List AV) × (List AV)) ⊕ ((List AV) × Int × (List AV) × Int × (List AV) × (List AV))) := sumE (fun s : Int × Int × (List AV) × Int × (List AV) × (List AV) => F52_0_s0 t13 t14 s.1 s.2.1 s.2.2.1 s.2.2.2.1 s.2.2.2.2.1 s.2.2.2.2.2) (fun s : Int × (List AV) × Int × (List AV) × Int × (List AV) × (List AV) => F52_0_s1 t13 t14 s.1 s.2.1 s.2.2.1 s.2.2.2.1 s.2.2.2.2.1 s.2.2.2.2.2.1 s.2.2.2.2.2.2)
def l52_0 : LModel := fun _ _ st k => match st with
  | ⟨[(2, .ptr g0 g1 g2), (3, .ptr g3 g4 g5), (13, .sl g6 t13), (14, .int .i64 t14), (15, .int .i64 t15)], [(g7, ⟨true, [], [.agg [.snil, .int .i64 h0, .snil, .snil, .snil]]⟩), (g8, ⟨false, g9, h1⟩), (g10, ⟨true, [], [.agg [.snil, .int .i64 h2, .own g11, .own g12, .own g13]]⟩), (g14, ⟨false, g15, h3⟩), (g16, ⟨false, g17, h4⟩)]⟩ => bif nmEq g0 ([0, 2]) && Nat.beq g1 0 && Nat.beq g2 0 && nmEq g3 ([0, 3]) && Nat.beq g4 0 && Nat.beq g5 0 && ctsEq g6 ([.int .i64]) && nmEq g7 ([0, 2]) && nmEq g8 ([0, 2, 3]) && ctsEq g9 ([.int .i64]) && nmEq g10 ([0, 3]) && nmEq g11 ([0, 2, 3]) && nmEq g12 ([0, 3, 3]) && nmEq g13 ([0, 4, 3]) && nmEq g14 ([0, 3, 3]) && ctsEq g15 ([.int .i64]) && nmEq g16 ([0, 4, 3]) && ctsEq g17 ([.int .i64, .int .i64]) then ro (runW (R52_0 t13 t14) ((t14 - t15).toNat + 1) (.inl (t15, h0, h1, h2, h3, h4))) none (sumE (fun p : Int × (List AV) × Int × (List AV) × (List AV) => k (.exit 0) ⟨[(2, AV.ptr [0, 2] 0 0), (3, AV.ptr [0, 3] 0 0)], [([0, 2], ⟨true, [], [AV.agg [AV.snil, AV.int .i64 p.1, AV.snil, AV.snil, AV.snil]]⟩), ([0, 2, 3], ⟨false, [.int .i64], p.2.1⟩), ([0, 3], ⟨true, [], [AV.agg [AV.snil, AV.int .i64 p.2.2.1, AV.own [0, 2, 3], AV.own [0, 3, 3], AV.own [0, 4, 3]]]⟩), ([0, 3, 3], ⟨false, [.int .i64], p.2.2.2.1⟩), ([0, 4, 3], ⟨false, [.int .i64, .int .i64], p.2.2.2.2⟩)]⟩) (fun p : (List AV) × Int × (List AV) × Int × (List AV) × (List AV) => k (.exit 0) ⟨[(2, AV.ptr [0, 2] 0 0), (3, AV.ptr [0, 3] 0 0)], [([0, 0, 3], ⟨false, [.int .i64, .int .i64, .int .i64, .int .i64], p.1⟩), ([0, 2], ⟨true, [], [AV.agg [AV.snil, AV.int .i64 p.2.1, AV.snil, AV.snil, AV.snil]]⟩), ([0, 2, 3], ⟨false, [.int .i64], p.2.2.1⟩), ([0, 3], ⟨true, [], [AV.agg [AV.own [0, 0, 3], AV.int .i64 p.2.2.2.1, AV.own [0, 2, 3], AV.own [0, 3, 3], AV.own [0, 4, 3]]]⟩), ([0, 3, 3], ⟨false, [.int .i64], p.2.2.2.2.1⟩), ([0, 4, 3], ⟨false, [.int .i64, .int .i64], p.2.2.2.2.2⟩)]⟩)) else none
  | ⟨[(2, .ptr g0 g1 g2), (3, .ptr g3 g4 g5), (13, .sl g6 t13), (14, .int .i64 t14), (15, .int .i64 t15)], [(g7, ⟨false, g8, h0⟩), (g9, ⟨true, [], [.agg [.snil, .int .i64 h1, .snil, .snil, .snil]]⟩), (g10, ⟨false, g11, h2⟩), (g12, ⟨true, [], [.agg [.own g13, .int .i64 h3, .own g14, .own g15, .own g16]]⟩), (g17, ⟨false, g18, h4⟩), (g19, ⟨false, g20, h5⟩)]⟩ => bif nmEq g0 ([0, 2]) && Nat.beq g1 0 && Nat.beq g2 0 && nmEq g3 ([0, 3]) && Nat.beq g4 0 && Nat.beq g5 0 && ctsEq g6 ([.int .i64]) && nmEq g7 ([0, 0, 3]) && ctsEq g8 ([.int .i64, .int .i64, .int .i64, .int .i64]) && nmEq g9 ([0, 2]) && nmEq g10 ([0, 2, 3]) && ctsEq g11 ([.int .i64]) && nmEq g12 ([0, 3]) && nmEq g13 ([0, 0, 3]) && nmEq g14 ([0, 2, 3]) && nmEq g15 ([0, 3, 3]) && nmEq g16 ([0, 4, 3]) && nmEq g17 ([0, 3, 3]) && ctsEq g18 ([.int .i64]) && nmEq g19 ([0, 4, 3]) && ctsEq g20 ([.int .i64, .int .i64]) then ro (runW (R52_0 t13 t14) ((t14 - t15).toNat + 1) (.inr (t15, h0, h1, h2, h3, h4, h5))) none (sumE (fun p : Int × (List AV) × Int × (List AV) × (List AV) => k (.exit 0) ⟨[(2, AV.ptr [0, 2] 0 0), (3, AV.ptr [0, 3] 0 0)], [([0, 2], ⟨true, [], [AV.agg [AV.snil, AV.int .i64 p.1, AV.snil, AV.snil, AV.snil]]⟩), ([0, 2, 3], ⟨false, [.int .i64], p.2.1⟩), ([0, 3], ⟨true, [], [AV.agg [AV.snil, AV.int .i64 p.2.2.1, AV.own [0, 2, 3], AV.own [0, 3, 3], AV.own [0, 4, 3]]]⟩), ([0, 3, 3], ⟨false, [.int .i64], p.2.2.2.1⟩), ([0, 4, 3], ⟨false, [.int .i64, .int .i64], p.2.2.2.2⟩)]⟩) (fun p : (List AV) × Int × (List AV) × Int × (List AV) × (List AV) => k (.exit 0) ⟨[(2, AV.ptr [0, 2] 0 0), (3, AV.ptr [0, 3] 0 0)], [([0, 0, 3], ⟨false, [.int .i64, .int .i64, .int .i64, .int .i64], p.1⟩), ([0, 2], ⟨true, [], [AV.agg [AV.snil, AV.int .i64 p.2.1, AV.snil, AV.snil, AV.snil]]⟩), ([0, 2, 3], ⟨false, [.int .i64], p.2.2.1⟩), ([0, 3], ⟨true, [], [AV.agg [AV.own [0, 0, 3], AV.int .i64 p.2.2.2.1, AV.own [0, 2, 3], AV.own [0, 3, 3], AV.own [0, 4, 3]]]⟩), ([0, 3, 3], ⟨false, [.int .i64], p.2.2.2.2.1⟩), ([0, 4, 3], ⟨false, [.int .i64, .int .i64], p.2.2.2.2.2⟩)]⟩)) else none
  | _ => none
noncomputable def c52 : Cfg := cfg Try.prog [(52, 0, [2, 3, 13, 14, 15]), (52, 999, [2]), (52, 1000, [2, 3]), (52, 1001, [2, 3, 13, 14, 15])] [(74, m74), (86, m86)] [] [] [(52, 0, l52_0)]
theorem s52_0_s0 (ce : CallE) (t13 : List AV) (t14 : Int) (t15 : Int) (h0 : Int) (h1 : List AV) (h2 : Int) (h3 : List AV) (h4 : List AV) (next : St → Option AV) (k : Kont) : stepA (codeA c52 ce [] 52 0 (sub [1, 1, 1, 0, 1, 0, 0] (body Try.f52))) (normA [] [2, 3, 13, 14, 15]) next ⟨[(2, AV.ptr [0, 2] 0 0), (3, AV.ptr [0, 3] 0 0), (13, AV.sl [.int .i64] t13), (14, AV.int .i64 t14), (15, AV.int .i64 t15)], [([0, 2], ⟨true, [], [AV.agg [AV.snil, AV.int .i64 h0, AV.snil, AV.snil, AV.snil]]⟩), ([0, 2, 3], ⟨false, [.int .i64], h1⟩), ([0, 3], ⟨true, [], [AV.agg [AV.snil, AV.int .i64 h2, AV.own [0, 2, 3], AV.own [0, 3, 3], AV.own [0, 4, 3]]]⟩), ([0, 3, 3], ⟨false, [.int .i64], h3⟩), ([0, 4, 3], ⟨false, [.int .i64, .int .i64], h4⟩)]⟩ k = (bif decide (t15 < t14) then (bif (decide (0 ≤ t15) && decide (t15 < (t13.length : Int))) then (bif (decide ((([AV.agg [AV.int .i64 (fI (t13.getD t15.toNat AV.undef) 0), AV.int .i64 t15, AV.int .i64 0, AV.int .i64 (-1)]]).length) * 32 ≤ 140737488355328) && decide ((([AV.agg [AV.int .i64 (fI (t13.getD t15.toNat AV.undef) 0), AV.int .i64 t15, AV.int .i64 0, AV.int .i64 (-1)]]).length) ≤ 140737488355328)) then next ⟨[(2, AV.ptr [0, 2] 0 0), (3, AV.ptr [0, 3] 0 0), (13, AV.sl [.int .i64] t13), (14, AV.int .i64 t14), (15, AV.int .i64 (IntKind.i64.wrap (t15 + 1)))], [([0, 0, 3], ⟨false, [.int .i64, .int .i64, .int .i64, .int .i64], [AV.agg [AV.int .i64 (fI (t13.getD t15.toNat AV.undef) 0), AV.int .i64 t15, AV.int .i64 0, AV.int .i64 (-1)]]⟩), ([0, 2], ⟨true, [], [AV.agg [AV.snil, AV.int .i64 h0, AV.snil, AV.snil, AV.snil]]⟩), ([0, 2, 3], ⟨false, [.int .i64], h1⟩), ([0, 3], ⟨true, [], [AV.agg [AV.own [0, 0, 3], AV.int .i64 h2, AV.own [0, 2, 3], AV.own [0, 3, 3], AV.own [0, 4, 3]]]⟩), ([0, 3, 3], ⟨false, [.int .i64], h3⟩), ([0, 4, 3], ⟨false, [.int .i64, .int .i64], h4⟩)]⟩
    else none)
   else none)
  else k (.exit 0) ⟨[(2, AV.ptr [0, 2] 0 0), (3, AV.ptr [0, 3] 0 0)], [([0, 2], ⟨true, [], [AV.agg [AV.snil, AV.int .i64 h0, AV.snil, AV.snil, AV.snil]]⟩), ([0, 2, 3], ⟨false, [.int .i64], h1⟩), ([0, 3], ⟨true, [], [AV.agg [AV.snil, AV.int .i64 h2, AV.own [0, 2, 3], AV.own [0, 3, 3], AV.own [0, 4, 3]]]⟩), ([0, 3, 3], ⟨false, [.int .i64], h3⟩), ([0, 4, 3], ⟨false, [.int .i64, .int .i64], h4⟩)]⟩) := by kernel_rfl
theorem s52_0_s1 (ce : CallE) (t13 : List AV) (t14 : Int) (t15 : Int) (h0 : List AV) (h1 : Int) (h2 : List AV) (h3 : Int) (h4 : List AV) (h5 : List AV) (next : St → Option AV) (k : Kont) : stepA (codeA c52 ce [] 52 0 (sub [1, 1, 1, 0, 1, 0, 0] (body Try.f52))) (normA [] [2, 3, 13, 14, 15]) next ⟨[(2, AV.ptr [0, 2] 0 0), (3, AV.ptr [0, 3] 0 0), (13, AV.sl [.int .i64] t13), (14, AV.int .i64 t14), (15, AV.int .i64 t15)], [([0, 0, 3], ⟨false, [.int .i64, .int .i64, .int .i64, .int .i64], h0⟩), ([0, 2], ⟨true, [], [AV.agg [AV.snil, AV.int .i64 h1, AV.snil, AV.snil, AV.snil]]⟩), ([0, 2, 3], ⟨false, [.int .i64], h2⟩), ([0, 3], ⟨true, [], [AV.agg [AV.own [0, 0, 3], AV.int .i64 h3, AV.own [0, 2, 3], AV.own [0, 3, 3], AV.own [0, 4, 3]]]⟩), ([0, 3, 3], ⟨false, [.int .i64], h4⟩), ([0, 4, 3], ⟨false, [.int .i64, .int .i64], h5⟩)]⟩ k = (bif decide (t15 < t14) then (bif (decide (0 ≤ t15) && decide (t15 < (t13.length : Int))) then (bif (decide ((h0.length + ([AV.agg [AV.int .i64 (fI (t13.getD t15.toNat AV.undef) 0), AV.int .i64 t15, AV.int .i64 0, AV.int .i64 (-1)]]).length) * 32 ≤ 140737488355328) && decide ((h0.length + ([AV.agg [AV.int .i64 (fI (t13.getD t15.toNat AV.undef) 0), AV.int .i64 t15, AV.int .i64 0, AV.int .i64 (-1)]]).length) ≤ 140737488355328)) then next ⟨[(2, AV.ptr [0, 2] 0 0), (3, AV.ptr [0, 3] 0 0), (13, AV.sl [.int .i64] t13), (14, AV.int .i64 t14), (15, AV.int .i64 (IntKind.i64.wrap (t15 + 1)))], [([0, 0, 3], ⟨false, [.int .i64, .int .i64, .int .i64, .int .i64], h0 ++ ([AV.agg [AV.int .i64 (fI (t13.getD t15.toNat AV.undef) 0), AV.int .i64 t15, AV.int .i64 0, AV.int .i64 (-1)]])⟩), ([0, 2], ⟨true, [], [AV.agg [AV.snil, AV.int .i64 h1, AV.snil, AV.snil, AV.snil]]⟩), ([0, 2, 3], ⟨false, [.int .i64], h2⟩), ([0, 3], ⟨true, [], [AV.agg [AV.own [0, 0, 3], AV.int .i64 h3, AV.own [0, 2, 3], AV.own [0, 3, 3], AV.own [0, 4, 3]]]⟩), ([0, 3, 3], ⟨false, [.int .i64], h4⟩), ([0, 4, 3], ⟨false, [.int .i64, .int .i64], h5⟩)]⟩
    else none)
   else none)
  else k (.exit 0) ⟨[(2, AV.ptr [0, 2] 0 0), (3, AV.ptr [0, 3] 0 0)], [([0, 0, 3], ⟨false, [.int .i64, .int .i64, .int .i64, .int .i64], h0⟩), ([0, 2], ⟨true, [], [AV.agg [AV.snil, AV.int .i64 h1, AV.snil, AV.snil, AV.snil]]⟩), ([0, 2, 3], ⟨false, [.int .i64], h2⟩), ([0, 3], ⟨true, [], [AV.agg [AV.own [0, 0, 3], AV.int .i64 h3, AV.own [0, 2, 3], AV.own [0, 3, 3], AV.own [0, 4, 3]]]⟩), ([0, 3, 3], ⟨false, [.int .i64], h4⟩), ([0, 4, 3], ⟨false, [.int .i64, .int .i64], h5⟩)]⟩) := by kernel_rfl
theorem st52_0 (t13 : List AV) (t14 : Int) (ce : CallE) (k : Kont) (s : (Int × Int × (List AV) × Int × (List AV) × (List AV)) ⊕ (Int × (List AV) × Int × (List AV) × Int × (List AV) × (List AV))) (next : St → Option AV) : stepA (codeA c52 ce [] 52 0 (sub [1, 1, 1, 0, 1, 0, 0] (body Try.f52))) (normA [] [2, 3, 13, 14, 15]) next ((sumE (fun s : Int × Int × (List AV) × Int × (List AV) × (List AV) => ⟨[(2, AV.ptr [0, 2] 0 0), (3, AV.ptr [0, 3] 0 0), (13, AV.sl [.int .i64] t13), (14, AV.int .i64 t14), (15, AV.int .i64 s.1)], [([0, 2], ⟨true, [], [AV.agg [AV.snil, AV.int .i64 s.2.1, AV.snil, AV.snil, AV.snil]]⟩), ([0, 2, 3], ⟨false, [.int .i64], s.2.2.1⟩), ([0, 3], ⟨true, [], [AV.agg [AV.snil, AV.int .i64 s.2.2.2.1, AV.own [0, 2, 3], AV.own [0, 3, 3], AV.own [0, 4, 3]]]⟩), ([0, 3, 3], ⟨false, [.int .i64], s.2.2.2.2.1⟩), ([0, 4, 3], ⟨false, [.int .i64, .int .i64], s.2.2.2.2.2⟩)]⟩) (fun s : Int × (List AV) × Int × (List AV) × Int × (List AV) × (List AV) => ⟨[(2, AV.ptr [0, 2] 0 0), (3, AV.ptr [0, 3] 0 0), (13, AV.sl [.int .i64] t13), (14, AV.int .i64 t14), (15, AV.int .i64 s.1)], [([0, 0, 3], ⟨false, [.int .i64, .int .i64, .int .i64, .int .i64], s.2.1⟩), ([0, 2], ⟨true, [], [AV.agg [AV.snil, AV.int .i64 s.2.2.1, AV.snil, AV.snil, AV.snil]]⟩), ([0, 2, 3], ⟨false, [.int .i64], s.2.2.2.1⟩), ([0, 3], ⟨true, [], [AV.agg [AV.own [0, 0, 3], AV.int .i64 s.2.2.2.2.1, AV.own [0, 2, 3], AV.own [0, 3, 3], AV.own [0, 4, 3]]]⟩), ([0, 3, 3], ⟨false, [.int .i64], s.2.2.2.2.2.1⟩), ([0, 4, 3], ⟨false, [.int .i64, .int .i64], s.2.2.2.2.2.2⟩)]⟩)) s) k = (R52_0 t13 t14 s).el none (fun s => next ((sumE (fun s : Int × Int × (List AV) × Int × (List AV) × (List AV) => ⟨[(2, AV.ptr [0, 2] 0 0), (3, AV.ptr [0, 3] 0 0), (13, AV.sl [.int .i64] t13), (14, AV.int .i64 t14), (15, AV.int .i64 s.1)], [([0, 2], ⟨true, [], [AV.agg [AV.snil, AV.int .i64 s.2.1, AV.snil, AV.snil, AV.snil]]⟩), ([0, 2, 3], ⟨false, [.int .i64], s.2.2.1⟩), ([0, 3], ⟨true, [], [AV.agg [AV.snil, AV.int .i64 s.2.2.2.1, AV.own [0, 2, 3], AV.own [0, 3, 3], AV.own [0, 4, 3]]]⟩), ([0, 3, 3], ⟨false, [.int .i64], s.2.2.2.2.1⟩), ([0, 4, 3], ⟨false, [.int .i64, .int .i64], s.2.2.2.2.2⟩)]⟩) (fun s : Int × (List AV) × Int × (List AV) × Int × (List AV) × (List AV) => ⟨[(2, AV.ptr [0, 2] 0 0), (3, AV.ptr [0, 3] 0 0), (13, AV.sl [.int .i64] t13), (14, AV.int .i64 t14), (15, AV.int .i64 s.1)], [([0, 0, 3], ⟨false, [.int .i64, .int .i64, .int .i64, .int .i64], s.2.1⟩), ([0, 2], ⟨true, [], [AV.agg [AV.snil, AV.int .i64 s.2.2.1, AV.snil, AV.snil, AV.snil]]⟩), ([0, 2, 3], ⟨false, [.int .i64], s.2.2.2.1⟩), ([0, 3], ⟨true, [], [AV.agg [AV.own [0, 0, 3], AV.int .i64 s.2.2.2.2.1, AV.own [0, 2, 3], AV.own [0, 3, 3], AV.own [0, 4, 3]]]⟩), ([0, 3, 3], ⟨false, [.int .i64], s.2.2.2.2.2.1⟩), ([0, 4, 3], ⟨false, [.int .i64, .int .i64], s.2.2.2.2.2.2⟩)]⟩)) s)) (sumE (fun p : Int × (List AV) × Int × (List AV) × (List AV) => k (.exit 0) ⟨[(2, AV.ptr [0, 2] 0 0), (3, AV.ptr [0, 3] 0 0)], [([0, 2], ⟨true, [], [AV.agg [AV.snil, AV.int .i64 p.1, AV.snil, AV.snil, AV.snil]]⟩), ([0, 2, 3], ⟨false, [.int .i64], p.2.1⟩), ([0, 3], ⟨true, [], [AV.agg [AV.snil, AV.int .i64 p.2.2.1, AV.own [0, 2, 3], AV.own [0, 3, 3], AV.own [0, 4, 3]]]⟩), ([0, 3, 3], ⟨false, [.int .i64], p.2.2.2.1⟩), ([0, 4, 3], ⟨false, [.int .i64, .int .i64], p.2.2.2.2⟩)]⟩) (fun p : (List AV) × Int × (List AV) × Int × (List AV) × (List AV) => k (.exit 0) ⟨[(2, AV.ptr [0, 2] 0 0), (3, AV.ptr [0, 3] 0 0)], [([0, 0, 3], ⟨false, [.int .i64, .int .i64, .int .i64, .int .i64], p.1⟩), ([0, 2], ⟨true, [], [AV.agg [AV.snil, AV.int .i64 p.2.1, AV.snil, AV.snil, AV.snil]]⟩), ([0, 2, 3], ⟨false, [.int .i64], p.2.2.1⟩), ([0, 3], ⟨true, [], [AV.agg [AV.own [0, 0, 3], AV.int .i64 p.2.2.2.1, AV.own [0, 2, 3], AV.own [0, 3, 3], AV.own [0, 4, 3]]]⟩), ([0, 3, 3], ⟨false, [.int .i64], p.2.2.2.2.1⟩), ([0, 4, 3], ⟨false, [.int .i64, .int .i64], p.2.2.2.2.2⟩)]⟩)) := (match s with | .inl s => (s52_0_s0 ce t13 t14 s.1 s.2.1 s.2.2.1 s.2.2.2.1 s.2.2.2.2.1 s.2.2.2.2.2 next k).trans (by unfold R52_0; unfold F52_0_s0; simp only [el_cond, el_ro, el_sum, el_fail, el_next, el_stop] <;> rfl) | .inr s => (s52_0_s1 ce t13 t14 s.1 s.2.1 s.2.2.1 s.2.2.2.1 s.2.2.2.2.1 s.2.2.2.2.2.1 s.2.2.2.2.2.2 next k).trans (by unfold R52_0; unfold F52_0_s1; simp only [el_cond, el_ro, el_sum, el_fail, el_next, el_stop] <;> rfl))
theorem ok52_0 : LoopOK c52 [] 52 0 (sub [1, 1, 1, 0, 1, 0, 0] (body Try.f52)) := by
  intro m hm ce st k r h
  obtain rfl : l52_0 = m := Option.some.inj hm
  unfold l52_0 at h
  split at h
  · rename_i g0 g1 g2 g3 g4 g5 g6 t13 t14 t15 g7 h0 g8 g9 h1 g10 h2 g11 g12 g13 g14 g15 h3 g16 g17 h4
    obtain ⟨hg, h⟩ := bif_some h
    simp only [Bool.and_eq_true] at hg
    obtain ⟨⟨⟨⟨⟨⟨⟨⟨⟨⟨⟨⟨⟨⟨⟨⟨⟨q0, q1⟩, q2⟩, q3⟩, q4⟩, q5⟩, q6⟩, q7⟩, q8⟩, q9⟩, q10⟩, q11⟩, q12⟩, q13⟩, q14⟩, q15⟩, q16⟩, q17⟩ := hg
    obtain rfl := (nmEq_iff _ _).1 q0
    obtain rfl := Nat.eq_of_beq_eq_true q1
    obtain rfl := Nat.eq_of_beq_eq_true q2
    obtain rfl := (nmEq_iff _ _).1 q3
    obtain rfl := Nat.eq_of_beq_eq_true q4
    obtain rfl := Nat.eq_of_beq_eq_true q5
    obtain rfl := ctsEq_eq _ _ q6
    obtain rfl := (nmEq_iff _ _).1 q7
    obtain rfl := (nmEq_iff _ _).1 q8
    obtain rfl := ctsEq_eq _ _ q9
    obtain rfl := (nmEq_iff _ _).1 q10
    obtain rfl := (nmEq_iff _ _).1 q11
    obtain rfl := (nmEq_iff _ _).1 q12
    obtain rfl := (nmEq_iff _ _).1 q13
    obtain rfl := (nmEq_iff _ _).1 q14
    obtain rfl := ctsEq_eq _ _ q15
    obtain rfl := (nmEq_iff _ _).1 q16
    obtain rfl := ctsEq_eq _ _ q17
    refine ⟨((t14 - t15).toNat + 1), ?_⟩
    rw [← h]
    exact loop_run (sumE (fun s : Int × Int × (List AV) × Int × (List AV) × (List AV) => ⟨[(2, AV.ptr [0, 2] 0 0), (3, AV.ptr [0, 3] 0 0), (13, AV.sl [.int .i64] t13), (14, AV.int .i64 t14), (15, AV.int .i64 s.1)], [([0, 2], ⟨true, [], [AV.agg [AV.snil, AV.int .i64 s.2.1, AV.snil, AV.snil, AV.snil]]⟩), ([0, 2, 3], ⟨false, [.int .i64], s.2.2.1⟩), ([0, 3], ⟨true, [], [AV.agg [AV.snil, AV.int .i64 s.2.2.2.1, AV.own [0, 2, 3], AV.own [0, 3, 3], AV.own [0, 4, 3]]]⟩), ([0, 3, 3], ⟨false, [.int .i64], s.2.2.2.2.1⟩), ([0, 4, 3], ⟨false, [.int .i64, .int .i64], s.2.2.2.2.2⟩)]⟩) (fun s : Int × (List AV) × Int × (List AV) × Int × (List AV) × (List AV) => ⟨[(2, AV.ptr [0, 2] 0 0), (3, AV.ptr [0, 3] 0 0), (13, AV.sl [.int .i64] t13), (14, AV.int .i64 t14), (15, AV.int .i64 s.1)], [([0, 0, 3], ⟨false, [.int .i64, .int .i64, .int .i64, .int .i64], s.2.1⟩), ([0, 2], ⟨true, [], [AV.agg [AV.snil, AV.int .i64 s.2.2.1, AV.snil, AV.snil, AV.snil]]⟩), ([0, 2, 3], ⟨false, [.int .i64], s.2.2.2.1⟩), ([0, 3], ⟨true, [], [AV.agg [AV.own [0, 0, 3], AV.int .i64 s.2.2.2.2.1, AV.own [0, 2, 3], AV.own [0, 3, 3], AV.own [0, 4, 3]]]⟩), ([0, 3, 3], ⟨false, [.int .i64], s.2.2.2.2.2.1⟩), ([0, 4, 3], ⟨false, [.int .i64, .int .i64], s.2.2.2.2.2.2⟩)]⟩)) (sumE (fun p : Int × (List AV) × Int × (List AV) × (List AV) => k (.exit 0) ⟨[(2, AV.ptr [0, 2] 0 0), (3, AV.ptr [0, 3] 0 0)], [([0, 2], ⟨true, [], [AV.agg [AV.snil, AV.int .i64 p.1, AV.snil, AV.snil, AV.snil]]⟩), ([0, 2, 3], ⟨false, [.int .i64], p.2.1⟩), ([0, 3], ⟨true, [], [AV.agg [AV.snil, AV.int .i64 p.2.2.1, AV.own [0, 2, 3], AV.own [0, 3, 3], AV.own [0, 4, 3]]]⟩), ([0, 3, 3], ⟨false, [.int .i64], p.2.2.2.1⟩), ([0, 4, 3], ⟨false, [.int .i64, .int .i64], p.2.2.2.2⟩)]⟩) (fun p : (List AV) × Int × (List AV) × Int × (List AV) × (List AV) => k (.exit 0) ⟨[(2, AV.ptr [0, 2] 0 0), (3, AV.ptr [0, 3] 0 0)], [([0, 0, 3], ⟨false, [.int .i64, .int .i64, .int .i64, .int .i64], p.1⟩), ([0, 2], ⟨true, [], [AV.agg [AV.snil, AV.int .i64 p.2.1, AV.snil, AV.snil, AV.snil]]⟩), ([0, 2, 3], ⟨false, [.int .i64], p.2.2.1⟩), ([0, 3], ⟨true, [], [AV.agg [AV.own [0, 0, 3], AV.int .i64 p.2.2.2.1, AV.own [0, 2, 3], AV.own [0, 3, 3], AV.own [0, 4, 3]]]⟩), ([0, 3, 3], ⟨false, [.int .i64], p.2.2.2.2.1⟩), ([0, 4, 3], ⟨false, [.int .i64, .int .i64], p.2.2.2.2.2⟩)]⟩)) (st52_0 t13 t14 ce k) _ (.inl (t15, h0, h1, h2, h3, h4))
  · rename_i g0 g1 g2 g3 g4 g5 g6 t13 t14 t15 g7 g8 h0 g9 h1 g10 g11 h2 g12 g13 h3 g14 g15 g16 g17 g18 h4 g19 g20 h5
    obtain ⟨hg, h⟩ := bif_some h
    simp only [Bool.and_eq_true] at hg
    obtain ⟨⟨⟨⟨⟨⟨⟨⟨⟨⟨⟨⟨⟨⟨⟨⟨⟨⟨⟨⟨q0, q1⟩, q2⟩, q3⟩, q4⟩, q5⟩, q6⟩, q7⟩, q8⟩, q9⟩, q10⟩, q11⟩, q12⟩, q13⟩, q14⟩, q15⟩, q16⟩, q17⟩, q18⟩, q19⟩, q20⟩ := hg
    obtain rfl := (nmEq_iff _ _).1 q0
    obtain rfl := Nat.eq_of_beq_eq_true q1
    obtain rfl := Nat.eq_of_beq_eq_true q2
    obtain rfl := (nmEq_iff _ _).1 q3
    obtain rfl := Nat.eq_of_beq_eq_true q4
    obtain rfl := Nat.eq_of_beq_eq_true q5
    obtain rfl := ctsEq_eq _ _ q6
    obtain rfl := (nmEq_iff _ _).1 q7
    obtain rfl := ctsEq_eq _ _ q8
    obtain rfl := (nmEq_iff _ _).1 q9
    obtain rfl := (nmEq_iff _ _).1 q10
    obtain rfl := ctsEq_eq _ _ q11
    obtain rfl := (nmEq_iff _ _).1 q12
    obtain rfl := (nmEq_iff _ _).1 q13
    obtain rfl := (nmEq_iff _ _).1 q14
    obtain rfl := (nmEq_iff _ _).1 q15
    obtain rfl := (nmEq_iff _ _).1 q16
    obtain rfl := (nmEq_iff _ _).1 q17
    obtain rfl := ctsEq_eq _ _ q18
    obtain rfl := (nmEq_iff _ _).1 q19
    obtain rfl := ctsEq_eq _ _ q20
    refine ⟨((t14 - t15).toNat + 1), ?_⟩
    rw [← h]
    exact loop_run (sumE (fun s : Int × Int × (List AV) × Int × (List AV) × (List AV) => ⟨[(2, AV.ptr [0, 2] 0 0), (3, AV.ptr [0, 3] 0 0), (13, AV.sl [.int .i64] t13), (14, AV.int .i64 t14), (15, AV.int .i64 s.1)], [([0, 2], ⟨true, [], [AV.agg [AV.snil, AV.int .i64 s.2.1, AV.snil, AV.snil, AV.snil]]⟩), ([0, 2, 3], ⟨false, [.int .i64], s.2.2.1⟩), ([0, 3], ⟨true, [], [AV.agg [AV.snil, AV.int .i64 s.2.2.2.1, AV.own [0, 2, 3], AV.own [0, 3, 3], AV.own [0, 4, 3]]]⟩), ([0, 3, 3], ⟨false, [.int .i64], s.2.2.2.2.1⟩), ([0, 4, 3], ⟨false, [.int .i64, .int .i64], s.2.2.2.2.2⟩)]⟩) (fun s : Int × (List AV) × Int × (List AV) × Int × (List AV) × (List AV) => ⟨[(2, AV.ptr [0, 2] 0 0), (3, AV.ptr [0, 3] 0 0), (13, AV.sl [.int .i64] t13), (14, AV.int .i64 t14), (15, AV.int .i64 s.1)], [([0, 0, 3], ⟨false, [.int .i64, .int .i64, .int .i64, .int .i64], s.2.1⟩), ([0, 2], ⟨true, [], [AV.agg [AV.snil, AV.int .i64 s.2.2.1, AV.snil, AV.snil, AV.snil]]⟩), ([0, 2, 3], ⟨false, [.int .i64], s.2.2.2.1⟩), ([0, 3], ⟨true, [], [AV.agg [AV.own [0, 0, 3], AV.int .i64 s.2.2.2.2.1, AV.own [0, 2, 3], AV.own [0, 3, 3], AV.own [0, 4, 3]]]⟩), ([0, 3, 3], ⟨false, [.int .i64], s.2.2.2.2.2.1⟩), ([0, 4, 3], ⟨false, [.int .i64, .int .i64], s.2.2.2.2.2.2⟩)]⟩)) (sumE (fun p : Int × (List AV) × Int × (List AV) × (List AV) => k (.exit 0) ⟨[(2, AV.ptr [0, 2] 0 0), (3, AV.ptr [0, 3] 0 0)], [([0, 2], ⟨true, [], [AV.agg [AV.snil, AV.int .i64 p.1, AV.snil, AV.snil, AV.snil]]⟩), ([0, 2, 3], ⟨false, [.int .i64], p.2.1⟩), ([0, 3], ⟨true, [], [AV.agg [AV.snil, AV.int .i64 p.2.2.1, AV.own [0, 2, 3], AV.own [0, 3, 3], AV.own [0, 4, 3]]]⟩), ([0, 3, 3], ⟨false, [.int .i64], p.2.2.2.1⟩), ([0, 4, 3], ⟨false, [.int .i64, .int .i64], p.2.2.2.2⟩)]⟩) (fun p : (List AV) × Int × (List AV) × Int × (List AV) × (List AV) => k (.exit 0) ⟨[(2, AV.ptr [0, 2] 0 0), (3, AV.ptr [0, 3] 0 0)], [([0, 0, 3], ⟨false, [.int .i64, .int .i64, .int .i64, .int .i64], p.1⟩), ([0, 2], ⟨true, [], [AV.agg [AV.snil, AV.int .i64 p.2.1, AV.snil, AV.snil, AV.snil]]⟩), ([0, 2, 3], ⟨false, [.int .i64], p.2.2.1⟩), ([0, 3], ⟨true, [], [AV.agg [AV.own [0, 0, 3], AV.int .i64 p.2.2.2.1, AV.own [0, 2, 3], AV.own [0, 3, 3], AV.own [0, 4, 3]]]⟩), ([0, 3, 3], ⟨false, [.int .i64], p.2.2.2.2.1⟩), ([0, 4, 3], ⟨false, [.int .i64, .int .i64], p.2.2.2.2.2⟩)]⟩)) (st52_0 t13 t14 ce k) _ (.inr (t15, h0, h1, h2, h3, h4, h5))
  · cases h
def q52 (a0 : List AV) : Bool := (q74 a0 && (bif !(v74_0 a0) then true else (q86 a0 && (ro (runW (R52_0 a0 (a0.length : Int)) (((a0.length : Int) - 0).toNat + 1) (.inl (0, 0, (v86_0 a0), 0, (v86_1 a0), (v86_2 a0)))) false (sumE (fun p12 => true) (fun p13 => true))))))
def v52_0 (a0 : List AV) : List AV := (bif !(v74_0 a0) then ([] : List AV) else (ro (runW (R52_0 a0 (a0.length : Int)) (((a0.length : Int) - 0).toNat + 1) (.inl (0, 0, (v86_0 a0), 0, (v86_1 a0), (v86_2 a0)))) [] (sumE (fun p12 => ([] : List AV)) (fun p13 => p13.1))))
def v52_1 (a0 : List AV) : Int := (bif !(v74_0 a0) then 0 else (ro (runW (R52_0 a0 (a0.length : Int)) (((a0.length : Int) - 0).toNat + 1) (.inl (0, 0, (v86_0 a0), 0, (v86_1 a0), (v86_2 a0)))) 0 (sumE (fun p12 => p12.2.2.1) (fun p13 => p13.2.2.2.1))))
def v52_2 (a0 : List AV) : List AV := (bif !(v74_0 a0) then ([] : List AV) else (ro (runW (R52_0 a0 (a0.length : Int)) (((a0.length : Int) - 0).toNat + 1) (.inl (0, 0, (v86_0 a0), 0, (v86_1 a0), (v86_2 a0)))) [] (sumE (fun p12 => p12.2.1) (fun p13 => p13.2.2.1))))
def v52_3 (a0 : List AV) : List AV := (bif !(v74_0 a0) then ([] : List AV) else (ro (runW (R52_0 a0 (a0.length : Int)) (((a0.length : Int) - 0).toNat + 1) (.inl (0, 0, (v86_0 a0), 0, (v86_1 a0), (v86_2 a0)))) [] (sumE (fun p12 => p12.2.2.2.1) (fun p13 => p13.2.2.2.2.1))))
def v52_4 (a0 : List AV) : List AV := (bif !(v74_0 a0) then ([] : List AV) else (ro (runW (R52_0 a0 (a0.length : Int)) (((a0.length : Int) - 0).toNat + 1) (.inl (0, 0, (v86_0 a0), 0, (v86_1 a0), (v86_2 a0)))) [] (sumE (fun p12 => p12.2.2.2.2) (fun p13 => p13.2.2.2.2.2))))
theorem e52 (a0 : List AV) : funA c52 0 52 [AV.sl [.int .i64] a0] = (bif q74 a0 then (bif !(v74_0 a0) then some (AV.agg [AV.fl [.int .i64, .int .i64, .int .i64, .int .i64] ([] : List AV), AV.int .i64 0, AV.fl [.int .i64] ([] : List AV), AV.fl [.int .i64] ([] : List AV), AV.fl [.int .i64, .int .i64] ([] : List AV)])
   else (bif q86 a0 then (ro (runW (R52_0 a0 (a0.length : Int)) (((a0.length : Int) - 0).toNat + 1) (.inl (0, 0, (v86_0 a0), 0, (v86_1 a0), (v86_2 a0)))) none (sumE (fun p12 => some (AV.agg [AV.fl [.int .i64, .int .i64, .int .i64, .int .i64] ([] : List AV), AV.int .i64 p12.2.2.1, AV.fl [.int .i64] p12.2.1, AV.fl [.int .i64] p12.2.2.2.1, AV.fl [.int .i64, .int .i64] p12.2.2.2.2])) (fun p13 => some (AV.agg [AV.fl [.int .i64, .int .i64, .int .i64, .int .i64] p13.1, AV.int .i64 p13.2.2.2.1, AV.fl [.int .i64] p13.2.2.1, AV.fl [.int .i64] p13.2.2.2.2.1, AV.fl [.int .i64, .int .i64] p13.2.2.2.2.2]))))
    else none))
  else none) := by kernel_rfl
theorem r52 (a0 : List AV) (h : q52 a0 = true) : funA c52 0 52 [AV.sl [.int .i64] a0] = some (AV.agg [AV.fl [.int .i64, .int .i64, .int .i64, .int .i64] (v52_0 a0), AV.int .i64 (v52_1 a0), AV.fl [.int .i64] (v52_2 a0), AV.fl [.int .i64] (v52_3 a0), AV.fl [.int .i64, .int .i64] (v52_4 a0)]) := (e52 a0).trans ((brL (br (fun b => some (AV.agg [AV.fl [.int .i64, .int .i64, .int .i64, .int .i64] (bif b then ([] : List AV) else (ro (runW (R52_0 a0 (a0.length : Int)) (((a0.length : Int) - 0).toNat + 1) (.inl (0, 0, (v86_0 a0), 0, (v86_1 a0), (v86_2 a0)))) [] (sumE (fun p12 => ([] : List AV)) (fun p13 => p13.1)))), AV.int .i64 (bif b then 0 else (ro (runW (R52_0 a0 (a0.length : Int)) (((a0.length : Int) - 0).toNat + 1) (.inl (0, 0, (v86_0 a0), 0, (v86_1 a0), (v86_2 a0)))) 0 (sumE (fun p12 => p12.2.2.1) (fun p13 => p13.2.2.2.1)))), AV.fl [.int .i64] (bif b then ([] : List AV) else (ro (runW (R52_0 a0 (a0.length : Int)) (((a0.length : Int) - 0).toNat + 1) (.inl (0, 0, (v86_0 a0), 0, (v86_1 a0), (v86_2 a0)))) [] (sumE (fun p12 => p12.2.1) (fun p13 => p13.2.2.1)))), AV.fl [.int .i64] (bif b then ([] : List AV) else (ro (runW (R52_0 a0 (a0.length : Int)) (((a0.length : Int) - 0).toNat + 1) (.inl (0, 0, (v86_0 a0), 0, (v86_1 a0), (v86_2 a0)))) [] (sumE (fun p12 => p12.2.2.2.1) (fun p13 => p13.2.2.2.2.1)))), AV.fl [.int .i64, .int .i64] (bif b then ([] : List AV) else (ro (runW (R52_0 a0 (a0.length : Int)) (((a0.length : Int) - 0).toNat + 1) (.inl (0, 0, (v86_0 a0), 0, (v86_1 a0), (v86_2 a0)))) [] (sumE (fun p12 => p12.2.2.2.2) (fun p13 => p13.2.2.2.2.2))))])) (fun _ => rfl) (brL (brO (fun o : Option ((Int × (List AV) × Int × (List AV) × (List AV)) ⊕ ((List AV) × Int × (List AV) × Int × (List AV) × (List AV))) => some (AV.agg [AV.fl [.int .i64, .int .i64, .int .i64, .int .i64] (ro o [] (sumE (fun p12 => ([] : List AV)) (fun p13 => p13.1))), AV.int .i64 (ro o 0 (sumE (fun p12 => p12.2.2.1) (fun p13 => p13.2.2.2.1))), AV.fl [.int .i64] (ro o [] (sumE (fun p12 => p12.2.1) (fun p13 => p13.2.2.1))), AV.fl [.int .i64] (ro o [] (sumE (fun p12 => p12.2.2.2.1) (fun p13 => p13.2.2.2.2.1))), AV.fl [.int .i64, .int .i64] (ro o [] (sumE (fun p12 => p12.2.2.2.2) (fun p13 => p13.2.2.2.2.2)))])) (brS (fun o : (Int × (List AV) × Int × (List AV) × (List AV)) ⊕ ((List AV) × Int × (List AV) × Int × (List AV) × (List AV)) => some (AV.agg [AV.fl [.int .i64, .int .i64, .int .i64, .int .i64] ((sumE (fun p12 => ([] : List AV)) (fun p13 => p13.1)) o), AV.int .i64 ((sumE (fun p12 => p12.2.2.1) (fun p13 => p13.2.2.2.1)) o), AV.fl [.int .i64] ((sumE (fun p12 => p12.2.1) (fun p13 => p13.2.2.1)) o), AV.fl [.int .i64] ((sumE (fun p12 => p12.2.2.2.1) (fun p13 => p13.2.2.2.2.1)) o), AV.fl [.int .i64, .int .i64] ((sumE (fun p12 => p12.2.2.2.2) (fun p13 => p13.2.2.2.2.2)) o)])) (fun p12 => (fun _ => rfl)) (fun p13 => (fun _ => rfl))))))) h)
def m52 : TModel
  | [.sl g0 a0] => bif ctsEq g0 ([.int .i64]) then some (q52 a0, AV.agg [AV.fl [.int .i64, .int .i64, .int .i64, .int .i64] (v52_0 a0), AV.int .i64 (v52_1 a0), AV.fl [.int .i64] (v52_2 a0), AV.fl [.int .i64] (v52_3 a0), AV.fl [.int .i64, .int .i64] (v52_4 a0)]) else none
  | _ => none
theorem k52 : Known Try.prog 52 := ⟨Try.f52, Try.func52, by kernel_rfl, by kernel_rfl⟩
theorem meets52 : Meets Try.prog 52 m52 := by
  refine meet (f := Try.f52) (l := [(0, sub [1, 1, 1, 0, 1, 0, 0] (body Try.f52))]) (hs := [(52, 0, [2, 3, 13, 14, 15]), (52, 999, [2]), (52, 1000, [2, 3]), (52, 1001, [2, 3, 13, 14, 15])]) (ts := [(74, m74), (86, m86)]) (ws := []) (is := []) (ls := [(52, 0, l52_0)]) (lvl := 0) mixed k52 Try.func52 (by kernel_rfl) (loops_cons ok52_0 noLoop) (allT_cons meets74 (allT_cons meets86 allT_nil)) allM_nil noI fun w xs us r hl hv h => ?_
  unfold m52 at h
  split at h
  · rename_i g0 a0
    obtain ⟨hg, h⟩ := bif_pair h
    have q0 := hg
    obtain rfl := ctsEq_eq _ _ q0
    obtain ⟨h1, rfl⟩ := pair_inj h
    exact r52 a0 h1
  · cases h

/-! ### 116 loop.example/g01984/laws.eqStamp -/
noncomputable def c116 : Cfg := cfg Try.prog [(116, 999, [4])] [] [] [] []
def q116 (a0_0 : Int) (a0_1 : Int) (a0_2 : Int) (a0_3 : Int) (a1_0 : Int) (a1_1 : Int) (a1_2 : Int) (a1_3 : Int) : Bool := true
def v116_0 (a0_0 : Int) (a0_1 : Int) (a0_2 : Int) (a0_3 : Int) (a1_0 : Int) (a1_1 : Int) (a1_2 : Int) (a1_3 : Int) : Bool := (bif !decide (a0_0 = a1_0) then false else (bif !decide (a0_1 = a1_1) then false else (bif !decide (a0_2 = a1_2) then false else (bif !decide (a0_3 = a1_3) then false else true))))
theorem e116 (a0_0 : Int) (a0_1 : Int) (a0_2 : Int) (a0_3 : Int) (a1_0 : Int) (a1_1 : Int) (a1_2 : Int) (a1_3 : Int) : funA c116 0 116 [AV.agg [AV.int .i64 a0_0, AV.int .i64 a0_1, AV.int .i64 a0_2, AV.int .i64 a0_3], AV.agg [AV.int .i64 a1_0, AV.int .i64 a1_1, AV.int .i64 a1_2, AV.int .i64 a1_3]] = (bif !decide (a0_0 = a1_0) then some (AV.bool false)
  else (bif !decide (a0_1 = a1_1) then some (AV.bool false)
   else (bif !decide (a0_2 = a1_2) then some (AV.bool false)
    else (bif !decide (a0_3 = a1_3) then some (AV.bool false)
     else some (AV.bool true))))) := by kernel_rfl
theorem r116 (a0_0 : Int) (a0_1 : Int) (a0_2 : Int) (a0_3 : Int) (a1_0 : Int) (a1_1 : Int) (a1_2 : Int) (a1_3 : Int) : funA c116 0 116 [AV.agg [AV.int .i64 a0_0, AV.int .i64 a0_1, AV.int .i64 a0_2, AV.int .i64 a0_3], AV.agg [AV.int .i64 a1_0, AV.int .i64 a1_1, AV.int .i64 a1_2, AV.int .i64 a1_3]] = some (AV.bool (v116_0 a0_0 a0_1 a0_2 a0_3 a1_0 a1_1 a1_2 a1_3)) := (e116 a0_0 a0_1 a0_2 a0_3 a1_0 a1_1 a1_2 a1_3).trans (of_tt (brT (fun b => some (AV.bool (bif b then false else (bif !decide (a0_1 = a1_1) then false else (bif !decide (a0_2 = a1_2) then false else (bif !decide (a0_3 = a1_3) then false else true)))))) (fun _ => rfl) (brT (fun b => some (AV.bool (bif b then false else (bif !decide (a0_2 = a1_2) then false else (bif !decide (a0_3 = a1_3) then false else true))))) (fun _ => rfl) (brT (fun b => some (AV.bool (bif b then false else (bif !decide (a0_3 = a1_3) then false else true)))) (fun _ => rfl) (brT (fun b => some (AV.bool (bif b then false else true))) (fun _ => rfl) (fun _ => rfl))))))
def m116 : TModel
  | [.agg [.int .i64 a0_0, .int .i64 a0_1, .int .i64 a0_2, .int .i64 a0_3], .agg [.int .i64 a1_0, .int .i64 a1_1, .int .i64 a1_2, .int .i64 a1_3]] => some (true, AV.bool (v116_0 a0_0 a0_1 a0_2 a0_3 a1_0 a1_1 a1_2 a1_3))
  | _ => none
theorem k116 : Known Try.prog 116 := ⟨Try.f116, Try.func116, by kernel_rfl, by kernel_rfl⟩
theorem meets116 : Meets Try.prog 116 m116 := by
  refine meet (f := Try.f116) (l := []) (hs := [(116, 999, [4])]) (ts := []) (ws := []) (is := []) (ls := []) (lvl := 0) mixed k116 Try.func116 (by kernel_rfl) noLoop allT_nil allM_nil noI fun w xs us r hl hv h => ?_
  unfold m116 at h
  split at h
  · rename_i a0_0 a0_1 a0_2 a0_3 a1_0 a1_1 a1_2 a1_3
    obtain ⟨h1, rfl⟩ := pair_inj h
    exact r116 a0_0 a0_1 a0_2 a0_3 a1_0 a1_1 a1_2 a1_3
  · cases h

/-! ### 81 loop.example/g01984/laws.eqStampS -/
def F81_0 (t0 : List AV) (t1 : List AV) (t5 : Int) : Out (Int) (Unit ⊕ Unit) := (bif decide (t5 < (t0.length : Int)) then (bif (decide (0 ≤ t5) && decide (t5 < (t0.length : Int))) then (bif (decide (0 ≤ t5) && decide (t5 < (t1.length : Int))) then (bif !(v116_0 (fI (t0.getD t5.toNat AV.undef) 0) (fI (t0.getD t5.toNat AV.undef) 1) (fI (t0.getD t5.toNat AV.undef) 2) (fI (t0.getD t5.toNat AV.undef) 3) (fI (t1.getD t5.toNat AV.undef) 0) (fI (t1.getD t5.toNat AV.undef) 1) (fI (t1.getD t5.toNat AV.undef) 2) (fI (t1.getD t5.toNat AV.undef) 3)) then .stop (.inr ())
     else .next (IntKind.i64.wrap (t5 + 1)))
    else .fail)
   else .fail)
  else .stop (.inl ()))
def R81_0 (t0 : List AV) (t1 : List AV) : (Int) → Out (Int) (Unit ⊕ Unit) := fun s : Int => F81_0 t0 t1 s
def l81_0 : LModel := fun _ _ st k => match st with
  | ⟨[(0, .sl g0 t0), (1, .sl g1 t1), (5, .int .i64 t5)], []⟩ => bif ctsEq g0 ([.int .i64, .int .i64, .int .i64, .int .i64]) && ctsEq g1 ([.int .i64, .int .i64, .int .i64, .int .i64]) then ro (runW (R81_0 t0 t1) (((t0.length : Int) - t5).toNat + 1) t5) none (sumE (fun _ : Unit => k (.exit 0) ⟨[], []⟩) (fun _ : Unit => k .ret ⟨[(4, AV.bool false)], []⟩)) else none
  | _ => none
noncomputable def c81 : Cfg := cfg Try.prog [(81, 0, [0, 1, 5]), (81, 999, [4]), (81, 1000, []), (81, 1001, [0, 1, 5])] [(116, m116)] [] [] [(81, 0, l81_0)]
theorem s81_0 (ce : CallE) (t0 : List AV) (t1 : List AV) (t5 : Int) (next : St → Option AV) (k : Kont) : stepA (codeA c81 ce [] 81 0 (sub [1, 1, 0, 1, 0, 0] (body Try.f81))) (normA [] [0, 1, 5]) next ⟨[(0, AV.sl [.int .i64, .int .i64, .int .i64, .int .i64] t0), (1, AV.sl [.int .i64, .int .i64, .int .i64, .int .i64] t1), (5, AV.int .i64 t5)], []⟩ k = (bif decide (t5 < (t0.length : Int)) then (bif (decide (0 ≤ t5) && decide (t5 < (t0.length : Int))) then (bif (decide (0 ≤ t5) && decide (t5 < (t1.length : Int))) then (bif !(v116_0 (fI (t0.getD t5.toNat AV.undef) 0) (fI (t0.getD t5.toNat AV.undef) 1) (fI (t0.getD t5.toNat AV.undef) 2) (fI (t0.getD t5.toNat AV.undef) 3) (fI (t1.getD t5.toNat AV.undef) 0) (fI (t1.getD t5.toNat AV.undef) 1) (fI (t1.getD t5.toNat AV.undef) 2) (fI (t1.getD t5.toNat AV.undef) 3)) then k .ret ⟨[(4, AV.bool false)], []⟩
     else next ⟨[(0, AV.sl [.int .i64, .int .i64, .int .i64, .int .i64] t0), (1, AV.sl [.int .i64, .int .i64, .int .i64, .int .i64] t1), (5, AV.int .i64 (IntKind.i64.wrap (t5 + 1)))], []⟩)
    else none)
   else none)
  else k (.exit 0) ⟨[], []⟩) := by kernel_rfl
theorem st81_0 (t0 : List AV) (t1 : List AV) (ce : CallE) (k : Kont) (s : Int) (next : St → Option AV) : stepA (codeA c81 ce [] 81 0 (sub [1, 1, 0, 1, 0, 0] (body Try.f81))) (normA [] [0, 1, 5]) next ((fun s : Int => ⟨[(0, AV.sl [.int .i64, .int .i64, .int .i64, .int .i64] t0), (1, AV.sl [.int .i64, .int .i64, .int .i64, .int .i64] t1), (5, AV.int .i64 s)], []⟩) s) k = (R81_0 t0 t1 s).el none (fun s => next ((fun s : Int => ⟨[(0, AV.sl [.int .i64, .int .i64, .int .i64, .int .i64] t0), (1, AV.sl [.int .i64, .int .i64, .int .i64, .int .i64] t1), (5, AV.int .i64 s)], []⟩) s)) (sumE (fun _ : Unit => k (.exit 0) ⟨[], []⟩) (fun _ : Unit => k .ret ⟨[(4, AV.bool false)], []⟩)) := (s81_0 ce t0 t1 s next k).trans (by unfold R81_0; unfold F81_0; simp only [el_cond, el_ro, el_sum, el_fail, el_next, el_stop] <;> rfl)
theorem ok81_0 : LoopOK c81 [] 81 0 (sub [1, 1, 0, 1, 0, 0] (body Try.f81)) := by
  intro m hm ce st k r h
  obtain rfl : l81_0 = m := Option.some.inj hm
  unfold l81_0 at h
  split at h
  · rename_i g0 t0 g1 t1 t5
    obtain ⟨hg, h⟩ := bif_some h
    simp only [Bool.and_eq_true] at hg
    obtain ⟨q0, q1⟩ := hg
    obtain rfl := ctsEq_eq _ _ q0
    obtain rfl := ctsEq_eq _ _ q1
    refine ⟨(((t0.length : Int) - t5).toNat + 1), ?_⟩
    rw [← h]
    exact loop_run (fun s : Int => ⟨[(0, AV.sl [.int .i64, .int .i64, .int .i64, .int .i64] t0), (1, AV.sl [.int .i64, .int .i64, .int .i64, .int .i64] t1), (5, AV.int .i64 s)], []⟩) (sumE (fun _ : Unit => k (.exit 0) ⟨[], []⟩) (fun _ : Unit => k .ret ⟨[(4, AV.bool false)], []⟩)) (st81_0 t0 t1 ce k) _ t5
  · cases h
def q81 (a0 : List AV) (a1 : List AV) : Bool := (bif !decide ((a0.length : Int) = (a1.length : Int)) then true else (ro (runW (R81_0 a0 a1) (((a0.length : Int) - 0).toNat + 1) 0) false (sumE (fun _ => true) (fun _ => true))))
def v81_0 (a0 : List AV) (a1 : List AV) : Bool := (bif !decide ((a0.length : Int) = (a1.length : Int)) then false else (ro (runW (R81_0 a0 a1) (((a0.length : Int) - 0).toNat + 1) 0) false (sumE (fun _ => true) (fun _ => false))))
theorem e81 (a0 : List AV) (a1 : List AV) : funA c81 0 81 [AV.sl [.int .i64, .int .i64, .int .i64, .int .i64] a0, AV.sl [.int .i64, .int .i64, .int .i64, .int .i64] a1] = (bif !decide ((a0.length : Int) = (a1.length : Int)) then some (AV.bool false)
  else (ro (runW (R81_0 a0 a1) (((a0.length : Int) - 0).toNat + 1) 0) none (sumE (fun _ => some (AV.bool true)) (fun _ => some (AV.bool false))))) := by kernel_rfl
theorem r81 (a0 : List AV) (a1 : List AV) (h : q81 a0 a1 = true) : funA c81 0 81 [AV.sl [.int .i64, .int .i64, .int .i64, .int .i64] a0, AV.sl [.int .i64, .int .i64, .int .i64, .int .i64] a1] = some (AV.bool (v81_0 a0 a1)) := (e81 a0 a1).trans ((br (fun b => some (AV.bool (bif b then false else (ro (runW (R81_0 a0 a1) (((a0.length : Int) - 0).toNat + 1) 0) false (sumE (fun _ => true) (fun _ => false)))))) (fun _ => rfl) (brO (fun o : Option (Unit ⊕ Unit) => some (AV.bool (ro o false (sumE (fun _ => true) (fun _ => false))))) (brS (fun o : Unit ⊕ Unit => some (AV.bool ((sumE (fun _ => true) (fun _ => false)) o))) (fun _ => (fun _ => rfl)) (fun _ => (fun _ => rfl))))) h)
def m81 : TModel
  | [.sl g0 a0, .sl g1 a1] => bif ctsEq g0 ([.int .i64, .int .i64, .int .i64, .int .i64]) && ctsEq g1 ([.int .i64, .int .i64, .int .i64, .int .i64]) then some (q81 a0 a1, AV.bool (v81_0 a0 a1)) else none
  | _ => none
theorem k81 : Known Try.prog 81 := ⟨Try.f81, Try.func81, by kernel_rfl, by kernel_rfl⟩
theorem meets81 : Meets Try.prog 81 m81 := by
  refine meet (f := Try.f81) (l := [(0, sub [1, 1, 0, 1, 0, 0] (body Try.f81))]) (hs := [(81, 0, [0, 1, 5]), (81, 999, [4]), (81, 1000, []), (81, 1001, [0, 1, 5])]) (ts := [(116, m116)]) (ws := []) (is := []) (ls := [(81, 0, l81_0)]) (lvl := 0) mixed k81 Try.func81 (by kernel_rfl) (loops_cons ok81_0 noLoop) (allT_cons meets116 allT_nil) allM_nil noI fun w xs us r hl hv h => ?_
  unfold m81 at h
  split at h
  · rename_i g0 a0 g1 a1
    obtain ⟨hg, h⟩ := bif_pair h
    simp only [Bool.and_eq_true] at hg
    obtain ⟨q0, q1⟩ := hg
    obtain rfl := ctsEq_eq _ _ q0
    obtain rfl := ctsEq_eq _ _ q1
    obtain ⟨h1, rfl⟩ := pair_inj h
    exact r81 a0 a1 h1
  · cases h

/-! ### 22 loop.example/g01984/laws.eqIntS -/
def F22_0 (t0 : List AV) (t1 : List AV) (t5 : Int) : Out (Int) (Unit ⊕ Unit) := (bif decide (t5 < (t0.length : Int)) then (bif (decide (0 ≤ t5) && decide (t5 < (t0.length : Int))) then (bif (decide (0 ≤ t5) && decide (t5 < (t1.length : Int))) then (bif !decide (fI (t0.getD t5.toNat AV.undef) 0 = fI (t1.getD t5.toNat AV.undef) 0) then .stop (.inr ())
     else .next (IntKind.i64.wrap (t5 + 1)))
    else .fail)
   else .fail)
  else .stop (.inl ()))
def R22_0 (t0 : List AV) (t1 : List AV) : (Int) → Out (Int) (Unit ⊕ Unit) := fun s : Int => F22_0 t0 t1 s
def l22_0 : LModel := fun _ _ st k => match st with
  | ⟨[(0, .sl g0 t0), (1, .sl g1 t1), (5, .int .i64 t5)], []⟩ => bif ctsEq g0 ([.int .i64]) && ctsEq g1 ([.int .i64]) then ro (runW (R22_0 t0 t1) (((t0.length : Int) - t5).toNat + 1) t5) none (sumE (fun _ : Unit => k (.exit 0) ⟨[], []⟩) (fun _ : Unit => k .ret ⟨[(4, AV.bool false)], []⟩)) else none
  | _ => none
noncomputable def c22 : Cfg := cfg Try.prog [(22, 0, [0, 1, 5]), (22, 999, [4]), (22, 1000, []), (22, 1001, [0, 1, 5])] [] [] [] [(22, 0, l22_0)]
theorem s22_0 (ce : CallE) (t0 : List AV) (t1 : List AV) (t5 : Int) (next : St → Option AV) (k : Kont) : stepA (codeA c22 ce [] 22 0 (sub [1, 1, 0, 1, 0, 0] (body Try.f22))) (normA [] [0, 1, 5]) next ⟨[(0, AV.sl [.int .i64] t0), (1, AV.sl [.int .i64] t1), (5, AV.int .i64 t5)], []⟩ k = (bif decide (t5 < (t0.length : Int)) then (bif (decide (0 ≤ t5) && decide (t5 < (t0.length : Int))) then (bif (decide (0 ≤ t5) && decide (t5 < (t1.length : Int))) then (bif !decide (fI (t0.getD t5.toNat AV.undef) 0 = fI (t1.getD t5.toNat AV.undef) 0) then k .ret ⟨[(4, AV.bool false)], []⟩
     else next ⟨[(0, AV.sl [.int .i64] t0), (1, AV.sl [.int .i64] t1), (5, AV.int .i64 (IntKind.i64.wrap (t5 + 1)))], []⟩)
    else none)
   else none)
  else k (.exit 0) ⟨[], []⟩) := by kernel_rfl
theorem st22_0 (t0 : List AV) (t1 : List AV) (ce : CallE) (k : Kont) (s : Int) (next : St → Option AV) : stepA (codeA c22 ce [] 22 0 (sub [1, 1, 0, 1, 0, 0] (body Try.f22))) (normA [] [0, 1, 5]) next ((fun s : Int => ⟨[(0, AV.sl [.int .i64] t0), (1, AV.sl [.int .i64] t1), (5, AV.int .i64 s)], []⟩) s) k = (R22_0 t0 t1 s).el none (fun s => next ((fun s : Int => ⟨[(0, AV.sl [.int .i64] t0), (1, AV.sl [.int .i64] t1), (5, AV.int .i64 s)], []⟩) s)) (sumE (fun _ : Unit => k (.exit 0) ⟨[], []⟩) (fun _ : Unit => k .ret ⟨[(4, AV.bool false)], []⟩)) := (s22_0 ce t0 t1 s next k).trans (by unfold R22_0; unfold F22_0; simp only [el_cond, el_ro, el_sum, el_fail, el_next, el_stop] <;> rfl)
theorem ok22_0 : LoopOK c22 [] 22 0 (sub [1, 1, 0, 1, 0, 0] (body Try.f22)) := by
  intro m hm ce st k r h
  obtain rfl : l22_0 = m := Option.some.inj hm
  unfold l22_0 at h
  split at h
  · rename_i g0 t0 g1 t1 t5
    obtain ⟨hg, h⟩ := bif_some h
    simp only [Bool.and_eq_true] at hg
    obtain ⟨q0, q1⟩ := hg
    obtain rfl := ctsEq_eq _ _ q0
    obtain rfl := ctsEq_eq _ _ q1
    refine ⟨(((t0.length : Int) - t5).toNat + 1), ?_⟩
    rw [← h]
    exact loop_run (fun s : Int => ⟨[(0, AV.sl [.int .i64] t0), (1, AV.sl [.int .i64] t1), (5, AV.int .i64 s)], []⟩) (sumE (fun _ : Unit => k (.exit 0) ⟨[], []⟩) (fun _ : Unit => k .ret ⟨[(4, AV.bool false)], []⟩)) (st22_0 t0 t1 ce k) _ t5
  · cases h
def q22 (a0 : List AV) (a1 : List AV) : Bool := (bif !decide ((a0.length : Int) = (a1.length : Int)) then true else (ro (runW (R22_0 a0 a1) (((a0.length : Int) - 0).toNat + 1) 0) false (sumE (fun _ => true) (fun _ => true))))
def v22_0 (a0 : List AV) (a1 : List AV) : Bool := (bif !decide ((a0.length : Int) = (a1.length : Int)) then false else (ro (runW (R22_0 a0 a1) (((a0.length : Int) - 0).toNat + 1) 0) false (sumE (fun _ => true) (fun _ => false))))
theorem e22 (a0 : List AV) (a1 : List AV) : funA c22 0 22 [AV.sl [.int .i64] a0, AV.sl [.int .i64] a1] = (bif !decide ((a0.length : Int) = (a1.length : Int)) then some (AV.bool false)
  else (ro (runW (R22_0 a0 a1) (((a0.length : Int) - 0).toNat + 1) 0) none (sumE (fun _ => some (AV.bool true)) (fun _ => some (AV.bool false))))) := by kernel_rfl
theorem r22 (a0 : List AV) (a1 : List AV) (h : q22 a0 a1 = true) : funA c22 0 22 [AV.sl [.int .i64] a0, AV.sl [.int .i64] a1] = some (AV.bool (v22_0 a0 a1)) := (e22 a0 a1).trans ((br (fun b => some (AV.bool (bif b then false else (ro (runW (R22_0 a0 a1) (((a0.length : Int) - 0).toNat + 1) 0) false (sumE (fun _ => true) (fun _ => false)))))) (fun _ => rfl) (brO (fun o : Option (Unit ⊕ Unit) => some (AV.bool (ro o false (sumE (fun _ => true) (fun _ => false))))) (brS (fun o : Unit ⊕ Unit => some (AV.bool ((sumE (fun _ => true) (fun _ => false)) o))) (fun _ => (fun _ => rfl)) (fun _ => (fun _ => rfl))))) h)
def m22 : TModel
  | [.sl g0 a0, .sl g1 a1] => bif ctsEq g0 ([.int .i64]) && ctsEq g1 ([.int .i64]) then some (q22 a0 a1, AV.bool (v22_0 a0 a1)) else none
  | _ => none
theorem k22 : Known Try.prog 22 := ⟨Try.f22, Try.func22, by kernel_rfl, by kernel_rfl⟩
theorem meets22 : Meets Try.prog 22 m22 := by
  refine meet (f := Try.f22) (l := [(0, sub [1, 1, 0, 1, 0, 0] (body Try.f22))]) (hs := [(22, 0, [0, 1, 5]), (22, 999, [4]), (22, 1000, []), (22, 1001, [0, 1, 5])]) (ts := []) (ws := []) (is := []) (ls := [(22, 0, l22_0)]) (lvl := 0) mixed k22 Try.func22 (by kernel_rfl) (loops_cons ok22_0 noLoop) allT_nil allM_nil noI fun w xs us r hl hv h => ?_
  unfold m22 at h
  split at h
  · rename_i g0 a0 g1 a1
    obtain ⟨hg, h⟩ := bif_pair h
    simp only [Bool.and_eq_true] at hg
    obtain ⟨q0, q1⟩ := hg
    obtain rfl := ctsEq_eq _ _ q0
    obtain rfl := ctsEq_eq _ _ q1
    obtain ⟨h1, rfl⟩ := pair_inj h
    exact r22 a0 a1 h1
  · cases h

/-! ### 147 loop.example/g01984/laws.eqPivot -/
noncomputable def c147 : Cfg := cfg Try.prog [(147, 999, [4])] [] [] [] []
def q147 (a0_0 : Int) (a0_1 : Int) (a1_0 : Int) (a1_1 : Int) : Bool := true
def v147_0 (a0_0 : Int) (a0_1 : Int) (a1_0 : Int) (a1_1 : Int) : Bool := (bif !decide (a0_0 = a1_0) then false else (bif !decide (a0_1 = a1_1) then false else true))
theorem e147 (a0_0 : Int) (a0_1 : Int) (a1_0 : Int) (a1_1 : Int) : funA c147 0 147 [AV.agg [AV.int .i64 a0_0, AV.int .i64 a0_1], AV.agg [AV.int .i64 a1_0, AV.int .i64 a1_1]] = (bif !decide (a0_0 = a1_0) then some (AV.bool false)
  else (bif !decide (a0_1 = a1_1) then some (AV.bool false)
   else some (AV.bool true))) := by kernel_rfl
theorem r147 (a0_0 : Int) (a0_1 : Int) (a1_0 : Int) (a1_1 : Int) : funA c147 0 147 [AV.agg [AV.int .i64 a0_0, AV.int .i64 a0_1], AV.agg [AV.int .i64 a1_0, AV.int .i64 a1_1]] = some (AV.bool (v147_0 a0_0 a0_1 a1_0 a1_1)) := (e147 a0_0 a0_1 a1_0 a1_1).trans (of_tt (brT (fun b => some (AV.bool (bif b then false else (bif !decide (a0_1 = a1_1) then false else true)))) (fun _ => rfl) (brT (fun b => some (AV.bool (bif b then false else true))) (fun _ => rfl) (fun _ => rfl))))
def m147 : TModel
  | [.agg [.int .i64 a0_0, .int .i64 a0_1], .agg [.int .i64 a1_0, .int .i64 a1_1]] => some (true, AV.bool (v147_0 a0_0 a0_1 a1_0 a1_1))
  | _ => none
theorem k147 : Known Try.prog 147 := ⟨Try.f147, Try.func147, by kernel_rfl, by kernel_rfl⟩
theorem meets147 : Meets Try.prog 147 m147 := by
  refine meet (f := Try.f147) (l := []) (hs := [(147, 999, [4])]) (ts := []) (ws := []) (is := []) (ls := []) (lvl := 0) mixed k147 Try.func147 (by kernel_rfl) noLoop allT_nil allM_nil noI fun w xs us r hl hv h => ?_
  unfold m147 at h
  split at h
  · rename_i a0_0 a0_1 a1_0 a1_1
    obtain ⟨h1, rfl⟩ := pair_inj h
    exact r147 a0_0 a0_1 a1_0 a1_1
  · cases h

/-! ### 117 loop.example/g01984/laws.eqPivotS -/
def F117_0 (t0 : List AV) (t1 : List AV) (t5 : Int) : Out (Int) (Unit ⊕ Unit) := (bif decide (t5 < (t0.length : Int)) then (bif (decide (0 ≤ t5) && decide (t5 < (t0.length : Int))) then (bif (decide (0 ≤ t5) && decide (t5 < (t1.length : Int))) then (bif !(v147_0 (fI (t0.getD t5.toNat AV.undef) 0) (fI (t0.getD t5.toNat AV.undef) 1) (fI (t1.getD t5.toNat AV.undef) 0) (fI (t1.getD t5.toNat AV.undef) 1)) then .stop (.inr ())
     else .next (IntKind.i64.wrap (t5 + 1)))
    else .fail)
   else .fail)
  else .stop (.inl ()))
def R117_0 (t0 : List AV) (t1 : List AV) : (Int) → Out (Int) (Unit ⊕ Unit) := fun s : Int => F117_0 t0 t1 s
def l117_0 : LModel := fun _ _ st k => match st with
  | ⟨[(0, .sl g0 t0), (1, .sl g1 t1), (5, .int .i64 t5)], []⟩ => bif ctsEq g0 ([.int .i64, .int .i64]) && ctsEq g1 ([.int .i64, .int .i64]) then ro (runW (R117_0 t0 t1) (((t0.length : Int) - t5).toNat + 1) t5) none (sumE (fun _ : Unit => k (.exit 0) ⟨[], []⟩) (fun _ : Unit => k .ret ⟨[(4, AV.bool false)], []⟩)) else none
  | _ => none
noncomputable def c117 : Cfg := cfg Try.prog [(117, 0, [0, 1, 5]), (117, 999, [4]), (117, 1000, []), (117, 1001, [0, 1, 5])] [(147, m147)] [] [] [(117, 0, l117_0)]
theorem s117_0 (ce : CallE) (t0 : List AV) (t1 : List AV) (t5 : Int) (next : St → Option AV) (k : Kont) : stepA (codeA c117 ce [] 117 0 (sub [1, 1, 0, 1, 0, 0] (body Try.f117))) (normA [] [0, 1, 5]) next ⟨[(0, AV.sl [.int .i64, .int .i64] t0), (1, AV.sl [.int .i64, .int .i64] t1), (5, AV.int .i64 t5)], []⟩ k = (bif decide (t5 < (t0.length : Int)) then (bif (decide (0 ≤ t5) && decide (t5 < (t0.length : Int))) then (bif (decide (0 ≤ t5) && decide (t5 < (t1.length : Int))) then (bif !(v147_0 (fI (t0.getD t5.toNat AV.undef) 0) (fI (t0.getD t5.toNat AV.undef) 1) (fI (t1.getD t5.toNat AV.undef) 0) (fI (t1.getD t5.toNat AV.undef) 1)) then k .ret ⟨[(4, AV.bool false)], []⟩
     else next ⟨[(0, AV.sl [.int .i64, .int .i64] t0), (1, AV.sl [.int .i64, .int .i64] t1), (5, AV.int .i64 (IntKind.i64.wrap (t5 + 1)))], []⟩)
    else none)
   else none)
  else k (.exit 0) ⟨[], []⟩) := by kernel_rfl
theorem st117_0 (t0 : List AV) (t1 : List AV) (ce : CallE) (k : Kont) (s : Int) (next : St → Option AV) : stepA (codeA c117 ce [] 117 0 (sub [1, 1, 0, 1, 0, 0] (body Try.f117))) (normA [] [0, 1, 5]) next ((fun s : Int => ⟨[(0, AV.sl [.int .i64, .int .i64] t0), (1, AV.sl [.int .i64, .int .i64] t1), (5, AV.int .i64 s)], []⟩) s) k = (R117_0 t0 t1 s).el none (fun s => next ((fun s : Int => ⟨[(0, AV.sl [.int .i64, .int .i64] t0), (1, AV.sl [.int .i64, .int .i64] t1), (5, AV.int .i64 s)], []⟩) s)) (sumE (fun _ : Unit => k (.exit 0) ⟨[], []⟩) (fun _ : Unit => k .ret ⟨[(4, AV.bool false)], []⟩)) := (s117_0 ce t0 t1 s next k).trans (by unfold R117_0; unfold F117_0; simp only [el_cond, el_ro, el_sum, el_fail, el_next, el_stop] <;> rfl)
theorem ok117_0 : LoopOK c117 [] 117 0 (sub [1, 1, 0, 1, 0, 0] (body Try.f117)) := by
  intro m hm ce st k r h
  obtain rfl : l117_0 = m := Option.some.inj hm
  unfold l117_0 at h
  split at h
  · rename_i g0 t0 g1 t1 t5
    obtain ⟨hg, h⟩ := bif_some h
    simp only [Bool.and_eq_true] at hg
    obtain ⟨q0, q1⟩ := hg
    obtain rfl := ctsEq_eq _ _ q0
    obtain rfl := ctsEq_eq _ _ q1
    refine ⟨(((t0.length : Int) - t5).toNat + 1), ?_⟩
    rw [← h]
    exact loop_run (fun s : Int => ⟨[(0, AV.sl [.int .i64, .int .i64] t0), (1, AV.sl [.int .i64, .int .i64] t1), (5, AV.int .i64 s)], []⟩) (sumE (fun _ : Unit => k (.exit 0) ⟨[], []⟩) (fun _ : Unit => k .ret ⟨[(4, AV.bool false)], []⟩)) (st117_0 t0 t1 ce k) _ t5
  · cases h
def q117 (a0 : List AV) (a1 : List AV) : Bool := (bif !decide ((a0.length : Int) = (a1.length : Int)) then true else (ro (runW (R117_0 a0 a1) (((a0.length : Int) - 0).toNat + 1) 0) false (sumE (fun _ => true) (fun _ => true))))
def v117_0 (a0 : List AV) (a1 : List AV) : Bool := (bif !decide ((a0.length : Int) = (a1.length : Int)) then false else (ro (runW (R117_0 a0 a1) (((a0.length : Int) - 0).toNat + 1) 0) false (sumE (fun _ => true) (fun _ => false))))
theorem e117 (a0 : List AV) (a1 : List AV) : funA c117 0 117 [AV.sl [.int .i64, .int .i64] a0, AV.sl [.int .i64, .int .i64] a1] = (bif !decide ((a0.length : Int) = (a1.length : Int)) then some (AV.bool false)
  else (ro (runW (R117_0 a0 a1) (((a0.length : Int) - 0).toNat + 1) 0) none (sumE (fun _ => some (AV.bool true)) (fun _ => some (AV.bool false))))) := by kernel_rfl
theorem r117 (a0 : List AV) (a1 : List AV) (h : q117 a0 a1 = true) : funA c117 0 117 [AV.sl [.int .i64, .int .i64] a0, AV.sl [.int .i64, .int .i64] a1] = some (AV.bool (v117_0 a0 a1)) := (e117 a0 a1).trans ((br (fun b => some (AV.bool (bif b then false else (ro (runW (R117_0 a0 a1) (((a0.length : Int) - 0).toNat + 1) 0) false (sumE (fun _ => true) (fun _ => false)))))) (fun _ => rfl) (brO (fun o : Option (Unit ⊕ Unit) => some (AV.bool (ro o false (sumE (fun _ => true) (fun _ => false))))) (brS (fun o : Unit ⊕ Unit => some (AV.bool ((sumE (fun _ => true) (fun _ => false)) o))) (fun _ => (fun _ => rfl)) (fun _ => (fun _ => rfl))))) h)
def m117 : TModel
  | [.sl g0 a0, .sl g1 a1] => bif ctsEq g0 ([.int .i64, .int .i64]) && ctsEq g1 ([.int .i64, .int .i64]) then some (q117 a0 a1, AV.bool (v117_0 a0 a1)) else none
  | _ => none
theorem k117 : Known Try.prog 117 := ⟨Try.f117, Try.func117, by kernel_rfl, by kernel_rfl⟩
theorem meets117 : Meets Try.prog 117 m117 := by
  refine meet (f := Try.f117) (l := [(0, sub [1, 1, 0, 1, 0, 0] (body Try.f117))]) (hs := [(117, 0, [0, 1, 5]), (117, 999, [4]), (117, 1000, []), (117, 1001, [0, 1, 5])]) (ts := [(147, m147)]) (ws := []) (is := []) (ls := [(117, 0, l117_0)]) (lvl := 0) mixed k117 Try.func117 (by kernel_rfl) (loops_cons ok117_0 noLoop) (allT_cons meets147 allT_nil) allM_nil noI fun w xs us r hl hv h => ?_
  unfold m117 at h
  split at h
  · rename_i g0 a0 g1 a1
    obtain ⟨hg, h⟩ := bif_pair h
    simp only [Bool.and_eq_true] at hg
    obtain ⟨q0, q1⟩ := hg
    obtain rfl := ctsEq_eq _ _ q0
    obtain rfl := ctsEq_eq _ _ q1
    obtain ⟨h1, rfl⟩ := pair_inj h
    exact r117 a0 a1 h1
  · cases h

/-! ### 82 loop.example/g01984/laws.eqCracker -/
noncomputable def c82 : Cfg := cfg Try.prog [(82, 999, [4])] [(22, m22), (117, m117)] [] [] []
def q82 (a0_0 : List AV) (a0_1 : List AV) (a0_2 : List AV) (a1_0 : List AV) (a1_1 : List AV) (a1_2 : List AV) : Bool := (q22 a0_0 a1_0 && (bif !(v22_0 a0_0 a1_0) then true else (q22 a0_1 a1_1 && (bif !(v22_0 a0_1 a1_1) then true else q117 a0_2 a1_2))))
def v82_0 (a0_0 : List AV) (a0_1 : List AV) (a0_2 : List AV) (a1_0 : List AV) (a1_1 : List AV) (a1_2 : List AV) : Bool := (bif !(v22_0 a0_0 a1_0) then false else (bif !(v22_0 a0_1 a1_1) then false else (bif !(v117_0 a0_2 a1_2) then false else true)))
theorem e82 (a0_0 : List AV) (a0_1 : List AV) (a0_2 : List AV) (a1_0 : List AV) (a1_1 : List AV) (a1_2 : List AV) : funA c82 0 82 [AV.agg [AV.sl [.int .i64] a0_0, AV.sl [.int .i64] a0_1, AV.sl [.int .i64, .int .i64] a0_2], AV.agg [AV.sl [.int .i64] a1_0, AV.sl [.int .i64] a1_1, AV.sl [.int .i64, .int .i64] a1_2]] = (bif q22 a0_0 a1_0 then (bif !(v22_0 a0_0 a1_0) then some (AV.bool false)
   else (bif q22 a0_1 a1_1 then (bif !(v22_0 a0_1 a1_1) then some (AV.bool false)
     else (bif q117 a0_2 a1_2 then (bif !(v117_0 a0_2 a1_2) then some (AV.bool false)
       else some (AV.bool true))
      else none))
    else none))
  else none) := by kernel_rfl
theorem r82 (a0_0 : List AV) (a0_1 : List AV) (a0_2 : List AV) (a1_0 : List AV) (a1_1 : List AV) (a1_2 : List AV) (h : q82 a0_0 a0_1 a0_2 a1_0 a1_1 a1_2 = true) : funA c82 0 82 [AV.agg [AV.sl [.int .i64] a0_0, AV.sl [.int .i64] a0_1, AV.sl [.int .i64, .int .i64] a0_2], AV.agg [AV.sl [.int .i64] a1_0, AV.sl [.int .i64] a1_1, AV.sl [.int .i64, .int .i64] a1_2]] = some (AV.bool (v82_0 a0_0 a0_1 a0_2 a1_0 a1_1 a1_2)) := (e82 a0_0 a0_1 a0_2 a1_0 a1_1 a1_2).trans ((brL (br (fun b => some (AV.bool (bif b then false else (bif !(v22_0 a0_1 a1_1) then false else (bif !(v117_0 a0_2 a1_2) then false else true))))) (fun _ => rfl) (brL (br (fun b => some (AV.bool (bif b then false else (bif !(v117_0 a0_2 a1_2) then false else true)))) (fun _ => rfl) (brL1 (brT (fun b => some (AV.bool (bif b then false else true))) (fun _ => rfl) (fun _ => rfl))))))) h)
def m82 : TModel
  | [.agg [.sl g0 a0_0, .sl g1 a0_1, .sl g2 a0_2], .agg [.sl g3 a1_0, .sl g4 a1_1, .sl g5 a1_2]] => bif ctsEq g0 ([.int .i64]) && ctsEq g1 ([.int .i64]) && ctsEq g2 ([.int .i64, .int .i64]) && ctsEq g3 ([.int .i64]) && ctsEq g4 ([.int .i64]) && ctsEq g5 ([.int .i64, .int .i64]) then some (q82 a0_0 a0_1 a0_2 a1_0 a1_1 a1_2, AV.bool (v82_0 a0_0 a0_1 a0_2 a1_0 a1_1 a1_2)) else none
  | _ => none
theorem k82 : Known Try.prog 82 := ⟨Try.f82, Try.func82, by kernel_rfl, by kernel_rfl⟩
theorem meets82 : Meets Try.prog 82 m82 := by
  refine meet (f := Try.f82) (l := []) (hs := [(82, 999, [4])]) (ts := [(22, m22), (117, m117)]) (ws := []) (is := []) (ls := []) (lvl := 0) mixed k82 Try.func82 (by kernel_rfl) noLoop (allT_cons meets22 (allT_cons meets117 allT_nil)) allM_nil noI fun w xs us r hl hv h => ?_
  unfold m82 at h
  split at h
  · rename_i g0 a0_0 g1 a0_1 g2 a0_2 g3 a1_0 g4 a1_1 g5 a1_2
    obtain ⟨hg, h⟩ := bif_pair h
    simp only [Bool.and_eq_true] at hg
    obtain ⟨⟨⟨⟨⟨q0, q1⟩, q2⟩, q3⟩, q4⟩, q5⟩ := hg
    obtain rfl := ctsEq_eq _ _ q0
    obtain rfl := ctsEq_eq _ _ q1
    obtain rfl := ctsEq_eq _ _ q2
    obtain rfl := ctsEq_eq _ _ q3
    obtain rfl := ctsEq_eq _ _ q4
    obtain rfl := ctsEq_eq _ _ q5
    obtain ⟨h1, rfl⟩ := pair_inj h
    exact r82 a0_0 a0_1 a0_2 a1_0 a1_1 a1_2 h1
  · cases h

/-! ### 42 loop.example/g01984/laws.eqStore -/
noncomputable def c42 : Cfg := cfg Try.prog [(42, 999, [4])] [(81, m81), (82, m82)] [] [] []
def q42 (a0_0 : List AV) (a0_1 : Int) (a0_2 : List AV) (a0_3 : List AV) (a0_4 : List AV) (a1_0 : List AV) (a1_1 : Int) (a1_2 : List AV) (a1_3 : List AV) (a1_4 : List AV) : Bool := (q81 a0_0 a1_0 && (bif !(v81_0 a0_0 a1_0) then true else (bif !decide (a0_1 = a1_1) then true else q82 a0_2 a0_3 a0_4 a1_2 a1_3 a1_4)))
def v42_0 (a0_0 : List AV) (a0_1 : Int) (a0_2 : List AV) (a0_3 : List AV) (a0_4 : List AV) (a1_0 : List AV) (a1_1 : Int) (a1_2 : List AV) (a1_3 : List AV) (a1_4 : List AV) : Bool := (bif !(v81_0 a0_0 a1_0) then false else (bif !decide (a0_1 = a1_1) then false else (bif !(v82_0 a0_2 a0_3 a0_4 a1_2 a1_3 a1_4) then false else true)))
theorem e42 (a0_0 : List AV) (a0_1 : Int) (a0_2 : List AV) (a0_3 : List AV) (a0_4 : List AV) (a1_0 : List AV) (a1_1 : Int) (a1_2 : List AV) (a1_3 : List AV) (a1_4 : List AV) : funA c42 0 42 [AV.agg [AV.sl [.int .i64, .int .i64, .int .i64, .int .i64] a0_0, AV.int .i64 a0_1, AV.sl [.int .i64] a0_2, AV.sl [.int .i64] a0_3, AV.sl [.int .i64, .int .i64] a0_4], AV.agg [AV.sl [.int .i64, .int .i64, .int .i64, .int .i64] a1_0, AV.int .i64 a1_1, AV.sl [.int .i64] a1_2, AV.sl [.int .i64] a1_3, AV.sl [.int .i64, .int .i64] a1_4]] = (bif q81 a0_0 a1_0 then (bif !(v81_0 a0_0 a1_0) then some (AV.bool false)
   else (bif !decide (a0_1 = a1_1) then some (AV.bool false)
    else (bif q82 a0_2 a0_3 a0_4 a1_2 a1_3 a1_4 then (bif !(v82_0 a0_2 a0_3 a0_4 a1_2 a1_3 a1_4) then some (AV.bool false)
      else some (AV.bool true))
     else none)))
  else none) := by kernel_rfl
theorem r42 (a0_0 : List AV) (a0_1 : Int) (a0_2 : List AV) (a0_3 : List AV) (a0_4 : List AV) (a1_0 : List AV) (a1_1 : Int) (a1_2 : List AV) (a1_3 : List AV) (a1_4 : List AV) (h : q42 a0_0 a0_1 a0_2 a0_3 a0_4 a1_0 a1_1 a1_2 a1_3 a1_4 = true) : funA c42 0 42 [AV.agg [AV.sl [.int .i64, .int .i64, .int .i64, .int .i64] a0_0, AV.int .i64 a0_1, AV.sl [.int .i64] a0_2, AV.sl [.int .i64] a0_3, AV.sl [.int .i64, .int .i64] a0_4], AV.agg [AV.sl [.int .i64, .int .i64, .int .i64, .int .i64] a1_0, AV.int .i64 a1_1, AV.sl [.int .i64] a1_2, AV.sl [.int .i64] a1_3, AV.sl [.int .i64, .int .i64] a1_4]] = some (AV.bool (v42_0 a0_0 a0_1 a0_2 a0_3 a0_4 a1_0 a1_1 a1_2 a1_3 a1_4)) := (e42 a0_0 a0_1 a0_2 a0_3 a0_4 a1_0 a1_1 a1_2 a1_3 a1_4).trans ((brL (br (fun b => some (AV.bool (bif b then false else (bif !decide (a0_1 = a1_1) then false else (bif !(v82_0 a0_2 a0_3 a0_4 a1_2 a1_3 a1_4) then false else true))))) (fun _ => rfl) (br (fun b => some (AV.bool (bif b then false else (bif !(v82_0 a0_2 a0_3 a0_4 a1_2 a1_3 a1_4) then false else true)))) (fun _ => rfl) (brL1 (brT (fun b => some (AV.bool (bif b then false else true))) (fun _ => rfl) (fun _ => rfl)))))) h)
def m42 : TModel
  | [.agg [.sl g0 a0_0, .int .i64 a0_1, .sl g1 a0_2, .sl g2 a0_3, .sl g3 a0_4], .agg [.sl g4 a1_0, .int .i64 a1_1, .sl g5 a1_2, .sl g6 a1_3, .sl g7 a1_4]] => bif ctsEq g0 ([.int .i64, .int .i64, .int .i64, .int .i64]) && ctsEq g1 ([.int .i64]) && ctsEq g2 ([.int .i64]) && ctsEq g3 ([.int .i64, .int .i64]) && ctsEq g4 ([.int .i64, .int .i64, .int .i64, .int .i64]) && ctsEq g5 ([.int .i64]) && ctsEq g6 ([.int .i64]) && ctsEq g7 ([.int .i64, .int .i64]) then some (q42 a0_0 a0_1 a0_2 a0_3 a0_4 a1_0 a1_1 a1_2 a1_3 a1_4, AV.bool (v42_0 a0_0 a0_1 a0_2 a0_3 a0_4 a1_0 a1_1 a1_2 a1_3 a1_4)) else none
  | _ => none
theorem k42 : Known Try.prog 42 := ⟨Try.f42, Try.func42, by kernel_rfl, by kernel_rfl⟩
theorem meets42 : Meets Try.prog 42 m42 := by
  refine meet (f := Try.f42) (l := []) (hs := [(42, 999, [4])]) (ts := [(81, m81), (82, m82)]) (ws := []) (is := []) (ls := []) (lvl := 0) mixed k42 Try.func42 (by kernel_rfl) noLoop (allT_cons meets81 (allT_cons meets82 allT_nil)) allM_nil noI fun w xs us r hl hv h => ?_
  unfold m42 at h
  split at h
  · rename_i g0 a0_0 a0_1 g1 a0_2 g2 a0_3 g3 a0_4 g4 a1_0 a1_1 g5 a1_2 g6 a1_3 g7 a1_4
    obtain ⟨hg, h⟩ := bif_pair h
    simp only [Bool.and_eq_true] at hg
    obtain ⟨⟨⟨⟨⟨⟨⟨q0, q1⟩, q2⟩, q3⟩, q4⟩, q5⟩, q6⟩, q7⟩ := hg
    obtain rfl := ctsEq_eq _ _ q0
    obtain rfl := ctsEq_eq _ _ q1
    obtain rfl := ctsEq_eq _ _ q2
    obtain rfl := ctsEq_eq _ _ q3
    obtain rfl := ctsEq_eq _ _ q4
    obtain rfl := ctsEq_eq _ _ q5
    obtain rfl := ctsEq_eq _ _ q6
    obtain rfl := ctsEq_eq _ _ q7
    obtain ⟨h1, rfl⟩ := pair_inj h
    exact r42 a0_0 a0_1 a0_2 a0_3 a0_4 a1_0 a1_1 a1_2 a1_3 a1_4 h1
  · cases h

/-! ### 25 loop.example/g01984/laws.markIntS -/
def F25_0 (t1 : Int) (t5 : Int) (h0 : List AV) : Out ((Int × Int × (List AV))) ((Int × (List AV))) := (bif decide (t5 < (h0.length : Int)) then (bif (decide (0 ≤ t5) && decide (t5 < (h0.length : Int))) then .next (IntKind.i64.wrap (t1 + 1), IntKind.i64.wrap (t5 + 1), h0.set t5.toNat (AV.agg [AV.int .i64 t1]))
   else .fail)
  else .stop (t1, h0))
def R25_0 : ((Int × Int × (List AV))) → Out ((Int × Int × (List AV))) ((Int × (List AV))) := fun s : Int × Int × (List AV) => F25_0 s.1 s.2.1 s.2.2
def l25_0 : LModel := fun _ _ st k => match st with
  | ⟨[(0, .own g0), (1, .int .i64 t1), (5, .int .i64 t5)], [(g1, ⟨false, g2, h0⟩)]⟩ => bif nmEq g0 ([1]) && nmEq g1 ([1]) && ctsEq g2 ([.int .i64]) then ro (runW (R25_0) (((h0.length : Int) - t5).toNat + 1) (t1, t5, h0)) none (fun p : Int × (List AV) => k (.exit 0) ⟨[(1, AV.int .i64 p.1)], [([1], ⟨false, [.int .i64], p.2⟩)]⟩) else none
  | _ => none
noncomputable def c25 : Cfg := cfg Try.prog [(25, 0, [0, 1, 5]), (25, 999, [4]), (25, 1000, [1]), (25, 1001, [0, 1, 5])] [] [] [] [(25, 0, l25_0)]
theorem s25_0 (ce : CallE) (t1 : Int) (t5 : Int) (h0 : List AV) (next : St → Option AV) (k : Kont) : stepA (codeA c25 ce [0] 25 0 (sub [1, 0, 1, 0, 0] (body Try.f25))) (normA [0] [0, 1, 5]) next ⟨[(0, AV.own [1]), (1, AV.int .i64 t1), (5, AV.int .i64 t5)], [([1], ⟨false, [.int .i64], h0⟩)]⟩ k = (bif decide (t5 < (h0.length : Int)) then (bif (decide (0 ≤ t5) && decide (t5 < (h0.length : Int))) then next ⟨[(0, AV.own [1]), (1, AV.int .i64 (IntKind.i64.wrap (t1 + 1))), (5, AV.int .i64 (IntKind.i64.wrap (t5 + 1)))], [([1], ⟨false, [.int .i64], h0.set t5.toNat (AV.agg [AV.int .i64 t1])⟩)]⟩
   else none)
  else k (.exit 0) ⟨[(1, AV.int .i64 t1)], [([1], ⟨false, [.int .i64], h0⟩)]⟩) := by kernel_rfl
theorem st25_0 (ce : CallE) (k : Kont) (s : (Int × Int × (List AV))) (next : St → Option AV) : stepA (codeA c25 ce [0] 25 0 (sub [1, 0, 1, 0, 0] (body Try.f25))) (normA [0] [0, 1, 5]) next ((fun s : Int × Int × (List AV) => ⟨[(0, AV.own [1]), (1, AV.int .i64 s.1), (5, AV.int .i64 s.2.1)], [([1], ⟨false, [.int .i64], s.2.2⟩)]⟩) s) k = (R25_0 s).el none (fun s => next ((fun s : Int × Int × (List AV) => ⟨[(0, AV.own [1]), (1, AV.int .i64 s.1), (5, AV.int .i64 s.2.1)], [([1], ⟨false, [.int .i64], s.2.2⟩)]⟩) s)) (fun p : Int × (List AV) => k (.exit 0) ⟨[(1, AV.int .i64 p.1)], [([1], ⟨false, [.int .i64], p.2⟩)]⟩) := (s25_0 ce s.1 s.2.1 s.2.2 next k).trans (by unfold R25_0; unfold F25_0; simp only [el_cond, el_ro, el_sum, el_fail, el_next, el_stop] <;> rfl)
theorem ok25_0 : LoopOK c25 [0] 25 0 (sub [1, 0, 1, 0, 0] (body Try.f25)) := by
  intro m hm ce st k r h
  obtain rfl : l25_0 = m := Option.some.inj hm
  unfold l25_0 at h
  split at h
  · rename_i g0 t1 t5 g1 g2 h0
    obtain ⟨hg, h⟩ := bif_some h
    simp only [Bool.and_eq_true] at hg
    obtain ⟨⟨q0, q1⟩, q2⟩ := hg
    obtain rfl := (nmEq_iff _ _).1 q0
    obtain rfl := (nmEq_iff _ _).1 q1
    obtain rfl := ctsEq_eq _ _ q2
    refine ⟨(((h0.length : Int) - t5).toNat + 1), ?_⟩
    rw [← h]
    exact loop_run (fun s : Int × Int × (List AV) => ⟨[(0, AV.own [1]), (1, AV.int .i64 s.1), (5, AV.int .i64 s.2.1)], [([1], ⟨false, [.int .i64], s.2.2⟩)]⟩) (fun p : Int × (List AV) => k (.exit 0) ⟨[(1, AV.int .i64 p.1)], [([1], ⟨false, [.int .i64], p.2⟩)]⟩) (st25_0 ce k) _ (t1, t5, h0)
  · cases h
def q25 (a1 : Int) (b0 : List AV) : Bool := (ro (runW (R25_0) (((b0.length : Int) - 0).toNat + 1) (a1, 0, b0)) false (fun p20 => true))
def v25_0 (a1 : Int) (b0 : List AV) : Int := (ro (runW (R25_0) (((b0.length : Int) - 0).toNat + 1) (a1, 0, b0)) 0 (fun p20 => p20.1))
def v25_1 (a1 : Int) (b0 : List AV) : List AV := (ro (runW (R25_0) (((b0.length : Int) - 0).toNat + 1) (a1, 0, b0)) [] (fun p20 => p20.2))
theorem e25 (a1 : Int) (b0 : List AV) (K : AV → List Blk → Option AV) : inlA c25 1 25 [AV.own [1], AV.int .i64 a1] [0] (canH 1 [⟨false, [.int .i64], b0⟩]) (keepB 1 K) = (ro (runW (R25_0) (((b0.length : Int) - 0).toNat + 1) (a1, 0, b0)) none (fun p20 => K (AV.int .i64 p20.1) [⟨false, [.int .i64], p20.2⟩])) := by kernel_rfl
theorem r25 (a1 : Int) (b0 : List AV) (K : AV → List Blk → Option AV) (h : q25 a1 b0 = true) : inlA c25 1 25 [AV.own [1], AV.int .i64 a1] [0] (canH 1 [⟨false, [.int .i64], b0⟩]) (keepB 1 K) = K (AV.int .i64 (v25_0 a1 b0)) [⟨false, [.int .i64], (v25_1 a1 b0)⟩] := (e25 a1 b0 K).trans ((brO (fun o : Option ((Int × (List AV))) => K (AV.int .i64 (ro o 0 (fun p20 => p20.1))) [⟨false, [.int .i64], (ro o [] (fun p20 => p20.2))⟩]) (fun p20 => (fun _ => rfl))) h)
def m25 : WModel
  | [.own g0, .int .i64 a1], [⟨false, g1, b0⟩] => bif nmEq g0 ([1]) && ctsEq g1 ([.int .i64]) then some (q25 a1 b0, AV.int .i64 (v25_0 a1 b0), [⟨false, [.int .i64], (v25_1 a1 b0)⟩]) else none
  | _, _ => none
theorem k25 : Known Try.prog 25 := ⟨Try.f25, Try.func25, by kernel_rfl, by kernel_rfl⟩
theorem meets25 : MeetsM Try.prog 25 m25 := by
  refine meetM (f := Try.f25) (l := [(0, sub [1, 0, 1, 0, 0] (body Try.f25))]) (hs := [(25, 0, [0, 1, 5]), (25, 999, [4]), (25, 1000, [1]), (25, 1001, [0, 1, 5])]) (ts := []) (ws := []) (is := []) (ls := [(25, 0, l25_0)]) (lvl := 0) mixed k25 Try.func25 (by kernel_rfl) (loops_cons ok25_0 noLoop) allT_nil allM_nil noI fun C w xs us bs r bs' hl hv hh h K => ?_
  unfold m25 at h
  split at h
  · rename_i g0 a1 g1 b0
    obtain ⟨hg, h⟩ := bif_pair h
    simp only [Bool.and_eq_true] at hg
    obtain ⟨q0, q1⟩ := hg
    obtain rfl := (nmEq_iff _ _).1 q0
    obtain rfl := ctsEq_eq _ _ q1
    obtain ⟨h1, rfl, rfl⟩ := trip_inj h
    exact r25 a1 b0 K h1
  · cases h

/-! ### 97 loop.example/g01984/laws.markStampS -/
def F97_0 (t1 : Int) (t5 : Int) (h0 : List AV) : Out ((Int × Int × (List AV))) ((Int × (List AV))) := (bif decide (t5 < (h0.length : Int)) then (bif (decide (0 ≤ t5) && decide (t5 < (h0.length : Int))) then (bif (decide (0 ≤ t5) && decide (t5 < ((h0.set t5.toNat (AV.agg [AV.int .i64 t1, AV.int .i64 (fI (h0.getD t5.toNat AV.undef) 1), AV.int .i64 (fI (h0.getD t5.toNat AV.undef) 2), AV.int .i64 (fI (h0.getD t5.toNat AV.undef) 3)])).length : Int))) then (bif (decide (0 ≤ t5) && decide (t5 < (((h0.set t5.toNat (AV.agg [AV.int .i64 t1, AV.int .i64 (fI (h0.getD t5.toNat AV.undef) 1), AV.int .i64 (fI (h0.getD t5.toNat AV.undef) 2), AV.int .i64 (fI (h0.getD t5.toNat AV.undef) 3)])).set t5.toNat (AV.agg [AV.int .i64 (fI ((h0.set t5.toNat (AV.agg [AV.int .i64 t1, AV.int .i64 (fI (h0.getD t5.toNat AV.undef) 1), AV.int .i64 (fI (h0.getD t5.toNat AV.undef) 2), AV.int .i64 (fI (h0.getD t5.toNat AV.undef) 3)])).getD t5.toNat AV.undef) 0), AV.int .i64 (IntKind.i64.wrap (t1 + 1)), AV.int .i64 (fI ((h0.set t5.toNat (AV.agg [AV.int .i64 t1, AV.int .i64 (fI (h0.getD t5.toNat AV.undef) 1), AV.int .i64 (fI (h0.getD t5.toNat AV.undef) 2), AV.int .i64 (fI (h0.getD t5.toNat AV.undef) 3)])).getD t5.toNat AV.undef) 2), AV.int .i64 (fI ((h0.set t5.toNat (AV.agg [AV.int .i64 t1, AV.int .i64 (fI (h0.getD t5.toNat AV.undef) 1), AV.int .i64 (fI (h0.getD t5.toNat AV.undef) 2), AV.int .i64 (fI (h0.getD t5.toNat AV.undef) 3)])).getD t5.toNat AV.undef) 3)])).length : Int))) then (bif (decide (0 ≤ t5) && decide (t5 < ((((h0.set t5.toNat (AV.agg [AV.int .i64 t1, AV.int .i64 (fI (h0.getD t5.toNat AV.undef) 1), AV.int .i64 (fI (h0.getD t5.toNat AV.undef) 2), AV.int .i64 (fI (h0.getD t5.toNat AV.undef) 3)])).set t5.toNat (AV.agg [AV.int .i64 (fI ((h0.set t5.toNat (AV.agg [AV.int .i64 t1, AV.int .i64 (fI (h0.getD t5.toNat AV.undef) 1), AV.int .i64 (fI (h0.getD t5.toNat AV.undef) 2), AV.int .i64 (fI (h0.getD t5.toNat AV.undef) 3)])).getD t5.toNat AV.undef) 0), AV.int .i64 (IntKind.i64.wrap (t1 + 1)), AV.int .i64 (fI ((h0.set t5.toNat (AV.agg [AV.int .i64 t1, AV.int .i64 (fI (h0.getD t5.toNat AV.undef) 1), AV.int .i64 (fI (h0.getD t5.toNat AV.undef) 2), AV.int .i64 (fI (h0.getD t5.toNat AV.undef) 3)])).getD t5.toNat AV.undef) 2), AV.int .i64 (fI ((h0.set t5.toNat (AV.agg [AV.int .i64 t1, AV.int .i64 (fI (h0.getD t5.toNat AV.undef) 1), AV.int .i64 (fI (h0.getD t5.toNat AV.undef) 2), AV.int .i64 (fI (h0.getD t5.toNat AV.undef) 3)])).getD t5.toNat AV.undef) 3)])).set t5.toNat (AV.agg [AV.int .i64 (fI (((h0.set t5.toNat (AV.agg [AV.int .i64 t1, AV.int .i64 (fI (h0.getD t5.toNat AV.undef) 1), AV.int .i64 (fI (h0.getD t5.toNat AV.undef) 2), AV.int .i64 (fI (h0.getD t5.toNat AV.undef) 3)])).set t5.toNat (AV.agg [AV.int .i64 (fI ((h0.set t5.toNat (AV.agg [AV.int .i64 t1, AV.int .i64 (fI (h0.getD t5.toNat AV.undef) 1), AV.int .i64 (fI (h0.getD t5.toNat AV.undef) 2), AV.int .i64 (fI (h0.getD t5.toNat AV.undef) 3)])).getD t5.toNat AV.undef) 0), AV.int .i64 (IntKind.i64.wrap (t1 + 1)), AV.int .i64 (fI ((h0.set t5.toNat (AV.agg [AV.int .i64 t1, AV.int .i64 (fI (h0.getD t5.toNat AV.undef) 1), AV.int .i64 (fI (h0.getD t5.toNat AV.undef) 2), AV.int .i64 (fI (h0.getD t5.toNat AV.undef) 3)])).getD t5.toNat AV.undef) 2), AV.int .i64 (fI ((h0.set t5.toNat (AV.agg [AV.int .i64 t1, AV.int .i64 (fI (h0.getD t5.toNat AV.undef) 1), AV.int .i64 (fI (h0.getD t5.toNat AV.undef) 2), AV.int .i64 (fI (h0.getD t5.toNat AV.undef) 3)])).getD t5.toNat AV.undef) 3)])).getD t5.toNat AV.undef) 0), AV.int .i64 (fI (((h0.set t5.toNat (AV.agg [AV.int .i64 t1, AV.int .i64 (fI (h0.getD t5.toNat AV.undef) 1), AV.int .i64 (fI (h0.getD t5.toNat AV.undef) 2), AV.int .i64 (fI (h0.getD t5.toNat AV.undef) 3)])).set t5.toNat (AV.agg [AV.int .i64 (fI ((h0.set t5.toNat (AV.agg [AV.int .i64 t1, AV.int .i64 (fI (h0.getD t5.toNat AV.undef) 1), AV.int .i64 (fI (h0.getD t5.toNat AV.undef) 2), AV.int .i64 (fI (h0.getD t5.toNat AV.undef) 3)])).getD t5.toNat AV.undef) 0), AV.int .i64 (IntKind.i64.wrap (t1 + 1)), AV.int .i64 (fI ((h0.set t5.toNat (AV.agg [AV.int .i64 t1, AV.int .i64 (fI (h0.getD t5.toNat AV.undef) 1), AV.int .i64 (fI (h0.getD t5.toNat AV.undef) 2), AV.int .i64 (fI (h0.getD t5.toNat AV.undef) 3)])).getD t5.toNat AV.undef) 2), AV.int .i64 (fI ((h0.set t5.toNat (AV.agg [AV.int .i64 t1, AV.int .i64 (fI (h0.getD t5.toNat AV.undef) 1), AV.int .i64 (fI (h0.getD t5.toNat AV.undef) 2), AV.int .i64 (fI (h0.getD t5.toNat AV.undef) 3)])).getD t5.toNat AV.undef) 3)])).getD t5.toNat AV.undef) 1), AV.int .i64 (IntKind.i64.wrap (IntKind.i64.wrap (t1 + 1) + 1)), AV.int .i64 (fI (((h0.set t5.toNat (AV.agg [AV.int .i64 t1, AV.int .i64 (fI (h0.getD t5.toNat AV.undef) 1), AV.int .i64 (fI (h0.getD t5.toNat AV.undef) 2), AV.int .i64 (fI (h0.getD t5.toNat AV.undef) 3)])).set t5.toNat (AV.agg [AV.int .i64 (fI ((h0.set t5.toNat (AV.agg [AV.int .i64 t1, AV.int .i64 (fI (h0.getD t5.toNat AV.undef) 1), AV.int .i64 (fI (h0.getD t5.toNat AV.undef) 2), AV.int .i64 (fI (h0.getD t5.toNat AV.undef) 3)])).getD t5.toNat AV.undef) 0), AV.int .i64 (IntKind.i64.wrap (t1 + 1)), AV.int .i64 (fI ((h0.set t5.toNat (AV.agg [AV.int .i64 t1, AV.int .i64 (fI (h0.getD t5.toNat AV.undef) 1), AV.int .i64 (fI (h0.getD t5.toNat AV.undef) 2), AV.int .i64 (fI (h0.getD t5.toNat AV.undef) 3)])).getD t5.toNat AV.undef) 2), AV.int .i64 (fI ((h0.set t5.toNat (AV.agg [AV.int .i64 t1, AV.int .i64 (fI (h0.getD t5.toNat AV.undef) 1), AV.int .i64 (fI (h0.getD t5.toNat AV.undef) 2), AV.int .i64 (fI (h0.getD t5.toNat AV.undef) 3)])).getD t5.toNat AV.undef) 3)])).getD t5.toNat AV.undef) 3)])).length : Int))) then .next (IntKind.i64.wrap (IntKind.i64.wrap (IntKind.i64.wrap (IntKind.i64.wrap (t1 + 1) + 1) + 1) + 1), IntKind.i64.wrap (t5 + 1), (((h0.set t5.toNat (AV.agg [AV.int .i64 t1, AV.int .i64 (fI (h0.getD t5.toNat AV.undef) 1), AV.int .i64 (fI (h0.getD t5.toNat AV.undef) 2), AV.int .i64 (fI (h0.getD t5.toNat AV.undef) 3)])).set t5.toNat (AV.agg [AV.int .i64 (fI ((h0.set t5.toNat (AV.agg [AV.int .i64 t1, AV.int .i64 (fI (h0.getD t5.toNat AV.undef) 1), AV.int .i64 (fI (h0.getD t5.toNat AV.undef) 2), AV.int .i64 (fI (h0.getD t5.toNat AV.undef) 3)])).getD t5.toNat AV.undef) 0), AV.int .i64 (IntKind.i64.wrap (t1 + 1)), AV.int .i64 (fI ((h0.set t5.toNat (AV.agg [AV.int .i64 t1, AV.int .i64 (fI (h0.getD t5.toNat AV.undef) 1), AV.int .i64 (fI (h0.getD t5.toNat AV.undef) 2), AV.int .i64 (fI (h0.getD t5.toNat AV.undef) 3)])).getD t5.toNat AV.undef) 2), AV.int .i64 (fI ((h0.set t5.toNat (AV.agg [AV.int .i64 t1, AV.int .i64 (fI (h0.getD t5.toNat AV.undef) 1), AV.int .i64 (fI (h0.getD t5.toNat AV.undef) 2), AV.int .i64 (fI (h0.getD t5.toNat AV.undef) 3)])).getD t5.toNat AV.undef) 3)])).set t5.toNat (AV.agg [AV.int .i64 (fI (((h0.set t5.toNat (AV.agg [AV.int .i64 t1, AV.int .i64 (fI (h0.getD t5.toNat AV.undef) 1), AV.int .i64 (fI (h0.getD t5.toNat AV.undef) 2), AV.int .i64 (fI (h0.getD t5.toNat AV.undef) 3)])).set t5.toNat (AV.agg [AV.int .i64 (fI ((h0.set t5.toNat (AV.agg [AV.int .i64 t1, AV.int .i64 (fI (h0.getD t5.toNat AV.undef) 1), AV.int .i64 (fI (h0.getD t5.toNat AV.undef) 2), AV.int .i64 (fI (h0.getD t5.toNat AV.undef) 3)])).getD t5.toNat AV.undef) 0), AV.int .i64 (IntKind.i64.wrap (t1 + 1)), AV.int .i64 (fI ((h0.set t5.toNat (AV.agg [AV.int .i64 t1, AV.int .i64 (fI (h0.getD t5.toNat AV.undef) 1), AV.int .i64 (fI (h0.getD t5.toNat AV.undef) 2), AV.int .i64 (fI (h0.getD t5.toNat AV.undef) 3)])).getD t5.toNat AV.undef) 2), AV.int .i64 (fI ((h0.set t5.toNat (AV.agg [AV.int .i64 t1, AV.int .i64 (fI (h0.getD t5.toNat AV.undef) 1), AV.int .i64 (fI (h0.getD t5.toNat AV.undef) 2), AV.int .i64 (fI (h0.getD t5.toNat AV.undef) 3)])).getD t5.toNat AV.undef) 3)])).getD t5.toNat AV.undef) 0), AV.int .i64 (fI (((h0.set t5.toNat (AV.agg [AV.int .i64 t1, AV.int .i64 (fI (h0.getD t5.toNat AV.undef) 1), AV.int .i64 (fI (h0.getD t5.toNat AV.undef) 2), AV.int .i64 (fI (h0.getD t5.toNat AV.undef) 3)])).set t5.toNat (AV.agg [AV.int .i64 (fI ((h0.set t5.toNat (AV.agg [AV.int .i64 t1, AV.int .i64 (fI (h0.getD t5.toNat AV.undef) 1), AV.int .i64 (fI (h0.getD t5.toNat AV.undef) 2), AV.int .i64 (fI (h0.getD t5.toNat AV.undef) 3)])).getD t5.toNat AV.undef) 0), AV.int .i64 (IntKind.i64.wrap (t1 + 1)), AV.int .i64 (fI ((h0.set t5.toNat (AV.agg [AV.int .i64 t1, AV.int .i64 (fI (h0.getD t5.toNat AV.undef) 1), AV.int .i64 (fI (h0.getD t5.toNat AV.undef) 2), AV.int .i64 (fI (h0.getD t5.toNat AV.undef) 3)])).getD t5.toNat AV.undef) 2), AV.int .i64 (fI ((h0.set t5.toNat (AV.agg [AV.int .i64 t1, AV.int .i64 (fI (h0.getD t5.toNat AV.undef) 1), AV.int .i64 (fI (h0.getD t5.toNat AV.undef) 2), AV.int .i64 (fI (h0.getD t5.toNat AV.undef) 3)])).getD t5.toNat AV.undef) 3)])).getD t5.toNat AV.undef) 1), AV.int .i64 (IntKind.i64.wrap (IntKind.i64.wrap (t1 + 1) + 1)), AV.int .i64 (fI (((h0.set t5.toNat (AV.agg [AV.int .i64 t1, AV.int .i64 (fI (h0.getD t5.toNat AV.undef) 1), AV.int .i64 (fI (h0.getD t5.toNat AV.undef) 2), AV.int .i64 (fI (h0.getD t5.toNat AV.undef) 3)])).set t5.toNat (AV.agg [AV.int .i64 (fI ((h0.set t5.toNat (AV.agg [AV.int .i64 t1, AV.int .i64 (fI (h0.getD t5.toNat AV.undef) 1), AV.int .i64 (fI (h0.getD t5.toNat AV.undef) 2), AV.int .i64 (fI (h0.getD t5.toNat AV.undef) 3)])).getD t5.toNat AV.undef) 0), AV.int .i64 (IntKind.i64.wrap (t1 + 1)), AV.int .i64 (fI ((h0.set t5.toNat (AV.agg [AV.int .i64 t1, AV.int .i64 (fI (h0.getD t5.toNat AV.undef) 1), AV.int .i64 (fI (h0.getD t5.toNat AV.undef) 2), AV.int .i64 (fI (h0.getD t5.toNat AV.undef) 3)])).getD t5.toNat AV.undef) 2), AV.int .i64 (fI ((h0.set t5.toNat (AV.agg [AV.int .i64 t1, AV.int .i64 (fI (h0.getD t5.toNat AV.undef) 1), AV.int .i64 (fI (h0.getD t5.toNat AV.undef) 2), AV.int .i64 (fI (h0.getD t5.toNat AV.undef) 3)])).getD t5.toNat AV.undef) 3)])).getD t5.toNat AV.undef) 3)])).set t5.toNat (AV.agg [AV.int .i64 (fI ((((h0.set t5.toNat (AV.agg [AV.int .i64 t1, AV.int .i64 (fI (h0.getD t5.toNat AV.undef) 1), AV.int .i64 (fI (h0.getD t5.toNat AV.undef) 2), AV.int .i64 (fI (h0.getD t5.toNat AV.undef) 3)])).set t5.toNat (AV.agg [AV.int .i64 (fI ((h0.set t5.toNat (AV.agg [AV.int .i64 t1, AV.int .i64 (fI (h0.getD t5.toNat AV.undef) 1), AV.int .i64 (fI (h0.getD t5.toNat AV.undef) 2), AV.int .i64 (fI (h0.getD t5.toNat AV.undef) 3)])).getD t5.toNat AV.undef) 0), AV.int .i64 (IntKind.i64.wrap (t1 + 1)), AV.int .i64 (fI ((h0.set t5.toNat (AV.agg [AV.int .i64 t1, AV.int .i64 (fI (h0.getD t5.toNat AV.undef) 1), AV.int .i64 (fI (h0.getD t5.toNat AV.undef) 2), AV.int .i64 (fI (h0.getD t5.toNat AV.undef) 3)])).getD t5.toNat AV.undef) 2), AV.int .i64 (fI ((h0.set t5.toNat (AV.agg [AV.int .i64 t1, AV.int .i64 (fI (h0.getD t5.toNat AV.undef) 1), AV.int .i64 (fI (h0.getD t5.toNat AV.undef) 2), AV.int .i64 (fI (h0.getD t5.toNat AV.undef) 3)])).getD t5.toNat AV.undef) 3)])).set t5.toNat (AV.agg [AV.int .i64 (fI (((h0.set t5.toNat (AV.agg [AV.int .i64 t1, AV.int .i64 (fI (h0.getD t5.toNat AV.undef) 1), AV.int .i64 (fI (h0.getD t5.toNat AV.undef) 2), AV.int .i64 (fI (h0.getD t5.toNat AV.undef) 3)])).set t5.toNat (AV.agg [AV.int .i64 (fI ((h0.set t5.toNat (AV.agg [AV.int .i64 t1, AV.int .i64 (fI (h0.getD t5.toNat AV.undef) 1), AV.int .i64 (fI (h0.getD t5.toNat AV.undef) 2), AV.int .i64 (fI (h0.getD t5.toNat AV.undef) 3)])).getD t5.toNat AV.undef) 0), AV.int .i64 (IntKind.i64.wrap (t1 + 1)), AV.int .i64 (fI ((h0.set t5.toNat (AV.agg [AV.int .i64 t1, AV.int .i64 (fI (h0.getD t5.toNat AV.undef) 1), AV.int .i64 (fI (h0.getD t5.toNat AV.undef) 2), AV.int .i64 (fI (h0.getD t5.toNat AV.undef) 3)])).getD t5.toNat AV.undef) 2), AV.int .i64 (fI ((h0.set t5.toNat (AV.agg [AV.int .i64 t1, AV.int .i64 (fI (h0.getD t5.toNat AV.undef) 1), AV.int .i64 (fI (h0.getD t5.toNat AV.undef) 2), AV.int .i64 (fI (h0.getD t5.toNat AV.undef) 3)])).getD t5.toNat AV.undef) 3)])).getD t5.toNat AV.undef) 0), AV.int .i64 (fI (((h0.set t5.toNat (AV.agg [AV.int .i64 t1, AV.int .i64 (fI (h0.getD t5.toNat AV.undef) 1), AV.int .i64 (fI (h0.getD t5.toNat AV.undef) 2), AV.int .i64 (fI (h0.getD t5.toNat AV.undef) 3)])).set t5.toNat (AV.agg [AV.int .i64 (fI ((h0.set t5.toNat (AV.agg [AV.int .i64 t1, AV.int .i64 (fI (h0.getD t5.toNat AV.undef) 1), AV.int .i64 (fI (h0.getD t5.toNat AV.undef) 2), AV.int .i64 (fI (h0.getD t5.toNat AV.undef) 3)])).getD t5.toNat AV.undef) 0), AV.int .i64 (IntKind.i64.wrap (t1 + 1)), AV.int .i64 (fI ((h0.set t5.toNat (AV.agg [AV.int .i64 t1, AV.int .i64 (fI (h0.getD t5.toNat AV.undef) 1), AV.int .i64 (fI (h0.getD t5.toNat AV.undef) 2), AV.int .i64 (fI (h0.getD t5.toNat AV.undef) 3)])).getD t5.toNat AV.undef) 2), AV.int .i64 (fI ((h0.set t5.toNat (AV.agg [AV.int .i64 t1, AV.int .i64 (fI (h0.getD t5.toNat AV.undef) 1), AV.int .i64 (fI (h0.getD t5.toNat AV.undef) 2), AV.int .i64 (fI (h0.getD t5.toNat AV.undef) 3)])).getD t5.toNat AV.undef) 3)])).getD t5.toNat AV.undef) 1), AV.int .i64 (IntKind.i64.wrap (IntKind.i64.wrap (t1 + 1) + 1)), AV.int .i64 (fI (((h0.set t5.toNat (AV.agg [AV.int .i64 t1, AV.int .i64 (fI (h0.getD t5.toNat AV.undef) 1), AV.int .i64 (fI (h0.getD t5.toNat AV.undef) 2), AV.int .i64 (fI (h0.getD t5.toNat AV.undef) 3)])).set t5.toNat (AV.agg [AV.int .i64 (fI ((h0.set t5.toNat (AV.agg [AV.int .i64 t1, AV.int .i64 (fI (h0.getD t5.toNat AV.undef) 1), AV.int .i64 (fI (h0.getD t5.toNat AV.undef) 2), AV.int .i64 (fI (h0.getD t5.toNat AV.undef) 3)])).getD t5.toNat AV.undef) 0), AV.int .i64 (IntKind.i64.wrap (t1 + 1)), AV.int .i64 (fI ((h0.set t5.toNat (AV.agg [AV.int .i64 t1, AV.int .i64 (fI (h0.getD t5.toNat AV.undef) 1), AV.int .i64 (fI (h0.getD t5.toNat AV.undef) 2), AV.int .i64 (fI (h0.getD t5.toNat AV.undef) 3)])).getD t5.toNat AV.undef) 2), AV.int .i64 (fI ((h0.set t5.toNat (AV.agg [AV.int .i64 t1, AV.int .i64 (fI (h0.getD t5.toNat AV.undef) 1), AV.int .i64 (fI (h0.getD t5.toNat AV.undef) 2), AV.int .i64 (fI (h0.getD t5.toNat AV.undef) 3)])).getD t5.toNat AV.undef) 3)])).getD t5.toNat AV.undef) 3)])).getD t5.toNat AV.undef) 0), AV.int .i64 (fI ((((h0.set t5.toNat (AV.agg [AV.int .i64 t1, AV.int .i64 (fI (h0.getD t5.toNat AV.undef) 1), AV.int .i64 (fI (h0.getD t5.toNat AV.undef) 2), AV.int .i64 (fI (h0.getD t5.toNat AV.undef) 3)])).set t5.toNat (AV.agg [AV.int .i64 (fI ((h0.set t5.toNat (AV.agg [AV.int .i64 t1, AV.int .i64 (fI (h0.getD t5.toNat AV.undef) 1), AV.int .i64 (fI (h0.getD t5.toNat AV.undef) 2), AV.int .i64 (fI (h0.getD t5.toNat AV.undef) 3)])).getD t5.toNat AV.undef) 0), AV.int .i64 (IntKind.i64.wrap (t1 + 1)), AV.int .i64 (fI ((h0.set t5.toNat (AV.agg [AV.int .i64 t1, AV.int .i64 (fI (h0.getD t5.toNat AV.undef) 1), AV.int .i64 (fI (h0.getD t5.toNat AV.undef) 2), AV.int .i64 (fI (h0.getD t5.toNat AV.undef) 3)])).getD t5.toNat AV.undef) 2), AV.int .i64 (fI ((h0.set t5.toNat (AV.agg [AV.int .i64 t1, AV.int .i64 (fI (h0.getD t5.toNat AV.undef) 1), AV.int .i64 (fI (h0.getD t5.toNat AV.undef) 2), AV.int .i64 (fI (h0.getD t5.toNat AV.undef) 3)])).getD t5.toNat AV.undef) 3)])).set t5.toNat (AV.agg [AV.int .i64 (fI (((h0.set t5.toNat (AV.agg [AV.int .i64 t1, AV.int .i64 (fI (h0.getD t5.toNat AV.undef) 1), AV.int .i64 (fI (h0.getD t5.toNat AV.undef) 2), AV.int .i64 (fI (h0.getD t5.toNat AV.undef) 3)])).set t5.toNat (AV.agg [AV.int .i64 (fI ((h0.set t5.toNat (AV.agg [AV.int .i64 t1, AV.int .i64 (fI (h0.getD t5.toNat AV.undef) 1), AV.int .i64 (fI (h0.getD t5.toNat AV.undef) 2), AV.int .i64 (fI (h0.getD t5.toNat AV.undef) 3)])).getD t5.toNat AV.undef) 0), AV.int .i64 (IntKind.i64.wrap (t1 + 1)), AV.int .i64 (fI ((h0.set t5.toNat (AV.agg [AV.int .i64 t1, AV.int .i64 (fI (h0.getD t5.toNat AV.undef) 1), AV.int .i64 (fI (h0.getD t5.toNat AV.undef) 2), AV.int .i64 (fI (h0.getD t5.toNat AV.undef) 3)])).getD t5.toNat AV.undef) 2), AV.int .i64 (fI ((h0.set t5.toNat (AV.agg [AV.int .i64 t1, AV.int .i64 (fI (h0.getD t5.toNat AV.undef) 1), AV.int .i64 (fI (h0.getD t5.toNat AV.undef) 2), AV.int .i64 (fI (h0.getD t5.toNat AV.undef) 3)])).getD t5.toNat AV.undef) 3)])).getD t5.toNat AV.undef) 0), AV.int .i64 (fI (((h0.set t5.toNat (AV.agg [AV.int .i64 t1, AV.int .i64 (fI (h0.getD t5.toNat AV.undef) 1), AV.int .i64 (fI (h0.getD t5.toNat AV.undef) 2), AV.int .i64 (fI (h0.getD t5.toNat AV.undef) 3)])).set t5.toNat (AV.agg [AV.int .i64 (fI ((h0.set t5.toNat (AV.agg [AV.int .i64 t1, AV.int .i64 (fI (h0.getD t5.toNat AV.undef) 1), AV.int .i64 (fI (h0.getD t5.toNat AV.undef) 2), AV.int .i64 (fI (h0.getD t5.toNat AV.undef) 3)])).getD t5.toNat AV.undef) 0), AV.int .i64 (IntKind.i64.wrap (t1 + 1)), AV.int .i64 (fI ((h0.set t5.toNat (AV.agg [AV.int .i64 t1, AV.int .i64 (fI (h0.getD t5.toNat AV.undef) 1), AV.int .i64 (fI (h0.getD t5.toNat AV.undef) 2), AV.int .i64 (fI (h0.getD t5.toNat AV.undef) 3)])).getD t5.toNat AV.undef) 2), AV.int .i64 (fI ((h0.set t5.toNat (AV.agg [AV.int .i64 t1, AV.int .i64 (fI (h0.getD t5.toNat AV.undef) 1), AV.int .i64 (fI (h0.getD t5.toNat AV.undef) 2), AV.int .i64 (fI (h0.getD t5.toNat AV.undef) 3)])).getD t5.toNat AV.undef) 3)])).getD t5.toNat AV.undef) 1), AV.int .i64 (IntKind.i64.wrap (IntKind.i64.wrap (t1 + 1) + 1)), AV.int .i64 (fI (((h0.set t5.toNat (AV.agg [AV.int .i64 t1, AV.int .i64 (fI (h0.getD t5.toNat AV.undef) 1), AV.int .i64 (fI (h0.getD t5.toNat AV.undef) 2), AV.int .i64 (fI (h0.getD t5.toNat AV.undef) 3)])).set t5.toNat (AV.agg [AV.int .i64 (fI ((h0.set t5.toNat (AV.agg [AV.int .i64 t1, AV.int .i64 (fI (h0.getD t5.toNat AV.undef) 1), AV.int .i64 (fI (h0.getD t5.toNat AV.undef) 2), AV.int .i64 (fI (h0.getD t5.toNat AV.undef) 3)])).getD t5.toNat AV.undef) 0), AV.int .i64 (IntKind.i64.wrap (t1 + 1)), AV.int .i64 (fI ((h0.set t5.toNat (AV.agg [AV.int .i64 t1, AV.int .i64 (fI (h0.getD t5.toNat AV.undef) 1), AV.int .i64 (fI (h0.getD t5.toNat AV.undef) 2), AV.int .i64 (fI (h0.getD t5.toNat AV.undef) 3)])).getD t5.toNat AV.undef) 2), AV.int .i64 (fI ((h0.set t5.toNat (AV.agg [AV.int .i64 t1, AV.int .i64 (fI (h0.getD t5.toNat AV.undef) 1), AV.int .i64 (fI (h0.getD t5.toNat AV.undef) 2), AV.int .i64 (fI (h0.getD t5.toNat AV.undef) 3)])).getD t5.toNat AV.undef) 3)])).getD t5.toNat AV.undef) 3)])).getD t5.toNat AV.undef) 1), AV.int .i64 (fI ((((h0.set t5.toNat (AV.agg [AV.int .i64 t1, AV.int .i64 (fI (h0.getD t5.toNat AV.undef) 1), AV.int .i64 (fI (h0.getD t5.toNat AV.undef) 2), AV.int .i64 (fI (h0.getD t5.toNat AV.undef) 3)])).set t5.toNat (AV.agg [AV.int .i64 (fI ((h0.set t5.toNat (AV.agg [AV.int .i64 t1, AV.int .i64 (fI (h0.getD t5.toNat AV.undef) 1), AV.int .i64 (fI (h0.getD t5.toNat AV.undef) 2), AV.int .i64 (fI (h0.getD t5.toNat AV.undef) 3)])).getD t5.toNat AV.undef) 0), AV.int .i64 (IntKind.i64.wrap (t1 + 1)), AV.int .i64 (fI ((h0.set t5.toNat (AV.agg [AV.int .i64 t1, AV.int .i64 (fI (h0.getD t5.toNat AV.undef) 1), AV.int .i64 (fI (h0.getD t5.toNat AV.undef) 2), AV.int .i64 (fI (h0.getD t5.toNat AV.undef) 3)])).getD t5.toNat AV.undef) 2), AV.int .i64 (fI ((h0.set t5.toNat (AV.agg [AV.int .i64 t1, AV.int .i64 (fI (h0.getD t5.toNat AV.undef) 1), AV.int .i64 (fI (h0.getD t5.toNat AV.undef) 2), AV.int .i64 (fI (h0.getD t5.toNat AV.undef) 3)])).getD t5.toNat AV.undef) 3)])).set t5.toNat (AV.agg [AV.int .i64 (fI (((h0.set t5.toNat (AV.agg [AV.int .i64 t1, AV.int .i64 (fI (h0.getD t5.toNat AV.undef) 1), AV.int .i64 (fI (h0.getD t5.toNat AV.undef) 2), AV.int .i64 (fI (h0.getD t5.toNat AV.undef) 3)])).set t5.toNat (AV.agg [AV.int .i64 (fI ((h0.set t5.toNat (AV.agg [AV.int .i64 t1, AV.int .i64 (fI (h0.getD t5.toNat AV.undef) 1), AV.int .i64 (fI (h0.getD t5.toNat AV.undef) 2), AV.int .i64 (fI (h0.getD t5.toNat AV.undef) 3)])).getD t5.toNat AV.undef) 0), AV.int .i64 (IntKind.i64.wrap (t1 + 1)), AV.int .i64 (fI ((h0.set t5.toNat (AV.agg [AV.int .i64 t1, AV.int .i64 (fI (h0.getD t5.toNat AV.undef) 1), AV.int .i64 (fI (h0.getD t5.toNat AV.undef) 2), AV.int .i64 (fI (h0.getD t5.toNat AV.undef) 3)])).getD t5.toNat AV.undef) 2), AV.int .i64 (fI ((h0.set t5.toNat (AV.agg [AV.int .i64 t1, AV.int .i64 (fI (h0.getD t5.toNat AV.undef) 1), AV.int .i64 (fI (h0.getD t5.toNat AV.undef) 2), AV.int .i64 (fI (h0.getD t5.toNat AV.undef) 3)])).getD t5.toNat AV.undef) 3)])).getD t5.toNat AV.undef) 0), AV.int .i64 (fI (((h0.set t5.toNat (AV.agg [AV.int .i64 t1, AV.int .i64 (fI (h0.getD t5.toNat AV.undef) 1), AV.int .i64 (fI (h0.getD t5.toNat AV.undef) 2), AV.int .i64 (fI (h0.getD t5.toNat AV.undef) 3)])).set t5.toNat (AV.agg [AV.int .i64 (fI ((h0.set t5.toNat (AV.agg [AV.int .i64 t1, AV.int .i64 (fI (h0.getD t5.toNat AV.undef) 1), AV.int .i64 (fI (h0.getD t5.toNat AV.undef) 2), AV.int .i64 (fI (h0.getD t5.toNat AV.undef) 3)])).getD t5.toNat AV.undef) 0), AV.int .i64 (IntKind.i64.wrap (t1 + 1)), AV.int .i64 (fI ((h0.set t5.toNat (AV.agg [AV.int .i64 t1, AV.int .i64 (fI (h0.getD t5.toNat AV.undef) 1), AV.int .i64 (fI (h0.getD t5.toNat AV.undef) 2), AV.int .i64 (fI (h0.getD t5.toNat AV.undef) 3)])).getD t5.toNat AV.undef) 2), AV.int .i64 (fI ((h0.set t5.toNat (AV.agg [AV.int .i64 t1, AV.int .i64 (fI (h0.getD t5.toNat AV.undef) 1), AV.int .i64 (fI (h0.getD t5.toNat AV.undef) 2), AV.int .i64 (fI (h0.getD t5.toNat AV.undef) 3)])).getD t5.toNat AV.undef) 3)])).getD t5.toNat AV.undef) 1), AV.int .i64 (IntKind.i64.wrap (IntKind.i64.wrap (t1 + 1) + 1)), AV.int .i64 (fI (((h0.set t5.toNat (AV.agg [AV.int .i64 t1, AV.int .i64 (fI (h0.getD t5.toNat AV.undef) 1), AV.int .i64 (fI (h0.getD t5.toNat AV.undef) 2), AV.int .i64 (fI (h0.getD t5.toNat AV.undef) 3)])).set t5.toNat (AV.agg [AV.int .i64 (fI ((h0.set t5.toNat (AV.agg [AV.int .i64 t1, AV.int .i64 (fI (h0.getD t5.toNat AV.undef) 1), AV.int .i64 (fI (h0.getD t5.toNat AV.undef) 2), AV.int .i64 (fI (h0.getD t5.toNat AV.undef) 3)])).getD t5.toNat AV.undef) 0), AV.int .i64 (IntKind.i64.wrap (t1 + 1)), AV.int .i64 (fI ((h0.set t5.toNat (AV.agg [AV.int .i64 t1, AV.int .i64 (fI (h0.getD t5.toNat AV.undef) 1), AV.int .i64 (fI (h0.getD t5.toNat AV.undef) 2), AV.int .i64 (fI (h0.getD t5.toNat AV.undef) 3)])).getD t5.toNat AV.undef) 2), AV.int .i64 (fI ((h0.set t5.toNat (AV.agg [AV.int .i64 t1, AV.int .i64 (fI (h0.getD t5.toNat AV.undef) 1), AV.int .i64 (fI (h0.getD t5.toNat AV.undef) 2), AV.int .i64 (fI (h0.getD t5.toNat AV.undef) 3)])).getD t5.toNat AV.undef) 3)])).getD t5.toNat AV.undef) 3)])).getD t5.toNat AV.undef) 2), AV.int .i64 (IntKind.i64.wrap (IntKind.i64.wrap (IntKind.i64.wrap (t1 + 1) + 1) + 1))]))
      else .fail)
     else .fail)
    else .fail)
   else .fail)
  else .stop (t1, h0))
def R97_0 : ((Int × Int × (List AV))) → Out ((Int × Int × (List AV))) ((Int × (List AV))) := fun s : Int × Int × (List AV) => F97_0 s.1 s.2.1 s.2.2
def l97_0 : LModel := fun _ _ st k => match st with
  | ⟨[(0, .own g0), (1, .int .i64 t1), (5, .int .i64 t5)], [(g1, ⟨false, g2, h0⟩)]⟩ => bif nmEq g0 ([1]) && nmEq g1 ([1]) && ctsEq g2 ([.int .i64, .int .i64, .int .i64, .int .i64]) then ro (runW (R97_0) (((h0.length : Int) - t5).toNat + 1) (t1, t5, h0)) none (fun p : Int × (List AV) => k (.exit 0) ⟨[(1, AV.int .i64 p.1)], [([1], ⟨false, [.int .i64, .int .i64, .int .i64, .int .i64], p.2⟩)]⟩) else none
  | _ => none
noncomputable def c97 : Cfg := cfg Try.prog [(97, 0, [0, 1, 5]), (97, 999, [4]), (97, 1000, [1]), (97, 1001, [0, 1, 5])] [] [] [] [(97, 0, l97_0)]
theorem s97_0 (ce : CallE) (t1 : Int) (t5 : Int) (h0 : List AV) (next : St → Option AV) (k : Kont) : stepA (codeA c97 ce [0] 97 0 (sub [1, 0, 1, 0, 0] (body Try.f97))) (normA [0] [0, 1, 5]) next ⟨[(0, AV.own [1]), (1, AV.int .i64 t1), (5, AV.int .i64 t5)], [([1], ⟨false, [.int .i64, .int .i64, .int .i64, .int .i64], h0⟩)]⟩ k = (bif decide (t5 < (h0.length : Int)) then (bif (decide (0 ≤ t5) && decide (t5 < (h0.length : Int))) then (bif (decide (0 ≤ t5) && decide (t5 < ((h0.set t5.toNat (AV.agg [AV.int .i64 t1, AV.int .i64 (fI (h0.getD t5.toNat AV.undef) 1), AV.int .i64 (fI (h0.getD t5.toNat AV.undef) 2), AV.int .i64 (fI (h0.getD t5.toNat AV.undef) 3)])).length : Int))) then (bif (decide (0 ≤ t5) && decide (t5 < (((h0.set t5.toNat (AV.agg [AV.int .i64 t1, AV.int .i64 (fI (h0.getD t5.toNat AV.undef) 1), AV.int .i64 (fI (h0.getD t5.toNat AV.undef) 2), AV.int .i64 (fI (h0.getD t5.toNat AV.undef) 3)])).set t5.toNat (AV.agg [AV.int .i64 (fI ((h0.set t5.toNat (AV.agg [AV.int .i64 t1, AV.int .i64 (fI (h0.getD t5.toNat AV.undef) 1), AV.int .i64 (fI (h0.getD t5.toNat AV.undef) 2), AV.int .i64 (fI (h0.getD t5.toNat AV.undef) 3)])).getD t5.toNat AV.undef) 0), AV.int .i64 (IntKind.i64.wrap (t1 + 1)), AV.int .i64 (fI ((h0.set t5.toNat (AV.agg [AV.int .i64 t1, AV.int .i64 (fI (h0.getD t5.toNat AV.undef) 1), AV.int .i64 (fI (h0.getD t5.toNat AV.undef) 2), AV.int .i64 (fI (h0.getD t5.toNat AV.undef) 3)])).getD t5.toNat AV.undef) 2), AV.int .i64 (fI ((h0.set t5.toNat (AV.agg [AV.int .i64 t1, AV.int .i64 (fI (h0.getD t5.toNat AV.undef) 1), AV.int .i64 (fI (h0.getD t5.toNat AV.undef) 2), AV.int .i64 (fI (h0.getD t5.toNat AV.undef) 3)])).getD t5.toNat AV.undef) 3)])).length : Int))) then (bif (decide (0 ≤ t5) && decide (t5 < ((((h0.set t5.toNat (AV.agg [AV.int .i64 t1, AV.int .i64 (fI (h0.getD t5.toNat AV.undef) 1), AV.int .i64 (fI (h0.getD t5.toNat AV.undef) 2), AV.int .i64 (fI (h0.getD t5.toNat AV.undef) 3)])).set t5.toNat (AV.agg [AV.int .i64 (fI ((h0.set t5.toNat (AV.agg [AV.int .i64 t1, AV.int .i64 (fI (h0.getD t5.toNat AV.undef) 1), AV.int .i64 (fI (h0.getD t5.toNat AV.undef) 2), AV.int .i64 (fI (h0.getD t5.toNat AV.undef) 3)])).getD t5.toNat AV.undef) 0), AV.int .i64 (IntKind.i64.wrap (t1 + 1)), AV.int .i64 (fI ((h0.set t5.toNat (AV.agg [AV.int .i64 t1, AV.int .i64 (fI (h0.getD t5.toNat AV.undef) 1), AV.int .i64 (fI (h0.getD t5.toNat AV.undef) 2), AV.int .i64 (fI (h0.getD t5.toNat AV.undef) 3)])).getD t5.toNat AV.undef) 2), AV.int .i64 (fI ((h0.set t5.toNat (AV.agg [AV.int .i64 t1, AV.int .i64 (fI (h0.getD t5.toNat AV.undef) 1), AV.int .i64 (fI (h0.getD t5.toNat AV.undef) 2), AV.int .i64 (fI (h0.getD t5.toNat AV.undef) 3)])).getD t5.toNat AV.undef) 3)])).set t5.toNat (AV.agg [AV.int .i64 (fI (((h0.set t5.toNat (AV.agg [AV.int .i64 t1, AV.int .i64 (fI (h0.getD t5.toNat AV.undef) 1), AV.int .i64 (fI (h0.getD t5.toNat AV.undef) 2), AV.int .i64 (fI (h0.getD t5.toNat AV.undef) 3)])).set t5.toNat (AV.agg [AV.int .i64 (fI ((h0.set t5.toNat (AV.agg [AV.int .i64 t1, AV.int .i64 (fI (h0.getD t5.toNat AV.undef) 1), AV.int .i64 (fI (h0.getD t5.toNat AV.undef) 2), AV.int .i64 (fI (h0.getD t5.toNat AV.undef) 3)])).getD t5.toNat AV.undef) 0), AV.int .i64 (IntKind.i64.wrap (t1 + 1)), AV.int .i64 (fI ((h0.set t5.toNat (AV.agg [AV.int .i64 t1, AV.int .i64 (fI (h0.getD t5.toNat AV.undef) 1), AV.int .i64 (fI (h0.getD t5.toNat AV.undef) 2), AV.int .i64 (fI (h0.getD t5.toNat AV.undef) 3)])).getD t5.toNat AV.undef) 2), AV.int .i64 (fI ((h0.set t5.toNat (AV.agg [AV.int .i64 t1, AV.int .i64 (fI (h0.getD t5.toNat AV.undef) 1), AV.int .i64 (fI (h0.getD t5.toNat AV.undef) 2), AV.int .i64 (fI (h0.getD t5.toNat AV.undef) 3)])).getD t5.toNat AV.undef) 3)])).getD t5.toNat AV.undef) 0), AV.int .i64 (fI (((h0.set t5.toNat (AV.agg [AV.int .i64 t1, AV.int .i64 (fI (h0.getD t5.toNat AV.undef) 1), AV.int .i64 (fI (h0.getD t5.toNat AV.undef) 2), AV.int .i64 (fI (h0.getD t5.toNat AV.undef) 3)])).set t5.toNat (AV.agg [AV.int .i64 (fI ((h0.set t5.toNat (AV.agg [AV.int .i64 t1, AV.int .i64 (fI (h0.getD t5.toNat AV.undef) 1), AV.int .i64 (fI (h0.getD t5.toNat AV.undef) 2), AV.int .i64 (fI (h0.getD t5.toNat AV.undef) 3)])).getD t5.toNat AV.undef) 0), AV.int .i64 (IntKind.i64.wrap (t1 + 1)), AV.int .i64 (fI ((h0.set t5.toNat (AV.agg [AV.int .i64 t1, AV.int .i64 (fI (h0.getD t5.toNat AV.undef) 1), AV.int .i64 (fI (h0.getD t5.toNat AV.undef) 2), AV.int .i64 (fI (h0.getD t5.toNat AV.undef) 3)])).getD t5.toNat AV.undef) 2), AV.int .i64 (fI ((h0.set t5.toNat (AV.agg [AV.int .i64 t1, AV.int .i64 (fI (h0.getD t5.toNat AV.undef) 1), AV.int .i64 (fI (h0.getD t5.toNat AV.undef) 2), AV.int .i64 (fI (h0.getD t5.toNat AV.undef) 3)])).getD t5.toNat AV.undef) 3)])).getD t5.toNat AV.undef) 1), AV.int .i64 (IntKind.i64.wrap (IntKind.i64.wrap (t1 + 1) + 1)), AV.int .i64 (fI (((h0.set t5.toNat (AV.agg [AV.int .i64 t1, AV.int .i64 (fI (h0.getD t5.toNat AV.undef) 1), AV.int .i64 (fI (h0.getD t5.toNat AV.undef) 2), AV.int .i64 (fI (h0.getD t5.toNat AV.undef) 3)])).set t5.toNat (AV.agg [AV.int .i64 (fI ((h0.set t5.toNat (AV.agg [AV.int .i64 t1, AV.int .i64 (fI (h0.getD t5.toNat AV.undef) 1), AV.int .i64 (fI (h0.getD t5.toNat AV.undef) 2), AV.int .i64 (fI (h0.getD t5.toNat AV.undef) 3)])).getD t5.toNat AV.undef) 0), AV.int .i64 (IntKind.i64.wrap (t1 + 1)), AV.int .i64 (fI ((h0.set t5.toNat (AV.agg [AV.int .i64 t1, AV.int .i64 (fI (h0.getD t5.toNat AV.undef) 1), AV.int .i64 (fI (h0.getD t5.toNat AV.undef) 2), AV.int .i64 (fI (h0.getD t5.toNat AV.undef) 3)])).getD t5.toNat AV.undef) 2), AV.int .i64 (fI ((h0.set t5.toNat (AV.agg [AV.int .i64 t1, AV.int .i64 (fI (h0.getD t5.toNat AV.undef) 1), AV.int .i64 (fI (h0.getD t5.toNat AV.undef) 2), AV.int .i64 (fI (h0.getD t5.toNat AV.undef) 3)])).getD t5.toNat AV.undef) 3)])).getD t5.toNat AV.undef) 3)])).length : Int))) then next ⟨[(0, AV.own [1]), (1, AV.int .i64 (IntKind.i64.wrap (IntKind.i64.wrap (IntKind.i64.wrap (IntKind.i64.wrap (t1 + 1) + 1) + 1) + 1))), (5, AV.int .i64 (IntKind.i64.wrap (t5 + 1)))], [([1], ⟨false, [.int .i64, .int .i64, .int .i64, .int .i64], (((h0.set t5.toNat (AV.agg [AV.int .i64 t1, AV.int .i64 (fI (h0.getD t5.toNat AV.undef) 1), AV.int .i64 (fI (h0.getD t5.toNat AV.undef) 2), AV.int .i64 (fI (h0.getD t5.toNat AV.undef) 3)])).set t5.toNat (AV.agg [AV.int .i64 (fI ((h0.set t5.toNat (AV.agg [AV.int .i64 t1, AV.int .i64 (fI (h0.getD t5.toNat AV.undef) 1), AV.int .i64 (fI (h0.getD t5.toNat AV.undef) 2), AV.int .i64 (fI (h0.getD t5.toNat AV.undef) 3)])).getD t5.toNat AV.undef) 0), AV.int .i64 (IntKind.i64.wrap (t1 + 1)), AV.int .i64 (fI ((h0.set t5.toNat (AV.agg [AV.int .i64 t1, AV.int .i64 (fI (h0.getD t5.toNat AV.undef) 1), AV.int .i64 (fI (h0.getD t5.toNat AV.undef) 2), AV.int .i64 (fI (h0.getD t5.toNat AV.undef) 3)])).getD t5.toNat AV.undef) 2), AV.int .i64 (fI ((h0.set t5.toNat (AV.agg [AV.int .i64 t1, AV.int .i64 (fI (h0.getD t5.toNat AV.undef) 1), AV.int .i64 (fI (h0.getD t5.toNat AV.undef) 2), AV.int .i64 (fI (h0.getD t5.toNat AV.undef) 3)])).getD t5.toNat AV.undef) 3)])).set t5.toNat (AV.agg [AV.int .i64 (fI (((h0.set t5.toNat (AV.agg [AV.int .i64 t1, AV.int .i64 (fI (h0.getD t5.toNat AV.undef) 1), AV.int .i64 (fI (h0.getD t5.toNat AV.undef) 2), AV.int .i64 (fI (h0.getD t5.toNat AV.undef) 3)])).set t5.toNat (AV.agg [AV.int .i64 (fI ((h0.set t5.toNat (AV.agg [AV.int .i64 t1, AV.int .i64 (fI (h0.getD t5.toNat AV.undef) 1), AV.int .i64 (fI (h0.getD t5.toNat AV.undef) 2), AV.int .i64 (fI (h0.getD t5.toNat AV.undef) 3)])).getD t5.toNat AV.undef) 0), AV.int .i64 (IntKind.i64.wrap (t1 + 1)), AV.int .i64 (fI ((h0.set t5.toNat (AV.agg [AV.int .i64 t1, AV.int .i64 (fI (h0.getD t5.toNat AV.undef) 1), AV.int .i64 (fI (h0.getD t5.toNat AV.undef) 2), AV.int .i64 (fI (h0.getD t5.toNat AV.undef) 3)])).getD t5.toNat AV.undef) 2), AV.int .i64 (fI ((h0.set t5.toNat (AV.agg [AV.int .i64 t1, AV.int .i64 (fI (h0.getD t5.toNat AV.undef) 1), AV.int .i64 (fI (h0.getD t5.toNat AV.undef) 2), AV.int .i64 (fI (h0.getD t5.toNat AV.undef) 3)])).getD t5.toNat AV.undef) 3)])).getD t5.toNat AV.undef) 0), AV.int .i64 (fI (((h0.set t5.toNat (AV.agg [AV.int .i64 t1, AV.int .i64 (fI (h0.getD t5.toNat AV.undef) 1), AV.int .i64 (fI (h0.getD t5.toNat AV.undef) 2), AV.int .i64 (fI (h0.getD t5.toNat AV.undef) 3)])).set t5.toNat (AV.agg [AV.int .i64 (fI ((h0.set t5.toNat (AV.agg [AV.int .i64 t1, AV.int .i64 (fI (h0.getD t5.toNat AV.undef) 1), AV.int .i64 (fI (h0.getD t5.toNat AV.undef) 2), AV.int .i64 (fI (h0.getD t5.toNat AV.undef) 3)])).getD t5.toNat AV.undef) 0), AV.int .i64 (IntKind.i64.wrap (t1 + 1)), AV.int .i64 (fI ((h0.set t5.toNat (AV.agg [AV.int .i64 t1, AV.int .i64 (fI (h0.getD t5.toNat AV.undef) 1), AV.int .i64 (fI (h0.getD t5.toNat AV.undef) 2), AV.int .i64 (fI (h0.getD t5.toNat AV.undef) 3)])).getD t5.toNat AV.undef) 2), AV.int .i64 (fI ((h0.set t5.toNat (AV.agg [AV.int .i64 t1, AV.int .i64 (fI (h0.getD t5.toNat AV.undef) 1), AV.int .i64 (fI (h0.getD t5.toNat AV.undef) 2), AV.int .i64 (fI (h0.getD t5.toNat AV.undef) 3)])).getD t5.toNat AV.undef) 3)])).getD t5.toNat AV.undef) 1), AV.int .i64 (IntKind.i64.wrap (IntKind.i64.wrap (t1 + 1) + 1)), AV.int .i64 (fI (((h0.set t5.toNat (AV.agg [AV.int .i64 t1, AV.int .i64 (fI (h0.getD t5.toNat AV.undef) 1), AV.int .i64 (fI (h0.getD t5.toNat AV.undef) 2), AV.int .i64 (fI (h0.getD t5.toNat AV.undef) 3)])).set t5.toNat (AV.agg [AV.int .i64 (fI ((h0.set t5.toNat (AV.agg [AV.int .i64 t1, AV.int .i64 (fI (h0.getD t5.toNat AV.undef) 1), AV.int .i64 (fI (h0.getD t5.toNat AV.undef) 2), AV.int .i64 (fI (h0.getD t5.toNat AV.undef) 3)])).getD t5.toNat AV.undef) 0), AV.int .i64 (IntKind.i64.wrap (t1 + 1)), AV.int .i64 (fI ((h0.set t5.toNat (AV.agg [AV.int .i64 t1, AV.int .i64 (fI (h0.getD t5.toNat AV.undef) 1), AV.int .i64 (fI (h0.getD t5.toNat AV.undef) 2), AV.int .i64 (fI (h0.getD t5.toNat AV.undef) 3)])).getD t5.toNat AV.undef) 2), AV.int .i64 (fI ((h0.set t5.toNat (AV.agg [AV.int .i64 t1, AV.int .i64 (fI (h0.getD t5.toNat AV.undef) 1), AV.int .i64 (fI (h0.getD t5.toNat AV.undef) 2), AV.int .i64 (fI (h0.getD t5.toNat AV.undef) 3)])).getD t5.toNat AV.undef) 3)])).getD t5.toNat AV.undef) 3)])).set t5.toNat (AV.agg [AV.int .i64 (fI ((((h0.set t5.toNat (AV.agg [AV.int .i64 t1, AV.int .i64 (fI (h0.getD t5.toNat AV.undef) 1), AV.int .i64 (fI (h0.getD t5.toNat AV.undef) 2), AV.int .i64 (fI (h0.getD t5.toNat AV.undef) 3)])).set t5.toNat (AV.agg [AV.int .i64 (fI ((h0.set t5.toNat (AV.agg [AV.int .i64 t1, AV.int .i64 (fI (h0.getD t5.toNat AV.undef) 1), AV.int .i64 (fI (h0.getD t5.toNat AV.undef) 2), AV.int .i64 (fI (h0.getD t5.toNat AV.undef) 3)])).getD t5.toNat AV.undef) 0), AV.int .i64 (IntKind.i64.wrap (t1 + 1)), AV.int .i64 (fI ((h0.set t5.toNat (AV.agg [AV.int .i64 t1, AV.int .i64 (fI (h0.getD t5.toNat AV.undef) 1), AV.int .i64 (fI (h0.getD t5.toNat AV.undef) 2), AV.int .i64 (fI (h0.getD t5.toNat AV.undef) 3)])).getD t5.toNat AV.undef) 2), AV.int .i64 (fI ((h0.set t5.toNat (AV.agg [AV.int .i64 t1, AV.int .i64 (fI (h0.getD t5.toNat AV.undef) 1), AV.int .i64 (fI (h0.getD t5.toNat AV.undef) 2), AV.int .i64 (fI (h0.getD t5.toNat AV.undef) 3)])).getD t5.toNat AV.undef) 3)])).set t5.toNat (AV.agg [AV.int .i64 (fI (((h0.set t5.toNat (AV.agg [AV.int .i64 t1, AV.int .i64 (fI (h0.getD t5.toNat AV.undef) 1), AV.int .i64 (fI (h0.getD t5.toNat AV.undef) 2), AV.int .i64 (fI (h0.getD t5.toNat AV.undef) 3)])).set t5.toNat (AV.agg [AV.int .i64 (fI ((h0.set t5.toNat (AV.agg [AV.int .i64 t1, AV.int .i64 (fI (h0.getD t5.toNat AV.undef) 1), AV.int .i64 (fI (h0.getD t5.toNat AV.undef) 2), AV.int .i64 (fI (h0.getD t5.toNat AV.undef) 3)])).getD t5.toNat AV.undef) 0), AV.int .i64 (IntKind.i64.wrap (t1 + 1)), AV.int .i64 (fI ((h0.set t5.toNat (AV.agg [AV.int .i64 t1, AV.int .i64 (fI (h0.getD t5.toNat AV.undef) 1), AV.int .i64 (fI (h0.getD t5.toNat AV.undef) 2), AV.int .i64 (fI (h0.getD t5.toNat AV.undef) 3)])).getD t5.toNat AV.undef) 2), AV.int .i64 (fI ((h0.set t5.toNat (AV.agg [AV.int .i64 t1, AV.int .i64 (fI (h0.getD t5.toNat AV.undef) 1), AV.int .i64 (fI (h0.getD t5.toNat AV.undef) 2), AV.int .i64 (fI (h0.getD t5.toNat AV.undef) 3)])).getD t5.toNat AV.undef) 3)])).getD t5.toNat AV.undef) 0), AV.int .i64 (fI (((h0.set t5.toNat (AV.agg [AV.int .i64 t1, AV.int .i64 (fI (h0.getD t5.toNat AV.undef) 1), AV.int .i64 (fI (h0.getD t5.toNat AV.undef) 2), AV.int .i64 (fI (h0.getD t5.toNat AV.undef) 3)])).set t5.toNat (AV.agg [AV.int .i64 (fI ((h0.set t5.toNat (AV.agg [AV.int .i64 t1, AV.int .i64 (fI (h0.getD t5.toNat AV.undef) 1), AV.int .i64 (fI (h0.getD t5.toNat AV.undef) 2), AV.int .i64 (fI (h0.getD t5.toNat AV.undef) 3)])).getD t5.toNat AV.undef) 0), AV.int .i64 (IntKind.i64.wrap (t1 + 1)), AV.int .i64 (fI ((h0.set t5.toNat (AV.agg [AV.int .i64 t1, AV.int .i64 (fI (h0.getD t5.toNat AV.undef) 1), AV.int .i64 (fI (h0.getD t5.toNat AV.undef) 2), AV.int .i64 (fI (h0.getD t5.toNat AV.undef) 3)])).getD t5.toNat AV.undef) 2), AV.int .i64 (fI ((h0.set t5.toNat (AV.agg [AV.int .i64 t1, AV.int .i64 (fI (h0.getD t5.toNat AV.undef) 1), AV.int .i64 (fI (h0.getD t5.toNat AV.undef) 2), AV.int .i64 (fI (h0.getD t5.toNat AV.undef) 3)])).getD t5.toNat AV.undef) 3)])).getD t5.toNat AV.undef) 1), AV.int .i64 (IntKind.i64.wrap (IntKind.i64.wrap (t1 + 1) + 1)), AV.int .i64 (fI (((h0.set t5.toNat (AV.agg [AV.int .i64 t1, AV.int .i64 (fI (h0.getD t5.toNat AV.undef) 1), AV.int .i64 (fI (h0.getD t5.toNat AV.undef) 2), AV.int .i64 (fI (h0.getD t5.toNat AV.undef) 3)])).set t5.toNat (AV.agg [AV.int .i64 (fI ((h0.set t5.toNat (AV.agg [AV.int .i64 t1, AV.int .i64 (fI (h0.getD t5.toNat AV.undef) 1), AV.int .i64 (fI (h0.getD t5.toNat AV.undef) 2), AV.int .i64 (fI (h0.getD t5.toNat AV.undef) 3)])).getD t5.toNat AV.undef) 0), AV.int .i64 (IntKind.i64.wrap (t1 + 1)), AV.int .i64 (fI ((h0.set t5.toNat (AV.agg [AV.int .i64 t1, AV.int .i64 (fI (h0.getD t5.toNat AV.undef) 1), AV.int .i64 (fI (h0.getD t5.toNat AV.undef) 2), AV.int .i64 (fI (h0.getD t5.toNat AV.undef) 3)])).getD t5.toNat AV.undef) 2), AV.int .i64 (fI ((h0.set t5.toNat (AV.agg [AV.int .i64 t1, AV.int .i64 (fI (h0.getD t5.toNat AV.undef) 1), AV.int .i64 (fI (h0.getD t5.toNat AV.undef) 2), AV.int .i64 (fI (h0.getD t5.toNat AV.undef) 3)])).getD t5.toNat AV.undef) 3)])).getD t5.toNat AV.undef) 3)])).getD t5.toNat AV.undef) 0), AV.int .i64 (fI ((((h0.set t5.toNat (AV.agg [AV.int .i64 t1, AV.int .i64 (fI (h0.getD t5.toNat AV.undef) 1), AV.int .i64 (fI (h0.getD t5.toNat AV.undef) 2), AV.int .i64 (fI (h0.getD t5.toNat AV.undef) 3)])).set t5.toNat (AV.agg [AV.int .i64 (fI ((h0.set t5.toNat (AV.agg [AV.int .i64 t1, AV.int .i64 (fI (h0.getD t5.toNat AV.undef) 1), AV.int .i64 (fI (h0.getD t5.toNat AV.undef) 2), AV.int .i64 (fI (h0.getD t5.toNat AV.undef) 3)])).getD t5.toNat AV.undef) 0), AV.int .i64 (IntKind.i64.wrap (t1 + 1)), AV.int .i64 (fI ((h0.set t5.toNat (AV.agg [AV.int .i64 t1, AV.int .i64 (fI (h0.getD t5.toNat AV.undef) 1), AV.int .i64 (fI (h0.getD t5.toNat AV.undef) 2), AV.int .i64 (fI (h0.getD t5.toNat AV.undef) 3)])).getD t5.toNat AV.undef) 2), AV.int .i64 (fI ((h0.set t5.toNat (AV.agg [AV.int .i64 t1, AV.int .i64 (fI (h0.getD t5.toNat AV.undef) 1), AV.int .i64 (fI (h0.getD t5.toNat AV.undef) 2), AV.int .i64 (fI (h0.getD t5.toNat AV.undef) 3)])).getD t5.toNat AV.undef) 3)])).set t5.toNat (AV.agg [AV.int .i64 (fI (((h0.set t5.toNat (AV.agg [AV.int .i64 t1, AV.int .i64 (fI (h0.getD t5.toNat AV.undef) 1), AV.int .i64 (fI (h0.getD t5.toNat AV.undef) 2), AV.int .i64 (fI (h0.getD t5.toNat AV.undef) 3)])).set t5.toNat (AV.agg [AV.int .i64 (fI ((h0.set t5.toNat (AV.agg [AV.int .i64 t1, AV.int .i64 (fI (h0.getD t5.toNat AV.undef) 1), AV.int .i64 (fI (h0.getD t5.toNat AV.undef) 2), AV.int .i64 (fI (h0.getD t5.toNat AV.undef) 3)])).getD t5.toNat AV.undef) 0), AV.int .i64 (IntKind.i64.wrap (t1 + 1)), AV.int .i64 (fI ((h0.set t5.toNat (AV.agg [AV.int .i64 t1, AV.int .i64 (fI (h0.getD t5.toNat AV.undef) 1), AV.int .i64 (fI (h0.getD t5.toNat AV.undef) 2), AV.int .i64 (fI (h0.getD t5.toNat AV.undef) 3)])).getD t5.toNat AV.undef) 2), AV.int .i64 (fI ((h0.set t5.toNat (AV.agg [AV.int .i64 t1, AV.int .i64 (fI (h0.getD t5.toNat AV.undef) 1), AV.int .i64 (fI (h0.getD t5.toNat AV.undef) 2), AV.int .i64 (fI (h0.getD t5.toNat AV.undef) 3)])).getD t5.toNat AV.undef) 3)])).getD t5.toNat AV.undef) 0), AV.int .i64 (fI (((h0.set t5.toNat (AV.agg [AV.int .i64 t1, AV.int .i64 (fI (h0.getD t5.toNat AV.undef) 1), AV.int .i64 (fI (h0.getD t5.toNat AV.undef) 2), AV.int .i64 (fI (h0.getD t5.toNat AV.undef) 3)])).set t5.toNat (AV.agg [AV.int .i64 (fI ((h0.set t5.toNat (AV.agg [AV.int .i64 t1, AV.int .i64 (fI (h0.getD t5.toNat AV.undef) 1), AV.int .i64 (fI (h0.getD t5.toNat AV.undef) 2), AV.int .i64 (fI (h0.getD t5.toNat AV.undef) 3)])).getD t5.toNat AV.undef) 0), AV.int .i64 (IntKind.i64.wrap (t1 + 1)), AV.int .i64 (fI ((h0.set t5.toNat (AV.agg [AV.int .i64 t1, AV.int .i64 (fI (h0.getD t5.toNat AV.undef) 1), AV.int .i64 (fI (h0.getD t5.toNat AV.undef) 2), AV.int .i64 (fI (h0.getD t5.toNat AV.undef) 3)])).getD t5.toNat AV.undef) 2), AV.int .i64 (fI ((h0.set t5.toNat (AV.agg [AV.int .i64 t1, AV.int .i64 (fI (h0.getD t5.toNat AV.undef) 1), AV.int .i64 (fI (h0.getD t5.toNat AV.undef) 2), AV.int .i64 (fI (h0.getD t5.toNat AV.undef) 3)])).getD t5.toNat AV.undef) 3)])).getD t5.toNat AV.undef) 1), AV.int .i64 (IntKind.i64.wrap (IntKind.i64.wrap (t1 + 1) + 1)), AV.int .i64 (fI (((h0.set t5.toNat (AV.agg [AV.int .i64 t1, AV.int .i64 (fI (h0.getD t5.toNat AV.undef) 1), AV.int .i64 (fI (h0.getD t5.toNat AV.undef) 2), AV.int .i64 (fI (h0.getD t5.toNat AV.undef) 3)])).set t5.toNat (AV.agg [AV.int .i64 (fI ((h0.set t5.toNat (AV.agg [AV.int .i64 t1, AV.int .i64 (fI (h0.getD t5.toNat AV.undef) 1), AV.int .i64 (fI (h0.getD t5.toNat AV.undef) 2), AV.int .i64 (fI (h0.getD t5.toNat AV.undef) 3)])).getD t5.toNat AV.undef) 0), AV.int .i64 (IntKind.i64.wrap (t1 + 1)), AV.int .i64 (fI ((h0.set t5.toNat (AV.agg [AV.int .i64 t1, AV.int .i64 (fI (h0.getD t5.toNat AV.undef) 1), AV.int .i64 (fI (h0.getD t5.toNat AV.undef) 2), AV.int .i64 (fI (h0.getD t5.toNat AV.undef) 3)])).getD t5.toNat AV.undef) 2), AV.int .i64 (fI ((h0.set t5.toNat (AV.agg [AV.int .i64 t1, AV.int .i64 (fI (h0.getD t5.toNat AV.undef) 1), AV.int .i64 (fI (h0.getD t5.toNat AV.undef) 2), AV.int .i64 (fI (h0.getD t5.toNat AV.undef) 3)])).getD t5.toNat AV.undef) 3)])).getD t5.toNat AV.undef) 3)])).getD t5.toNat AV.undef) 1), AV.int .i64 (fI ((((h0.set t5.toNat (AV.agg [AV.int .i64 t1, AV.int .i64 (fI (h0.getD t5.toNat AV.undef) 1), AV.int .i64 (fI (h0.getD t5.toNat AV.undef) 2), AV.int .i64 (fI (h0.getD t5.toNat AV.undef) 3)])).set t5.toNat (AV.agg [AV.int .i64 (fI ((h0.set t5.toNat (AV.agg [AV.int .i64 t1, AV.int .i64 (fI (h0.getD t5.toNat AV.undef) 1), AV.int .i64 (fI (h0.getD t5.toNat AV.undef) 2), AV.int .i64 (fI (h0.getD t5.toNat AV.undef) 3)])).getD t5.toNat AV.undef) 0), AV.int .i64 (IntKind.i64.wrap (t1 + 1)), AV.int .i64 (fI ((h0.set t5.toNat (AV.agg [AV.int .i64 t1, AV.int .i64 (fI (h0.getD t5.toNat AV.undef) 1), AV.int .i64 (fI (h0.getD t5.toNat AV.undef) 2), AV.int .i64 (fI (h0.getD t5.toNat AV.undef) 3)])).getD t5.toNat AV.undef) 2), AV.int .i64 (fI ((h0.set t5.toNat (AV.agg [AV.int .i64 t1, AV.int .i64 (fI (h0.getD t5.toNat AV.undef) 1), AV.int .i64 (fI (h0.getD t5.toNat AV.undef) 2), AV.int .i64 (fI (h0.getD t5.toNat AV.undef) 3)])).getD t5.toNat AV.undef) 3)])).set t5.toNat (AV.agg [AV.int .i64 (fI (((h0.set t5.toNat (AV.agg [AV.int .i64 t1, AV.int .i64 (fI (h0.getD t5.toNat AV.undef) 1), AV.int .i64 (fI (h0.getD t5.toNat AV.undef) 2), AV.int .i64 (fI (h0.getD t5.toNat AV.undef) 3)])).set t5.toNat (AV.agg [AV.int .i64 (fI ((h0.set t5.toNat (AV.agg [AV.int .i64 t1, AV.int .i64 (fI (h0.getD t5.toNat AV.undef) 1), AV.int .i64 (fI (h0.getD t5.toNat AV.undef) 2), AV.int .i64 (fI (h0.getD t5.toNat AV.undef) 3)])).getD t5.toNat AV.undef) 0), AV.int .i64 (IntKind.i64.wrap (t1 + 1)), AV.int .i64 (fI ((h0.set t5.toNat (AV.agg [AV.int .i64 t1, AV.int .i64 (fI (h0.getD t5.toNat AV.undef) 1), AV.int .i64 (fI (h0.getD t5.toNat AV.undef) 2), AV.int .i64 (fI (h0.getD t5.toNat AV.undef) 3)])).getD t5.toNat AV.undef) 2), AV.int .i64 (fI ((h0.set t5.toNat (AV.agg [AV.int .i64 t1, AV.int .i64 (fI (h0.getD t5.toNat AV.undef) 1), AV.int .i64 (fI (h0.getD t5.toNat AV.undef) 2), AV.int .i64 (fI (h0.getD t5.toNat AV.undef) 3)])).getD t5.toNat AV.undef) 3)])).getD t5.toNat AV.undef) 0), AV.int .i64 (fI (((h0.set t5.toNat (AV.agg [AV.int .i64 t1, AV.int .i64 (fI (h0.getD t5.toNat AV.undef) 1), AV.int .i64 (fI (h0.getD t5.toNat AV.undef) 2), AV.int .i64 (fI (h0.getD t5.toNat AV.undef) 3)])).set t5.toNat (AV.agg [AV.int .i64 (fI ((h0.set t5.toNat (AV.agg [AV.int .i64 t1, AV.int .i64 (fI (h0.getD t5.toNat AV.undef) 1), AV.int .i64 (fI (h0.getD t5.toNat AV.undef) 2), AV.int .i64 (fI (h0.getD t5.toNat AV.undef) 3)])).getD t5.toNat AV.undef) 0), AV.int .i64 (IntKind.i64.wrap (t1 + 1)), AV.int .i64 (fI ((h0.set t5.toNat (AV.agg [AV.int .i64 t1, AV.int .i64 (fI (h0.getD t5.toNat AV.undef) 1), AV.int .i64 (fI (h0.getD t5.toNat AV.undef) 2), AV.int .i64 (fI (h0.getD t5.toNat AV.undef) 3)])).getD t5.toNat AV.undef) 2), AV.int .i64 (fI ((h0.set t5.toNat (AV.agg [AV.int .i64 t1, AV.int .i64 (fI (h0.getD t5.toNat AV.undef) 1), AV.int .i64 (fI (h0.getD t5.toNat AV.undef) 2), AV.int .i64 (fI (h0.getD t5.toNat AV.undef) 3)])).getD t5.toNat AV.undef) 3)])).getD t5.toNat AV.undef) 1), AV.int .i64 (IntKind.i64.wrap (IntKind.i64.wrap (t1 + 1) + 1)), AV.int .i64 (fI (((h0.set t5.toNat (AV.agg [AV.int .i64 t1, AV.int .i64 (fI (h0.getD t5.toNat AV.undef) 1), AV.int .i64 (fI (h0.getD t5.toNat AV.undef) 2), AV.int .i64 (fI (h0.getD t5.toNat AV.undef) 3)])).set t5.toNat (AV.agg [AV.int .i64 (fI ((h0.set t5.toNat (AV.agg [AV.int .i64 t1, AV.int .i64 (fI (h0.getD t5.toNat AV.undef) 1), AV.int .i64 (fI (h0.getD t5.toNat AV.undef) 2), AV.int .i64 (fI (h0.getD t5.toNat AV.undef) 3)])).getD t5.toNat AV.undef) 0), AV.int .i64 (IntKind.i64.wrap (t1 + 1)), AV.int .i64 (fI ((h0.set t5.toNat (AV.agg [AV.int .i64 t1, AV.int .i64 (fI (h0.getD t5.toNat AV.undef) 1), AV.int .i64 (fI (h0.getD t5.toNat AV.undef) 2), AV.int .i64 (fI (h0.getD t5.toNat AV.undef) 3)])).getD t5.toNat AV.undef) 2), AV.int .i64 (fI ((h0.set t5.toNat (AV.agg [AV.int .i64 t1, AV.int .i64 (fI (h0.getD t5.toNat AV.undef) 1), AV.int .i64 (fI (h0.getD t5.toNat AV.undef) 2), AV.int .i64 (fI (h0.getD t5.toNat AV.undef) 3)])).getD t5.toNat AV.undef) 3)])).getD t5.toNat AV.undef) 3)])).getD t5.toNat AV.undef) 2), AV.int .i64 (IntKind.i64.wrap (IntKind.i64.wrap (IntKind.i64.wrap (t1 + 1) + 1) + 1))])⟩)]⟩
      else none)
     else none)
    else none)
   else none)
  else k (.exit 0) ⟨[(1, AV.int .i64 t1)], [([1], ⟨false, [.int .i64, .int .i64, .int .i64, .int .i64], h0⟩)]⟩) := by kernel_rfl
theorem st97_0 (ce : CallE) (k : Kont) (s : (Int × Int × (List AV))) (next : St → Option AV) : stepA (codeA c97 ce [0] 97 0 (sub [1, 0, 1, 0, 0] (body Try.f97))) (normA [0] [0, 1, 5]) next ((fun s : Int × Int × (List AV) => ⟨[(0, AV.own [1]), (1, AV.int .i64 s.1), (5, AV.int .i64 s.2.1)], [([1], ⟨false, [.int .i64, .int .i64, .int .i64, .int .i64], s.2.2⟩)]⟩) s) k = (R97_0 s).el none (fun s => next ((fun s : Int × Int × (List AV) => ⟨[(0, AV.own [1]), (1, AV.int .i64 s.1), (5, AV.int .i64 s.2.1)], [([1], ⟨false, [.int .i64, .int .i64, .int .i64, .int .i64], s.2.2⟩)]⟩) s)) (fun p : Int × (List AV) => k (.exit 0) ⟨[(1, AV.int .i64 p.1)], [([1], ⟨false, [.int .i64, .int .i64, .int .i64, .int .i64], p.2⟩)]⟩) := (s97_0 ce s.1 s.2.1 s.2.2 next k).trans (by unfold R97_0; unfold F97_0; simp only [el_cond, el_ro, el_sum, el_fail, el_next, el_stop] <;> rfl)
theorem ok97_0 : LoopOK c97 [0] 97 0 (sub [1, 0, 1, 0, 0] (body Try.f97)) := by
  intro m hm ce st k r h
  obtain rfl : l97_0 = m := Option.some.inj hm
  unfold l97_0 at h
  split at h
  · rename_i g0 t1 t5 g1 g2 h0
    obtain ⟨hg, h⟩ := bif_some h
    simp only [Bool.and_eq_true] at hg
    obtain ⟨⟨q0, q1⟩, q2⟩ := hg
    obtain rfl := (nmEq_iff _ _).1 q0
    obtain rfl := (nmEq_iff _ _).1 q1
    obtain rfl := ctsEq_eq _ _ q2
    refine ⟨(((h0.length : Int) - t5).toNat + 1), ?_⟩
    rw [← h]
    exact loop_run (fun s : Int × Int × (List AV) => ⟨[(0, AV.own [1]), (1, AV.int .i64 s.1), (5, AV.int .i64 s.2.1)], [([1], ⟨false, [.int .i64, .int .i64, .int .i64, .int .i64], s.2.2⟩)]⟩) (fun p : Int × (List AV) => k (.exit 0) ⟨[(1, AV.int .i64 p.1)], [([1], ⟨false, [.int .i64, .int .i64, .int .i64, .int .i64], p.2⟩)]⟩) (st97_0 ce k) _ (t1, t5, h0)
  · cases h
def q97 (a1 : Int) (b0 : List AV) : Bool := (ro (runW (R97_0) (((b0.length : Int) - 0).toNat + 1) (a1, 0, b0)) false (fun p21 => true))
def v97_0 (a1 : Int) (b0 : List AV) : Int := (ro (runW (R97_0) (((b0.length : Int) - 0).toNat + 1) (a1, 0, b0)) 0 (fun p21 => p21.1))
def v97_1 (a1 : Int) (b0 : List AV) : List AV := (ro (runW (R97_0) (((b0.length : Int) - 0).toNat + 1) (a1, 0, b0)) [] (fun p21 => p21.2))
theorem e97 (a1 : Int) (b0 : List AV) (K : AV → List Blk → Option AV) : inlA c97 1 97 [AV.own [1], AV.int .i64 a1] [0] (canH 1 [⟨false, [.int .i64, .int .i64, .int .i64, .int .i64], b0⟩]) (keepB 1 K) = (ro (runW (R97_0) (((b0.length : Int) - 0).toNat + 1) (a1, 0, b0)) none (fun p21 => K (AV.int .i64 p21.1) [⟨false, [.int .i64, .int .i64, .int .i64, .int .i64], p21.2⟩])) := by kernel_rfl
theorem r97 (a1 : Int) (b0 : List AV) (K : AV → List Blk → Option AV) (h : q97 a1 b0 = true) : inlA c97 1 97 [AV.own [1], AV.int .i64 a1] [0] (canH 1 [⟨false, [.int .i64, .int .i64, .int .i64, .int .i64], b0⟩]) (keepB 1 K) = K (AV.int .i64 (v97_0 a1 b0)) [⟨false, [.int .i64, .int .i64, .int .i64, .int .i64], (v97_1 a1 b0)⟩] := (e97 a1 b0 K).trans ((brO (fun o : Option ((Int × (List AV))) => K (AV.int .i64 (ro o 0 (fun p21 => p21.1))) [⟨false, [.int .i64, .int .i64, .int .i64, .int .i64], (ro o [] (fun p21 => p21.2))⟩]) (fun p21 => (fun _ => rfl))) h)
def m97 : WModel
  | [.own g0, .int .i64 a1], [⟨false, g1, b0⟩] => bif nmEq g0 ([1]) && ctsEq g1 ([.int .i64, .int .i64, .int .i64, .int .i64]) then some (q97 a1 b0, AV.int .i64 (v97_0 a1 b0), [⟨false, [.int .i64, .int .i64, .int .i64, .int .i64], (v97_1 a1 b0)⟩]) else none
  | _, _ => none
theorem k97 : Known Try.prog 97 := ⟨Try.f97, Try.func97, by kernel_rfl, by kernel_rfl⟩
theorem meets97 : MeetsM Try.prog 97 m97 := by
  refine meetM (f := Try.f97) (l := [(0, sub [1, 0, 1, 0, 0] (body Try.f97))]) (hs := [(97, 0, [0, 1, 5]), (97, 999, [4]), (97, 1000, [1]), (97, 1001, [0, 1, 5])]) (ts := []) (ws := []) (is := []) (ls := [(97, 0, l97_0)]) (lvl := 0) mixed k97 Try.func97 (by kernel_rfl) (loops_cons ok97_0 noLoop) allT_nil allM_nil noI fun C w xs us bs r bs' hl hv hh h K => ?_
  unfold m97 at h
  split at h
  · rename_i g0 a1 g1 b0
    obtain ⟨hg, h⟩ := bif_pair h
    simp only [Bool.and_eq_true] at hg
    obtain ⟨q0, q1⟩ := hg
    obtain rfl := (nmEq_iff _ _).1 q0
    obtain rfl := ctsEq_eq _ _ q1
    obtain ⟨h1, rfl, rfl⟩ := trip_inj h
    exact r97 a1 b0 K h1
  · cases h

/-! ### 138 loop.example/g01984/laws.markPivotS -/
def F138_0 (t1 : Int) (t5 : Int) (h0 : List AV) : Out ((Int × Int × (List AV))) ((Int × (List AV))) := (bif decide (t5 < (h0.length : Int)) then (bif (decide (0 ≤ t5) && decide (t5 < (h0.length : Int))) then (bif (decide (0 ≤ t5) && decide (t5 < ((h0.set t5.toNat (AV.agg [AV.int .i64 t1, AV.int .i64 (fI (h0.getD t5.toNat AV.undef) 1)])).length : Int))) then .next (IntKind.i64.wrap (IntKind.i64.wrap (t1 + 1) + 1), IntKind.i64.wrap (t5 + 1), (h0.set t5.toNat (AV.agg [AV.int .i64 t1, AV.int .i64 (fI (h0.getD t5.toNat AV.undef) 1)])).set t5.toNat (AV.agg [AV.int .i64 (fI ((h0.set t5.toNat (AV.agg [AV.int .i64 t1, AV.int .i64 (fI (h0.getD t5.toNat AV.undef) 1)])).getD t5.toNat AV.undef) 0), AV.int .i64 (IntKind.i64.wrap (t1 + 1))]))
    else .fail)
   else .fail)
  else .stop (t1, h0))
def R138_0 : ((Int × Int × (List AV))) → Out ((Int × Int × (List AV))) ((Int × (List AV))) := fun s : Int × Int × (List AV) => F138_0 s.1 s.2.1 s.2.2
def l138_0 : LModel := fun _ _ st k => match st with
  | ⟨[(0, .own g0), (1, .int .i64 t1), (5, .int .i64 t5)], [(g1, ⟨false, g2, h0⟩)]⟩ => bif nmEq g0 ([1]) && nmEq g1 ([1]) && ctsEq g2 ([.int .i64, .int .i64]) then ro (runW (R138_0) (((h0.length : Int) - t5).toNat + 1) (t1, t5, h0)) none (fun p : Int × (List AV) => k (.exit 0) ⟨[(1, AV.int .i64 p.1)], [([1], ⟨false, [.int .i64, .int .i64], p.2⟩)]⟩) else none
  | _ => none
noncomputable def c138 : Cfg := cfg Try.prog [(138, 0, [0, 1, 5]), (138, 999, [4]), (138, 1000, [1]), (138, 1001, [0, 1, 5])] [] [] [] [(138, 0, l138_0)]
theorem s138_0 (ce : CallE) (t1 : Int) (t5 : Int) (h0 : List AV) (next : St → Option AV) (k : Kont) : stepA (codeA c138 ce [0] 138 0 (sub [1, 0, 1, 0, 0] (body Try.f138))) (normA [0] [0, 1, 5]) next ⟨[(0, AV.own [1]), (1, AV.int .i64 t1), (5, AV.int .i64 t5)], [([1], ⟨false, [.int .i64, .int .i64], h0⟩)]⟩ k = (bif decide (t5 < (h0.length : Int)) then (bif (decide (0 ≤ t5) && decide (t5 < (h0.length : Int))) then (bif (decide (0 ≤ t5) && decide (t5 < ((h0.set t5.toNat (AV.agg [AV.int .i64 t1, AV.int .i64 (fI (h0.getD t5.toNat AV.undef) 1)])).length : Int))) then next ⟨[(0, AV.own [1]), (1, AV.int .i64 (IntKind.i64.wrap (IntKind.i64.wrap (t1 + 1) + 1))), (5, AV.int .i64 (IntKind.i64.wrap (t5 + 1)))], [([1], ⟨false, [.int .i64, .int .i64], (h0.set t5.toNat (AV.agg [AV.int .i64 t1, AV.int .i64 (fI (h0.getD t5.toNat AV.undef) 1)])).set t5.toNat (AV.agg [AV.int .i64 (fI ((h0.set t5.toNat (AV.agg [AV.int .i64 t1, AV.int .i64 (fI (h0.getD t5.toNat AV.undef) 1)])).getD t5.toNat AV.undef) 0), AV.int .i64 (IntKind.i64.wrap (t1 + 1))])⟩)]⟩
    else none)
   else none)
  else k (.exit 0) ⟨[(1, AV.int .i64 t1)], [([1], ⟨false, [.int .i64, .int .i64], h0⟩)]⟩) := by kernel_rfl
theorem st138_0 (ce : CallE) (k : Kont) (s : (Int × Int × (List AV))) (next : St → Option AV) : stepA (codeA c138 ce [0] 138 0 (sub [1, 0, 1, 0, 0] (body Try.f138))) (normA [0] [0, 1, 5]) next ((fun s : Int × Int × (List AV) => ⟨[(0, AV.own [1]), (1, AV.int .i64 s.1), (5, AV.int .i64 s.2.1)], [([1], ⟨false, [.int .i64, .int .i64], s.2.2⟩)]⟩) s) k = (R138_0 s).el none (fun s => next ((fun s : Int × Int × (List AV) => ⟨[(0, AV.own [1]), (1, AV.int .i64 s.1), (5, AV.int .i64 s.2.1)], [([1], ⟨false, [.int .i64, .int .i64], s.2.2⟩)]⟩) s)) (fun p : Int × (List AV) => k (.exit 0) ⟨[(1, AV.int .i64 p.1)], [([1], ⟨false, [.int .i64, .int .i64], p.2⟩)]⟩) := (s138_0 ce s.1 s.2.1 s.2.2 next k).trans (by unfold R138_0; unfold F138_0; simp only [el_cond, el_ro, el_sum, el_fail, el_next, el_stop] <;> rfl)
theorem ok138_0 : LoopOK c138 [0] 138 0 (sub [1, 0, 1, 0, 0] (body Try.f138)) := by
  intro m hm ce st k r h
  obtain rfl : l138_0 = m := Option.some.inj hm
  unfold l138_0 at h
  split at h
  · rename_i g0 t1 t5 g1 g2 h0
    obtain ⟨hg, h⟩ := bif_some h
    simp only [Bool.and_eq_true] at hg
    obtain ⟨⟨q0, q1⟩, q2⟩ := hg
    obtain rfl := (nmEq_iff _ _).1 q0
    obtain rfl := (nmEq_iff _ _).1 q1
    obtain rfl := ctsEq_eq _ _ q2
    refine ⟨(((h0.length : Int) - t5).toNat + 1), ?_⟩
    rw [← h]
    exact loop_run (fun s : Int × Int × (List AV) => ⟨[(0, AV.own [1]), (1, AV.int .i64 s.1), (5, AV.int .i64 s.2.1)], [([1], ⟨false, [.int .i64, .int .i64], s.2.2⟩)]⟩) (fun p : Int × (List AV) => k (.exit 0) ⟨[(1, AV.int .i64 p.1)], [([1], ⟨false, [.int .i64, .int .i64], p.2⟩)]⟩) (st138_0 ce k) _ (t1, t5, h0)
  · cases h
def q138 (a1 : Int) (b0 : List AV) : Bool := (ro (runW (R138_0) (((b0.length : Int) - 0).toNat + 1) (a1, 0, b0)) false (fun p22 => true))
def v138_0 (a1 : Int) (b0 : List AV) : Int := (ro (runW (R138_0) (((b0.length : Int) - 0).toNat + 1) (a1, 0, b0)) 0 (fun p22 => p22.1))
def v138_1 (a1 : Int) (b0 : List AV) : List AV := (ro (runW (R138_0) (((b0.length : Int) - 0).toNat + 1) (a1, 0, b0)) [] (fun p22 => p22.2))
theorem e138 (a1 : Int) (b0 : List AV) (K : AV → List Blk → Option AV) : inlA c138 1 138 [AV.own [1], AV.int .i64 a1] [0] (canH 1 [⟨false, [.int .i64, .int .i64], b0⟩]) (keepB 1 K) = (ro (runW (R138_0) (((b0.length : Int) - 0).toNat + 1) (a1, 0, b0)) none (fun p22 => K (AV.int .i64 p22.1) [⟨false, [.int .i64, .int .i64], p22.2⟩])) := by kernel_rfl
theorem r138 (a1 : Int) (b0 : List AV) (K : AV → List Blk → Option AV) (h : q138 a1 b0 = true) : inlA c138 1 138 [AV.own [1], AV.int .i64 a1] [0] (canH 1 [⟨false, [.int .i64, .int .i64], b0⟩]) (keepB 1 K) = K (AV.int .i64 (v138_0 a1 b0)) [⟨false, [.int .i64, .int .i64], (v138_1 a1 b0)⟩] := (e138 a1 b0 K).trans ((brO (fun o : Option ((Int × (List AV))) => K (AV.int .i64 (ro o 0 (fun p22 => p22.1))) [⟨false, [.int .i64, .int .i64], (ro o [] (fun p22 => p22.2))⟩]) (fun p22 => (fun _ => rfl))) h)
def m138 : WModel
  | [.own g0, .int .i64 a1], [⟨false, g1, b0⟩] => bif nmEq g0 ([1]) && ctsEq g1 ([.int .i64, .int .i64]) then some (q138 a1 b0, AV.int .i64 (v138_0 a1 b0), [⟨false, [.int .i64, .int .i64], (v138_1 a1 b0)⟩]) else none
  | _, _ => none
theorem k138 : Known Try.prog 138 := ⟨Try.f138, Try.func138, by kernel_rfl, by kernel_rfl⟩
theorem meets138 : MeetsM Try.prog 138 m138 := by
  refine meetM (f := Try.f138) (l := [(0, sub [1, 0, 1, 0, 0] (body Try.f138))]) (hs := [(138, 0, [0, 1, 5]), (138, 999, [4]), (138, 1000, [1]), (138, 1001, [0, 1, 5])]) (ts := []) (ws := []) (is := []) (ls := [(138, 0, l138_0)]) (lvl := 0) mixed k138 Try.func138 (by kernel_rfl) (loops_cons ok138_0 noLoop) allT_nil allM_nil noI fun C w xs us bs r bs' hl hv hh h K => ?_
  unfold m138 at h
  split at h
  · rename_i g0 a1 g1 b0
    obtain ⟨hg, h⟩ := bif_pair h
    simp only [Bool.and_eq_true] at hg
    obtain ⟨q0, q1⟩ := hg
    obtain rfl := (nmEq_iff _ _).1 q0
    obtain rfl := ctsEq_eq _ _ q1
    obtain ⟨h1, rfl, rfl⟩ := trip_inj h
    exact r138 a1 b0 K h1
  · cases h

/-! ### 98 loop.example/g01984/laws.markCracker -/
noncomputable def c98 : Cfg := cfg Try.prog [(98, 999, [4])] [] [(25, m25), (138, m138)] [] []
def q98 (a1 : Int) (b0 : List AV) (b1 : List AV) (b2 : List AV) : Bool := (q25 a1 b0 && (q25 (v25_0 a1 b0) b1 && q138 (v25_0 (v25_0 a1 b0) b1) b2))
def v98_0 (a1 : Int) (b0 : List AV) (b1 : List AV) (b2 : List AV) : Int := (v138_0 (v25_0 (v25_0 a1 b0) b1) b2)
def v98_1 (a1 : Int) (b0 : List AV) (b1 : List AV) (b2 : List AV) : List AV := (v25_1 a1 b0)
def v98_2 (a1 : Int) (b0 : List AV) (b1 : List AV) (b2 : List AV) : List AV := (v25_1 (v25_0 a1 b0) b1)
def v98_3 (a1 : Int) (b0 : List AV) (b1 : List AV) (b2 : List AV) : List AV := (v138_1 (v25_0 (v25_0 a1 b0) b1) b2)
theorem e98 (a1 : Int) (b0 : List AV) (b1 : List AV) (b2 : List AV) (K : AV → List Blk → Option AV) : inlA c98 1 98 [AV.agg [AV.own [1], AV.own [2], AV.own [3]], AV.int .i64 a1] [0] (canH 1 [⟨false, [.int .i64], b0⟩, ⟨false, [.int .i64], b1⟩, ⟨false, [.int .i64, .int .i64], b2⟩]) (keepB 3 K) = (bif q25 a1 b0 then (bif q25 (v25_0 a1 b0) b1 then (bif q138 (v25_0 (v25_0 a1 b0) b1) b2 then K (AV.int .i64 (v138_0 (v25_0 (v25_0 a1 b0) b1) b2)) [⟨false, [.int .i64], (v25_1 a1 b0)⟩, ⟨false, [.int .i64], (v25_1 (v25_0 a1 b0) b1)⟩, ⟨false, [.int .i64, .int .i64], (v138_1 (v25_0 (v25_0 a1 b0) b1) b2)⟩]
    else none)
   else none)
  else none) := by kernel_rfl
theorem r98 (a1 : Int) (b0 : List AV) (b1 : List AV) (b2 : List AV) (K : AV → List Blk → Option AV) (h : q98 a1 b0 b1 b2 = true) : inlA c98 1 98 [AV.agg [AV.own [1], AV.own [2], AV.own [3]], AV.int .i64 a1] [0] (canH 1 [⟨false, [.int .i64], b0⟩, ⟨false, [.int .i64], b1⟩, ⟨false, [.int .i64, .int .i64], b2⟩]) (keepB 3 K) = K (AV.int .i64 (v98_0 a1 b0 b1 b2)) [⟨false, [.int .i64], (v98_1 a1 b0 b1 b2)⟩, ⟨false, [.int .i64], (v98_2 a1 b0 b1 b2)⟩, ⟨false, [.int .i64, .int .i64], (v98_3 a1 b0 b1 b2)⟩] := (e98 a1 b0 b1 b2 K).trans ((brL (brL (brL1 (fun _ => rfl)))) h)
def m98 : WModel
  | [.agg [.own g0, .own g1, .own g2], .int .i64 a1], [⟨false, g3, b0⟩, ⟨false, g4, b1⟩, ⟨false, g5, b2⟩] => bif nmEq g0 ([1]) && nmEq g1 ([2]) && nmEq g2 ([3]) && ctsEq g3 ([.int .i64]) && ctsEq g4 ([.int .i64]) && ctsEq g5 ([.int .i64, .int .i64]) then some (q98 a1 b0 b1 b2, AV.int .i64 (v98_0 a1 b0 b1 b2), [⟨false, [.int .i64], (v98_1 a1 b0 b1 b2)⟩, ⟨false, [.int .i64], (v98_2 a1 b0 b1 b2)⟩, ⟨false, [.int .i64, .int .i64], (v98_3 a1 b0 b1 b2)⟩]) else none
  | _, _ => none
theorem k98 : Known Try.prog 98 := ⟨Try.f98, Try.func98, by kernel_rfl, by kernel_rfl⟩
theorem meets98 : MeetsM Try.prog 98 m98 := by
  refine meetM (f := Try.f98) (l := []) (hs := [(98, 999, [4])]) (ts := []) (ws := [(25, m25), (138, m138)]) (is := []) (ls := []) (lvl := 0) mixed k98 Try.func98 (by kernel_rfl) noLoop allT_nil (allM_cons meets25 (allM_cons meets138 allM_nil)) noI fun C w xs us bs r bs' hl hv hh h K => ?_
  unfold m98 at h
  split at h
  · rename_i g0 g1 g2 a1 g3 b0 g4 b1 g5 b2
    obtain ⟨hg, h⟩ := bif_pair h
    simp only [Bool.and_eq_true] at hg
    obtain ⟨⟨⟨⟨⟨q0, q1⟩, q2⟩, q3⟩, q4⟩, q5⟩ := hg
    obtain rfl := (nmEq_iff _ _).1 q0
    obtain rfl := (nmEq_iff _ _).1 q1
    obtain rfl := (nmEq_iff _ _).1 q2
    obtain rfl := ctsEq_eq _ _ q3
    obtain rfl := ctsEq_eq _ _ q4
    obtain rfl := ctsEq_eq _ _ q5
    obtain ⟨h1, rfl, rfl⟩ := trip_inj h
    exact r98 a1 b0 b1 b2 K h1
  · cases h

/-! ### 53 loop.example/g01984/laws.markStore -/
noncomputable def c53 : Cfg := cfg Try.prog [(53, 999, [4])] [] [(97, m97), (98, m98)] [] []
def q53 (a0 : Int) (a1 : Int) (b0 : List AV) (b1 : List AV) (b2 : List AV) (b3 : List AV) : Bool := (q97 a1 b0 && q98 (v97_0 a1 b0) b1 b2 b3)
def v53_0 (a0 : Int) (a1 : Int) (b0 : List AV) (b1 : List AV) (b2 : List AV) (b3 : List AV) : Int := (v98_0 (v97_0 a1 b0) b1 b2 b3)
def v53_1 (a0 : Int) (a1 : Int) (b0 : List AV) (b1 : List AV) (b2 : List AV) (b3 : List AV) : List AV := (v97_1 a1 b0)
def v53_2 (a0 : Int) (a1 : Int) (b0 : List AV) (b1 : List AV) (b2 : List AV) (b3 : List AV) : List AV := (v98_1 (v97_0 a1 b0) b1 b2 b3)
def v53_3 (a0 : Int) (a1 : Int) (b0 : List AV) (b1 : List AV) (b2 : List AV) (b3 : List AV) : List AV := (v98_2 (v97_0 a1 b0) b1 b2 b3)
def v53_4 (a0 : Int) (a1 : Int) (b0 : List AV) (b1 : List AV) (b2 : List AV) (b3 : List AV) : List AV := (v98_3 (v97_0 a1 b0) b1 b2 b3)
theorem e53 (a0 : Int) (a1 : Int) (b0 : List AV) (b1 : List AV) (b2 : List AV) (b3 : List AV) (K : AV → List Blk → Option AV) : inlA c53 1 53 [AV.agg [AV.own [1], AV.int .i64 a0, AV.own [2], AV.own [3], AV.own [4]], AV.int .i64 a1] [0] (canH 1 [⟨false, [.int .i64, .int .i64, .int .i64, .int .i64], b0⟩, ⟨false, [.int .i64], b1⟩, ⟨false, [.int .i64], b2⟩, ⟨false, [.int .i64, .int .i64], b3⟩]) (keepB 4 K) = (bif q97 a1 b0 then (bif q98 (v97_0 a1 b0) b1 b2 b3 then K (AV.int .i64 (v98_0 (v97_0 a1 b0) b1 b2 b3)) [⟨false, [.int .i64, .int .i64, .int .i64, .int .i64], (v97_1 a1 b0)⟩, ⟨false, [.int .i64], (v98_1 (v97_0 a1 b0) b1 b2 b3)⟩, ⟨false, [.int .i64], (v98_2 (v97_0 a1 b0) b1 b2 b3)⟩, ⟨false, [.int .i64, .int .i64], (v98_3 (v97_0 a1 b0) b1 b2 b3)⟩]
   else none)
  else none) := by kernel_rfl
theorem r53 (a0 : Int) (a1 : Int) (b0 : List AV) (b1 : List AV) (b2 : List AV) (b3 : List AV) (K : AV → List Blk → Option AV) (h : q53 a0 a1 b0 b1 b2 b3 = true) : inlA c53 1 53 [AV.agg [AV.own [1], AV.int .i64 a0, AV.own [2], AV.own [3], AV.own [4]], AV.int .i64 a1] [0] (canH 1 [⟨false, [.int .i64, .int .i64, .int .i64, .int .i64], b0⟩, ⟨false, [.int .i64], b1⟩, ⟨false, [.int .i64], b2⟩, ⟨false, [.int .i64, .int .i64], b3⟩]) (keepB 4 K) = K (AV.int .i64 (v53_0 a0 a1 b0 b1 b2 b3)) [⟨false, [.int .i64, .int .i64, .int .i64, .int .i64], (v53_1 a0 a1 b0 b1 b2 b3)⟩, ⟨false, [.int .i64], (v53_2 a0 a1 b0 b1 b2 b3)⟩, ⟨false, [.int .i64], (v53_3 a0 a1 b0 b1 b2 b3)⟩, ⟨false, [.int .i64, .int .i64], (v53_4 a0 a1 b0 b1 b2 b3)⟩] := (e53 a0 a1 b0 b1 b2 b3 K).trans ((brL (brL1 (fun _ => rfl))) h)
def m53 : WModel
  | [.agg [.own g0, .int .i64 a0, .own g1, .own g2, .own g3], .int .i64 a1], [⟨false, g4, b0⟩, ⟨false, g5, b1⟩, ⟨false, g6, b2⟩, ⟨false, g7, b3⟩] => bif nmEq g0 ([1]) && nmEq g1 ([2]) && nmEq g2 ([3]) && nmEq g3 ([4]) && ctsEq g4 ([.int .i64, .int .i64, .int .i64, .int .i64]) && ctsEq g5 ([.int .i64]) && ctsEq g6 ([.int .i64]) && ctsEq g7 ([.int .i64, .int .i64]) then some (q53 a0 a1 b0 b1 b2 b3, AV.int .i64 (v53_0 a0 a1 b0 b1 b2 b3), [⟨false, [.int .i64, .int .i64, .int .i64, .int .i64], (v53_1 a0 a1 b0 b1 b2 b3)⟩, ⟨false, [.int .i64], (v53_2 a0 a1 b0 b1 b2 b3)⟩, ⟨false, [.int .i64], (v53_3 a0 a1 b0 b1 b2 b3)⟩, ⟨false, [.int .i64, .int .i64], (v53_4 a0 a1 b0 b1 b2 b3)⟩]) else none
  | _, _ => none
theorem k53 : Known Try.prog 53 := ⟨Try.f53, Try.func53, by kernel_rfl, by kernel_rfl⟩
theorem meets53 : MeetsM Try.prog 53 m53 := by
  refine meetM (f := Try.f53) (l := []) (hs := [(53, 999, [4])]) (ts := []) (ws := [(97, m97), (98, m98)]) (is := []) (ls := []) (lvl := 0) mixed k53 Try.func53 (by kernel_rfl) noLoop allT_nil (allM_cons meets97 (allM_cons meets98 allM_nil)) noI fun C w xs us bs r bs' hl hv hh h K => ?_
  unfold m53 at h
  split at h
  · rename_i g0 a0 g1 g2 g3 a1 g4 b0 g5 b1 g6 b2 g7 b3
    obtain ⟨hg, h⟩ := bif_pair h
    simp only [Bool.and_eq_true] at hg
    obtain ⟨⟨⟨⟨⟨⟨⟨q0, q1⟩, q2⟩, q3⟩, q4⟩, q5⟩, q6⟩, q7⟩ := hg
    obtain rfl := (nmEq_iff _ _).1 q0
    obtain rfl := (nmEq_iff _ _).1 q1
    obtain rfl := (nmEq_iff _ _).1 q2
    obtain rfl := (nmEq_iff _ _).1 q3
    obtain rfl := ctsEq_eq _ _ q4
    obtain rfl := ctsEq_eq _ _ q5
    obtain rfl := ctsEq_eq _ _ q6
    obtain rfl := ctsEq_eq _ _ q7
    obtain ⟨h1, rfl, rfl⟩ := trip_inj h
    exact r53 a0 a1 b0 b1 b2 b3 K h1
  · cases h

/-! ### 99 loop.example/g01984/laws.heldStampS -/
def F99_0 (t0 : List AV) (t1 : Int) (t5 : Int) : Out ((Int × Int)) (Int ⊕ Unit) := (bif decide (t5 < (t0.length : Int)) then (bif (decide (0 ≤ t5) && decide (t5 < (t0.length : Int))) then (bif !decide (fI (t0.getD t5.toNat AV.undef) 0 = t1) then .stop (.inr ())
    else (bif (decide (0 ≤ t5) && decide (t5 < (t0.length : Int))) then (bif !decide (fI (t0.getD t5.toNat AV.undef) 1 = IntKind.i64.wrap (t1 + 1)) then .stop (.inr ())
      else (bif (decide (0 ≤ t5) && decide (t5 < (t0.length : Int))) then (bif !decide (fI (t0.getD t5.toNat AV.undef) 2 = IntKind.i64.wrap (IntKind.i64.wrap (t1 + 1) + 1)) then .stop (.inr ())
        else (bif (decide (0 ≤ t5) && decide (t5 < (t0.length : Int))) then (bif !decide (fI (t0.getD t5.toNat AV.undef) 3 = IntKind.i64.wrap (IntKind.i64.wrap (IntKind.i64.wrap (t1 + 1) + 1) + 1)) then .stop (.inr ())
          else .next (IntKind.i64.wrap (IntKind.i64.wrap (IntKind.i64.wrap (IntKind.i64.wrap (t1 + 1) + 1) + 1) + 1), IntKind.i64.wrap (t5 + 1)))
         else .fail))
       else .fail))
     else .fail))
   else .fail)
  else .stop (.inl t1))
def R99_0 (t0 : List AV) : ((Int × Int)) → Out ((Int × Int)) (Int ⊕ Unit) := fun s : Int × Int => F99_0 t0 s.1 s.2
def l99_0 : LModel := fun _ _ st k => match st with
  | ⟨[(0, .sl g0 t0), (1, .int .i64 t1), (5, .int .i64 t5)], []⟩ => bif ctsEq g0 ([.int .i64, .int .i64, .int .i64, .int .i64]) then ro (runW (R99_0 t0) (((t0.length : Int) - t5).toNat + 1) (t1, t5)) none (sumE (fun p : Int => k (.exit 0) ⟨[(1, AV.int .i64 p)], []⟩) (fun _ : Unit => k .ret ⟨[(4, AV.int .i64 (-1))], []⟩)) else none
  | _ => none
noncomputable def c99 : Cfg := cfg Try.prog [(99, 0, [0, 1, 5]), (99, 999, [4]), (99, 1000, [1]), (99, 1001, [0, 1, 5])] [] [] [] [(99, 0, l99_0)]
theorem s99_0 (ce : CallE) (t0 : List AV) (t1 : Int) (t5 : Int) (next : St → Option AV) (k : Kont) : stepA (codeA c99 ce [] 99 0 (sub [1, 0, 1, 0, 0] (body Try.f99))) (normA [] [0, 1, 5]) next ⟨[(0, AV.sl [.int .i64, .int .i64, .int .i64, .int .i64] t0), (1, AV.int .i64 t1), (5, AV.int .i64 t5)], []⟩ k = (bif decide (t5 < (t0.length : Int)) then (bif (decide (0 ≤ t5) && decide (t5 < (t0.length : Int))) then (bif !decide (fI (t0.getD t5.toNat AV.undef) 0 = t1) then k .ret ⟨[(4, AV.int .i64 (-1))], []⟩
    else (bif (decide (0 ≤ t5) && decide (t5 < (t0.length : Int))) then (bif !decide (fI (t0.getD t5.toNat AV.undef) 1 = IntKind.i64.wrap (t1 + 1)) then k .ret ⟨[(4, AV.int .i64 (-1))], []⟩
      else (bif (decide (0 ≤ t5) && decide (t5 < (t0.length : Int))) then (bif !decide (fI (t0.getD t5.toNat AV.undef) 2 = IntKind.i64.wrap (IntKind.i64.wrap (t1 + 1) + 1)) then k .ret ⟨[(4, AV.int .i64 (-1))], []⟩
        else (bif (decide (0 ≤ t5) && decide (t5 < (t0.length : Int))) then (bif !decide (fI (t0.getD t5.toNat AV.undef) 3 = IntKind.i64.wrap (IntKind.i64.wrap (IntKind.i64.wrap (t1 + 1) + 1) + 1)) then k .ret ⟨[(4, AV.int .i64 (-1))], []⟩
          else next ⟨[(0, AV.sl [.int .i64, .int .i64, .int .i64, .int .i64] t0), (1, AV.int .i64 (IntKind.i64.wrap (IntKind.i64.wrap (IntKind.i64.wrap (IntKind.i64.wrap (t1 + 1) + 1) + 1) + 1))), (5, AV.int .i64 (IntKind.i64.wrap (t5 + 1)))], []⟩)
         else none))
       else none))
     else none))
   else none)
  else k (.exit 0) ⟨[(1, AV.int .i64 t1)], []⟩) := by kernel_rfl
theorem st99_0 (t0 : List AV) (ce : CallE) (k : Kont) (s : (Int × Int)) (next : St → Option AV) : stepA (codeA c99 ce [] 99 0 (sub [1, 0, 1, 0, 0] (body Try.f99))) (normA [] [0, 1, 5]) next ((fun s : Int × Int => ⟨[(0, AV.sl [.int .i64, .int .i64, .int .i64, .int .i64] t0), (1, AV.int .i64 s.1), (5, AV.int .i64 s.2)], []⟩) s) k = (R99_0 t0 s).el none (fun s => next ((fun s : Int × Int => ⟨[(0, AV.sl [.int .i64, .int .i64, .int .i64, .int .i64] t0), (1, AV.int .i64 s.1), (5, AV.int .i64 s.2)], []⟩) s)) (sumE (fun p : Int => k (.exit 0) ⟨[(1, AV.int .i64 p)], []⟩) (fun _ : Unit => k .ret ⟨[(4, AV.int .i64 (-1))], []⟩)) := (s99_0 ce t0 s.1 s.2 next k).trans (by unfold R99_0; unfold F99_0; simp only [el_cond, el_ro, el_sum, el_fail, el_next, el_stop] <;> rfl)
theorem ok99_0 : LoopOK c99 [] 99 0 (sub [1, 0, 1, 0, 0] (body Try.f99)) := by
  intro m hm ce st k r h
  obtain rfl : l99_0 = m := Option.some.inj hm
  unfold l99_0 at h
  split at h
  · rename_i g0 t0 t1 t5
    obtain ⟨hg, h⟩ := bif_some h
    have q0 := hg
    obtain rfl := ctsEq_eq _ _ q0
    refine ⟨(((t0.length : Int) - t5).toNat + 1), ?_⟩
    rw [← h]
    exact loop_run (fun s : Int × Int => ⟨[(0, AV.sl [.int .i64, .int .i64, .int .i64, .int .i64] t0), (1, AV.int .i64 s.1), (5, AV.int .i64 s.2)], []⟩) (sumE (fun p : Int => k (.exit 0) ⟨[(1, AV.int .i64 p)], []⟩) (fun _ : Unit => k .ret ⟨[(4, AV.int .i64 (-1))], []⟩)) (st99_0 t0 ce k) _ (t1, t5)
  · cases h
def q99 (a0 : List AV) (a1 : Int) : Bool := (ro (runW (R99_0 a0) (((a0.length : Int) - 0).toNat + 1) (a1, 0)) false (sumE (fun p23 => true) (fun _ => true)))
def v99_0 (a0 : List AV) (a1 : Int) : Int := (ro (runW (R99_0 a0) (((a0.length : Int) - 0).toNat + 1) (a1, 0)) 0 (sumE (fun p23 => p23) (fun _ => (-1))))
theorem e99 (a0 : List AV) (a1 : Int) : funA c99 0 99 [AV.sl [.int .i64, .int .i64, .int .i64, .int .i64] a0, AV.int .i64 a1] = (ro (runW (R99_0 a0) (((a0.length : Int) - 0).toNat + 1) (a1, 0)) none (sumE (fun p23 => some (AV.int .i64 p23)) (fun _ => some (AV.int .i64 (-1))))) := by kernel_rfl
theorem r99 (a0 : List AV) (a1 : Int) (h : q99 a0 a1 = true) : funA c99 0 99 [AV.sl [.int .i64, .int .i64, .int .i64, .int .i64] a0, AV.int .i64 a1] = some (AV.int .i64 (v99_0 a0 a1)) := (e99 a0 a1).trans ((brO (fun o : Option (Int ⊕ Unit) => some (AV.int .i64 (ro o 0 (sumE (fun p23 => p23) (fun _ => (-1)))))) (brS (fun o : Int ⊕ Unit => some (AV.int .i64 ((sumE (fun p23 => p23) (fun _ => (-1))) o))) (fun p23 => (fun _ => rfl)) (fun _ => (fun _ => rfl)))) h)
def m99 : TModel
  | [.sl g0 a0, .int .i64 a1] => bif ctsEq g0 ([.int .i64, .int .i64, .int .i64, .int .i64]) then some (q99 a0 a1, AV.int .i64 (v99_0 a0 a1)) else none
  | _ => none
theorem k99 : Known Try.prog 99 := ⟨Try.f99, Try.func99, by kernel_rfl, by kernel_rfl⟩
theorem meets99 : Meets Try.prog 99 m99 := by
  refine meet (f := Try.f99) (l := [(0, sub [1, 0, 1, 0, 0] (body Try.f99))]) (hs := [(99, 0, [0, 1, 5]), (99, 999, [4]), (99, 1000, [1]), (99, 1001, [0, 1, 5])]) (ts := []) (ws := []) (is := []) (ls := [(99, 0, l99_0)]) (lvl := 0) mixed k99 Try.func99 (by kernel_rfl) (loops_cons ok99_0 noLoop) allT_nil allM_nil noI fun w xs us r hl hv h => ?_
  unfold m99 at h
  split at h
  · rename_i g0 a0 a1
    obtain ⟨hg, h⟩ := bif_pair h
    have q0 := hg
    obtain rfl := ctsEq_eq _ _ q0
    obtain ⟨h1, rfl⟩ := pair_inj h
    exact r99 a0 a1 h1
  · cases h

/-! ### 26 loop.example/g01984/laws.heldIntS -/
def F26_0 (t0 : List AV) (t1 : Int) (t5 : Int) : Out ((Int × Int)) (Int ⊕ Unit) := (bif decide (t5 < (t0.length : Int)) then (bif (decide (0 ≤ t5) && decide (t5 < (t0.length : Int))) then (bif !decide (fI (t0.getD t5.toNat AV.undef) 0 = t1) then .stop (.inr ())
    else .next (IntKind.i64.wrap (t1 + 1), IntKind.i64.wrap (t5 + 1)))
   else .fail)
  else .stop (.inl t1))
def R26_0 (t0 : List AV) : ((Int × Int)) → Out ((Int × Int)) (Int ⊕ Unit) := fun s : Int × Int => F26_0 t0 s.1 s.2
def l26_0 : LModel := fun _ _ st k => match st with
  | ⟨[(0, .sl g0 t0), (1, .int .i64 t1), (5, .int .i64 t5)], []⟩ => bif ctsEq g0 ([.int .i64]) then ro (runW (R26_0 t0) (((t0.length : Int) - t5).toNat + 1) (t1, t5)) none (sumE (fun p : Int => k (.exit 0) ⟨[(1, AV.int .i64 p)], []⟩) (fun _ : Unit => k .ret ⟨[(4, AV.int .i64 (-1))], []⟩)) else none
  | _ => none
noncomputable def c26 : Cfg := cfg Try.prog [(26, 0, [0, 1, 5]), (26, 999, [4]), (26, 1000, [1]), (26, 1001, [0, 1, 5])] [] [] [] [(26, 0, l26_0)]
theorem s26_0 (ce : CallE) (t0 : List AV) (t1 : Int) (t5 : Int) (next : St → Option AV) (k : Kont) : stepA (codeA c26 ce [] 26 0 (sub [1, 0, 1, 0, 0] (body Try.f26))) (normA [] [0, 1, 5]) next ⟨[(0, AV.sl [.int .i64] t0), (1, AV.int .i64 t1), (5, AV.int .i64 t5)], []⟩ k = (bif decide (t5 < (t0.length : Int)) then (bif (decide (0 ≤ t5) && decide (t5 < (t0.length : Int))) then (bif !decide (fI (t0.getD t5.toNat AV.undef) 0 = t1) then k .ret ⟨[(4, AV.int .i64 (-1))], []⟩
    else next ⟨[(0, AV.sl [.int .i64] t0), (1, AV.int .i64 (IntKind.i64.wrap (t1 + 1))), (5, AV.int .i64 (IntKind.i64.wrap (t5 + 1)))], []⟩)
   else none)
  else k (.exit 0) ⟨[(1, AV.int .i64 t1)], []⟩) := by kernel_rfl
theorem st26_0 (t0 : List AV) (ce : CallE) (k : Kont) (s : (Int × Int)) (next : St → Option AV) : stepA (codeA c26 ce [] 26 0 (sub [1, 0, 1, 0, 0] (body Try.f26))) (normA [] [0, 1, 5]) next ((fun s : Int × Int => ⟨[(0, AV.sl [.int .i64] t0), (1, AV.int .i64 s.1), (5, AV.int .i64 s.2)], []⟩) s) k = (R26_0 t0 s).el none (fun s => next ((fun s : Int × Int => ⟨[(0, AV.sl [.int .i64] t0), (1, AV.int .i64 s.1), (5, AV.int .i64 s.2)], []⟩) s)) (sumE (fun p : Int => k (.exit 0) ⟨[(1, AV.int .i64 p)], []⟩) (fun _ : Unit => k .ret ⟨[(4, AV.int .i64 (-1))], []⟩)) := (s26_0 ce t0 s.1 s.2 next k).trans (by unfold R26_0; unfold F26_0; simp only [el_cond, el_ro, el_sum, el_fail, el_next, el_stop] <;> rfl)
theorem ok26_0 : LoopOK c26 [] 26 0 (sub [1, 0, 1, 0, 0] (body Try.f26)) := by
  intro m hm ce st k r h
  obtain rfl : l26_0 = m := Option.some.inj hm
  unfold l26_0 at h
  split at h
  · rename_i g0 t0 t1 t5
    obtain ⟨hg, h⟩ := bif_some h
    have q0 := hg
    obtain rfl := ctsEq_eq _ _ q0
    refine ⟨(((t0.length : Int) - t5).toNat + 1), ?_⟩
    rw [← h]
    exact loop_run (fun s : Int × Int => ⟨[(0, AV.sl [.int .i64] t0), (1, AV.int .i64 s.1), (5, AV.int .i64 s.2)], []⟩) (sumE (fun p : Int => k (.exit 0) ⟨[(1, AV.int .i64 p)], []⟩) (fun _ : Unit => k .ret ⟨[(4, AV.int .i64 (-1))], []⟩)) (st26_0 t0 ce k) _ (t1, t5)
  · cases h
def q26 (a0 : List AV) (a1 : Int) : Bool := (ro (runW (R26_0 a0) (((a0.length : Int) - 0).toNat + 1) (a1, 0)) false (sumE (fun p25 => true) (fun _ => true)))
def v26_0 (a0 : List AV) (a1 : Int) : Int := (ro (runW (R26_0 a0) (((a0.length : Int) - 0).toNat + 1) (a1, 0)) 0 (sumE (fun p25 => p25) (fun _ => (-1))))
theorem e26 (a0 : List AV) (a1 : Int) : funA c26 0 26 [AV.sl [.int .i64] a0, AV.int .i64 a1] = (ro (runW (R26_0 a0) (((a0.length : Int) - 0).toNat + 1) (a1, 0)) none (sumE (fun p25 => some (AV.int .i64 p25)) (fun _ => some (AV.int .i64 (-1))))) := by kernel_rfl
theorem r26 (a0 : List AV) (a1 : Int) (h : q26 a0 a1 = true) : funA c26 0 26 [AV.sl [.int .i64] a0, AV.int .i64 a1] = some (AV.int .i64 (v26_0 a0 a1)) := (e26 a0 a1).trans ((brO (fun o : Option (Int ⊕ Unit) => some (AV.int .i64 (ro o 0 (sumE (fun p25 => p25) (fun _ => (-1)))))) (brS (fun o : Int ⊕ Unit => some (AV.int .i64 ((sumE (fun p25 => p25) (fun _ => (-1))) o))) (fun p25 => (fun _ => rfl)) (fun _ => (fun _ => rfl)))) h)
def m26 : TModel
  | [.sl g0 a0, .int .i64 a1] => bif ctsEq g0 ([.int .i64]) then some (q26 a0 a1, AV.int .i64 (v26_0 a0 a1)) else none
  | _ => none
theorem k26 : Known Try.prog 26 := ⟨Try.f26, Try.func26, by kernel_rfl, by kernel_rfl⟩
theorem meets26 : Meets Try.prog 26 m26 := by
  refine meet (f := Try.f26) (l := [(0, sub [1, 0, 1, 0, 0] (body Try.f26))]) (hs := [(26, 0, [0, 1, 5]), (26, 999, [4]), (26, 1000, [1]), (26, 1001, [0, 1, 5])]) (ts := []) (ws := []) (is := []) (ls := [(26, 0, l26_0)]) (lvl := 0) mixed k26 Try.func26 (by kernel_rfl) (loops_cons ok26_0 noLoop) allT_nil allM_nil noI fun w xs us r hl hv h => ?_
  unfold m26 at h
  split at h
  · rename_i g0 a0 a1
    obtain ⟨hg, h⟩ := bif_pair h
    have q0 := hg
    obtain rfl := ctsEq_eq _ _ q0
    obtain ⟨h1, rfl⟩ := pair_inj h
    exact r26 a0 a1 h1
  · cases h

/-! ### 139 loop.example/g01984/laws.heldPivotS -/
def F139_0 (t0 : List AV) (t1 : Int) (t5 : Int) : Out ((Int × Int)) (Int ⊕ Unit) := (bif decide (t5 < (t0.length : Int)) then (bif (decide (0 ≤ t5) && decide (t5 < (t0.length : Int))) then (bif !decide (fI (t0.getD t5.toNat AV.undef) 0 = t1) then .stop (.inr ())
    else (bif (decide (0 ≤ t5) && decide (t5 < (t0.length : Int))) then (bif !decide (fI (t0.getD t5.toNat AV.undef) 1 = IntKind.i64.wrap (t1 + 1)) then .stop (.inr ())
      else .next (IntKind.i64.wrap (IntKind.i64.wrap (t1 + 1) + 1), IntKind.i64.wrap (t5 + 1)))
     else .fail))
   else .fail)
  else .stop (.inl t1))
def R139_0 (t0 : List AV) : ((Int × Int)) → Out ((Int × Int)) (Int ⊕ Unit) := fun s : Int × Int => F139_0 t0 s.1 s.2
def l139_0 : LModel := fun _ _ st k => match st with
  | ⟨[(0, .sl g0 t0), (1, .int .i64 t1), (5, .int .i64 t5)], []⟩ => bif ctsEq g0 ([.int .i64, .int .i64]) then ro (runW (R139_0 t0) (((t0.length : Int) - t5).toNat + 1) (t1, t5)) none (sumE (fun p : Int => k (.exit 0) ⟨[(1, AV.int .i64 p)], []⟩) (fun _ : Unit => k .ret ⟨[(4, AV.int .i64 (-1))], []⟩)) else none
  | _ => none
noncomputable def c139 : Cfg := cfg Try.prog [(139, 0, [0, 1, 5]), (139, 999, [4]), (139, 1000, [1]), (139, 1001, [0, 1, 5])] [] [] [] [(139, 0, l139_0)]
theorem s139_0 (ce : CallE) (t0 : List AV) (t1 : Int) (t5 : Int) (next : St → Option AV) (k : Kont) : stepA (codeA c139 ce [] 139 0 (sub [1, 0, 1, 0, 0] (body Try.f139))) (normA [] [0, 1, 5]) next ⟨[(0, AV.sl [.int .i64, .int .i64] t0), (1, AV.int .i64 t1), (5, AV.int .i64 t5)], []⟩ k = (bif decide (t5 < (t0.length : Int)) then (bif (decide (0 ≤ t5) && decide (t5 < (t0.length : Int))) then (bif !decide (fI (t0.getD t5.toNat AV.undef) 0 = t1) then k .ret ⟨[(4, AV.int .i64 (-1))], []⟩
    else (bif (decide (0 ≤ t5) && decide (t5 < (t0.length : Int))) then (bif !decide (fI (t0.getD t5.toNat AV.undef) 1 = IntKind.i64.wrap (t1 + 1)) then k .ret ⟨[(4, AV.int .i64 (-1))], []⟩
      else next ⟨[(0, AV.sl [.int .i64, .int .i64] t0), (1, AV.int .i64 (IntKind.i64.wrap (IntKind.i64.wrap (t1 + 1) + 1))), (5, AV.int .i64 (IntKind.i64.wrap (t5 + 1)))], []⟩)
     else none))
   else none)
  else k (.exit 0) ⟨[(1, AV.int .i64 t1)], []⟩) := by kernel_rfl
theorem st139_0 (t0 : List AV) (ce : CallE) (k : Kont) (s : (Int × Int)) (next : St → Option AV) : stepA (codeA c139 ce [] 139 0 (sub [1, 0, 1, 0, 0] (body Try.f139))) (normA [] [0, 1, 5]) next ((fun s : Int × Int => ⟨[(0, AV.sl [.int .i64, .int .i64] t0), (1, AV.int .i64 s.1), (5, AV.int .i64 s.2)], []⟩) s) k = (R139_0 t0 s).el none (fun s => next ((fun s : Int × Int => ⟨[(0, AV.sl [.int .i64, .int .i64] t0), (1, AV.int .i64 s.1), (5, AV.int .i64 s.2)], []⟩) s)) (sumE (fun p : Int => k (.exit 0) ⟨[(1, AV.int .i64 p)], []⟩) (fun _ : Unit => k .ret ⟨[(4, AV.int .i64 (-1))], []⟩)) := (s139_0 ce t0 s.1 s.2 next k).trans (by unfold R139_0; unfold F139_0; simp only [el_cond, el_ro, el_sum, el_fail, el_next, el_stop] <;> rfl)
theorem ok139_0 : LoopOK c139 [] 139 0 (sub [1, 0, 1, 0, 0] (body Try.f139)) := by
  intro m hm ce st k r h
  obtain rfl : l139_0 = m := Option.some.inj hm
  unfold l139_0 at h
  split at h
  · rename_i g0 t0 t1 t5
    obtain ⟨hg, h⟩ := bif_some h
    have q0 := hg
    obtain rfl := ctsEq_eq _ _ q0
    refine ⟨(((t0.length : Int) - t5).toNat + 1), ?_⟩
    rw [← h]
    exact loop_run (fun s : Int × Int => ⟨[(0, AV.sl [.int .i64, .int .i64] t0), (1, AV.int .i64 s.1), (5, AV.int .i64 s.2)], []⟩) (sumE (fun p : Int => k (.exit 0) ⟨[(1, AV.int .i64 p)], []⟩) (fun _ : Unit => k .ret ⟨[(4, AV.int .i64 (-1))], []⟩)) (st139_0 t0 ce k) _ (t1, t5)
  · cases h
def q139 (a0 : List AV) (a1 : Int) : Bool := (ro (runW (R139_0 a0) (((a0.length : Int) - 0).toNat + 1) (a1, 0)) false (sumE (fun p27 => true) (fun _ => true)))
def v139_0 (a0 : List AV) (a1 : Int) : Int := (ro (runW (R139_0 a0) (((a0.length : Int) - 0).toNat + 1) (a1, 0)) 0 (sumE (fun p27 => p27) (fun _ => (-1))))
theorem e139 (a0 : List AV) (a1 : Int) : funA c139 0 139 [AV.sl [.int .i64, .int .i64] a0, AV.int .i64 a1] = (ro (runW (R139_0 a0) (((a0.length : Int) - 0).toNat + 1) (a1, 0)) none (sumE (fun p27 => some (AV.int .i64 p27)) (fun _ => some (AV.int .i64 (-1))))) := by kernel_rfl
theorem r139 (a0 : List AV) (a1 : Int) (h : q139 a0 a1 = true) : funA c139 0 139 [AV.sl [.int .i64, .int .i64] a0, AV.int .i64 a1] = some (AV.int .i64 (v139_0 a0 a1)) := (e139 a0 a1).trans ((brO (fun o : Option (Int ⊕ Unit) => some (AV.int .i64 (ro o 0 (sumE (fun p27 => p27) (fun _ => (-1)))))) (brS (fun o : Int ⊕ Unit => some (AV.int .i64 ((sumE (fun p27 => p27) (fun _ => (-1))) o))) (fun p27 => (fun _ => rfl)) (fun _ => (fun _ => rfl)))) h)
def m139 : TModel
  | [.sl g0 a0, .int .i64 a1] => bif ctsEq g0 ([.int .i64, .int .i64]) then some (q139 a0 a1, AV.int .i64 (v139_0 a0 a1)) else none
  | _ => none
theorem k139 : Known Try.prog 139 := ⟨Try.f139, Try.func139, by kernel_rfl, by kernel_rfl⟩
theorem meets139 : Meets Try.prog 139 m139 := by
  refine meet (f := Try.f139) (l := [(0, sub [1, 0, 1, 0, 0] (body Try.f139))]) (hs := [(139, 0, [0, 1, 5]), (139, 999, [4]), (139, 1000, [1]), (139, 1001, [0, 1, 5])]) (ts := []) (ws := []) (is := []) (ls := [(139, 0, l139_0)]) (lvl := 0) mixed k139 Try.func139 (by kernel_rfl) (loops_cons ok139_0 noLoop) allT_nil allM_nil noI fun w xs us r hl hv h => ?_
  unfold m139 at h
  split at h
  · rename_i g0 a0 a1
    obtain ⟨hg, h⟩ := bif_pair h
    have q0 := hg
    obtain rfl := ctsEq_eq _ _ q0
    obtain ⟨h1, rfl⟩ := pair_inj h
    exact r139 a0 a1 h1
  · cases h

/-! ### 100 loop.example/g01984/laws.heldCracker -/
noncomputable def c100 : Cfg := cfg Try.prog [(100, 999, [4])] [(26, m26), (139, m139)] [] [] []
def q100 (a0_0 : List AV) (a0_1 : List AV) (a0_2 : List AV) (a1 : Int) : Bool := (q26 a0_0 a1 && (bif decide ((v26_0 a0_0 a1) < 0) then true else (q26 a0_1 (v26_0 a0_0 a1) && (bif decide ((v26_0 a0_1 (v26_0 a0_0 a1)) < 0) then true else q139 a0_2 (v26_0 a0_1 (v26_0 a0_0 a1))))))
def v100_0 (a0_0 : List AV) (a0_1 : List AV) (a0_2 : List AV) (a1 : Int) : Int := (bif decide ((v26_0 a0_0 a1) < 0) then (-1) else (bif decide ((v26_0 a0_1 (v26_0 a0_0 a1)) < 0) then (-1) else (bif decide ((v139_0 a0_2 (v26_0 a0_1 (v26_0 a0_0 a1))) < 0) then (-1) else (v139_0 a0_2 (v26_0 a0_1 (v26_0 a0_0 a1))))))
theorem e100 (a0_0 : List AV) (a0_1 : List AV) (a0_2 : List AV) (a1 : Int) : funA c100 0 100 [AV.agg [AV.sl [.int .i64] a0_0, AV.sl [.int .i64] a0_1, AV.sl [.int .i64, .int .i64] a0_2], AV.int .i64 a1] = (bif q26 a0_0 a1 then (bif decide ((v26_0 a0_0 a1) < 0) then some (AV.int .i64 (-1))
   else (bif q26 a0_1 (v26_0 a0_0 a1) then (bif decide ((v26_0 a0_1 (v26_0 a0_0 a1)) < 0) then some (AV.int .i64 (-1))
     else (bif q139 a0_2 (v26_0 a0_1 (v26_0 a0_0 a1)) then (bif decide ((v139_0 a0_2 (v26_0 a0_1 (v26_0 a0_0 a1))) < 0) then some (AV.int .i64 (-1))
       else some (AV.int .i64 (v139_0 a0_2 (v26_0 a0_1 (v26_0 a0_0 a1)))))
      else none))
    else none))
  else none) := by kernel_rfl
theorem r100 (a0_0 : List AV) (a0_1 : List AV) (a0_2 : List AV) (a1 : Int) (h : q100 a0_0 a0_1 a0_2 a1 = true) : funA c100 0 100 [AV.agg [AV.sl [.int .i64] a0_0, AV.sl [.int .i64] a0_1, AV.sl [.int .i64, .int .i64] a0_2], AV.int .i64 a1] = some (AV.int .i64 (v100_0 a0_0 a0_1 a0_2 a1)) := (e100 a0_0 a0_1 a0_2 a1).trans ((brL (br (fun b => some (AV.int .i64 (bif b then (-1) else (bif decide ((v26_0 a0_1 (v26_0 a0_0 a1)) < 0) then (-1) else (bif decide ((v139_0 a0_2 (v26_0 a0_1 (v26_0 a0_0 a1))) < 0) then (-1) else (v139_0 a0_2 (v26_0 a0_1 (v26_0 a0_0 a1)))))))) (fun _ => rfl) (brL (br (fun b => some (AV.int .i64 (bif b then (-1) else (bif decide ((v139_0 a0_2 (v26_0 a0_1 (v26_0 a0_0 a1))) < 0) then (-1) else (v139_0 a0_2 (v26_0 a0_1 (v26_0 a0_0 a1))))))) (fun _ => rfl) (brL1 (brT (fun b => some (AV.int .i64 (bif b then (-1) else (v139_0 a0_2 (v26_0 a0_1 (v26_0 a0_0 a1)))))) (fun _ => rfl) (fun _ => rfl))))))) h)
def m100 : TModel
  | [.agg [.sl g0 a0_0, .sl g1 a0_1, .sl g2 a0_2], .int .i64 a1] => bif ctsEq g0 ([.int .i64]) && ctsEq g1 ([.int .i64]) && ctsEq g2 ([.int .i64, .int .i64]) then some (q100 a0_0 a0_1 a0_2 a1, AV.int .i64 (v100_0 a0_0 a0_1 a0_2 a1)) else none
  | _ => none
theorem k100 : Known Try.prog 100 := ⟨Try.f100, Try.func100, by kernel_rfl, by kernel_rfl⟩
theorem meets100 : Meets Try.prog 100 m100 := by
  refine meet (f := Try.f100) (l := []) (hs := [(100, 999, [4])]) (ts := [(26, m26), (139, m139)]) (ws := []) (is := []) (ls := []) (lvl := 0) mixed k100 Try.func100 (by kernel_rfl) noLoop (allT_cons meets26 (allT_cons meets139 allT_nil)) allM_nil noI fun w xs us r hl hv h => ?_
  unfold m100 at h
  split at h
  · rename_i g0 a0_0 g1 a0_1 g2 a0_2 a1
    obtain ⟨hg, h⟩ := bif_pair h
    simp only [Bool.and_eq_true] at hg
    obtain ⟨⟨q0, q1⟩, q2⟩ := hg
    obtain rfl := ctsEq_eq _ _ q0
    obtain rfl := ctsEq_eq _ _ q1
    obtain rfl := ctsEq_eq _ _ q2
    obtain ⟨h1, rfl⟩ := pair_inj h
    exact r100 a0_0 a0_1 a0_2 a1 h1
  · cases h

/-! ### 54 loop.example/g01984/laws.heldStore -/
noncomputable def c54 : Cfg := cfg Try.prog [(54, 999, [4])] [(99, m99), (100, m100)] [] [] []
def q54 (a0_0 : List AV) (a0_1 : Int) (a0_2 : List AV) (a0_3 : List AV) (a0_4 : List AV) (a1 : Int) : Bool := (q99 a0_0 a1 && (bif decide ((v99_0 a0_0 a1) < 0) then true else q100 a0_2 a0_3 a0_4 (v99_0 a0_0 a1)))
def v54_0 (a0_0 : List AV) (a0_1 : Int) (a0_2 : List AV) (a0_3 : List AV) (a0_4 : List AV) (a1 : Int) : Int := (bif decide ((v99_0 a0_0 a1) < 0) then (-1) else (bif decide ((v100_0 a0_2 a0_3 a0_4 (v99_0 a0_0 a1)) < 0) then (-1) else (v100_0 a0_2 a0_3 a0_4 (v99_0 a0_0 a1))))
theorem e54 (a0_0 : List AV) (a0_1 : Int) (a0_2 : List AV) (a0_3 : List AV) (a0_4 : List AV) (a1 : Int) : funA c54 0 54 [AV.agg [AV.sl [.int .i64, .int .i64, .int .i64, .int .i64] a0_0, AV.int .i64 a0_1, AV.sl [.int .i64] a0_2, AV.sl [.int .i64] a0_3, AV.sl [.int .i64, .int .i64] a0_4], AV.int .i64 a1] = (bif q99 a0_0 a1 then (bif decide ((v99_0 a0_0 a1) < 0) then some (AV.int .i64 (-1))
   else (bif q100 a0_2 a0_3 a0_4 (v99_0 a0_0 a1) then (bif decide ((v100_0 a0_2 a0_3 a0_4 (v99_0 a0_0 a1)) < 0) then some (AV.int .i64 (-1))
     else some (AV.int .i64 (v100_0 a0_2 a0_3 a0_4 (v99_0 a0_0 a1))))
    else none))
  else none) := by kernel_rfl
theorem r54 (a0_0 : List AV) (a0_1 : Int) (a0_2 : List AV) (a0_3 : List AV) (a0_4 : List AV) (a1 : Int) (h : q54 a0_0 a0_1 a0_2 a0_3 a0_4 a1 = true) : funA c54 0 54 [AV.agg [AV.sl [.int .i64, .int .i64, .int .i64, .int .i64] a0_0, AV.int .i64 a0_1, AV.sl [.int .i64] a0_2, AV.sl [.int .i64] a0_3, AV.sl [.int .i64, .int .i64] a0_4], AV.int .i64 a1] = some (AV.int .i64 (v54_0 a0_0 a0_1 a0_2 a0_3 a0_4 a1)) := (e54 a0_0 a0_1 a0_2 a0_3 a0_4 a1).trans ((brL (br (fun b => some (AV.int .i64 (bif b then (-1) else (bif decide ((v100_0 a0_2 a0_3 a0_4 (v99_0 a0_0 a1)) < 0) then (-1) else (v100_0 a0_2 a0_3 a0_4 (v99_0 a0_0 a1)))))) (fun _ => rfl) (brL1 (brT (fun b => some (AV.int .i64 (bif b then (-1) else (v100_0 a0_2 a0_3 a0_4 (v99_0 a0_0 a1))))) (fun _ => rfl) (fun _ => rfl))))) h)
def m54 : TModel
  | [.agg [.sl g0 a0_0, .int .i64 a0_1, .sl g1 a0_2, .sl g2 a0_3, .sl g3 a0_4], .int .i64 a1] => bif ctsEq g0 ([.int .i64, .int .i64, .int .i64, .int .i64]) && ctsEq g1 ([.int .i64]) && ctsEq g2 ([.int .i64]) && ctsEq g3 ([.int .i64, .int .i64]) then some (q54 a0_0 a0_1 a0_2 a0_3 a0_4 a1, AV.int .i64 (v54_0 a0_0 a0_1 a0_2 a0_3 a0_4 a1)) else none
  | _ => none
theorem k54 : Known Try.prog 54 := ⟨Try.f54, Try.func54, by kernel_rfl, by kernel_rfl⟩
theorem meets54 : Meets Try.prog 54 m54 := by
  refine meet (f := Try.f54) (l := []) (hs := [(54, 999, [4])]) (ts := [(99, m99), (100, m100)]) (ws := []) (is := []) (ls := []) (lvl := 0) mixed k54 Try.func54 (by kernel_rfl) noLoop (allT_cons meets99 (allT_cons meets100 allT_nil)) allM_nil noI fun w xs us r hl hv h => ?_
  unfold m54 at h
  split at h
  · rename_i g0 a0_0 a0_1 g1 a0_2 g2 a0_3 g3 a0_4 a1
    obtain ⟨hg, h⟩ := bif_pair h
    simp only [Bool.and_eq_true] at hg
    obtain ⟨⟨⟨q0, q1⟩, q2⟩, q3⟩ := hg
    obtain rfl := ctsEq_eq _ _ q0
    obtain rfl := ctsEq_eq _ _ q1
    obtain rfl := ctsEq_eq _ _ q2
    obtain rfl := ctsEq_eq _ _ q3
    obtain ⟨h1, rfl⟩ := pair_inj h
    exact r54 a0_0 a0_1 a0_2 a0_3 a0_4 a1 h1
  · cases h

/-! ### 11 loop.example/g01984/laws.FnExactNewStore -/
noncomputable def c11 : Cfg := cfg Try.prog [(11, 999, [2])] [(22, m22), (34, m34), (42, m42), (51, m51), (52, m52), (54, m54)] [(25, m25), (53, m53)] [] []
def q11 (a0 : List AV) : Bool := (bif decide ((a0.length : Int) > 1048576) then true else (q34 a0 && (q51 (v34_0 a0) && (q34 a0 && (q52 (v34_0 a0) && (q42 (v52_0 (v34_0 a0)) (v52_1 (v34_0 a0)) (v52_2 (v34_0 a0)) (v52_3 (v34_0 a0)) (v52_4 (v34_0 a0)) (v51_0 (v34_0 a0)) (v51_1 (v34_0 a0)) (v51_2 (v34_0 a0)) (v51_3 (v34_0 a0)) (v51_4 (v34_0 a0)) && (bif !(v42_0 (v52_0 (v34_0 a0)) (v52_1 (v34_0 a0)) (v52_2 (v34_0 a0)) (v52_3 (v34_0 a0)) (v52_4 (v34_0 a0)) (v51_0 (v34_0 a0)) (v51_1 (v34_0 a0)) (v51_2 (v34_0 a0)) (v51_3 (v34_0 a0)) (v51_4 (v34_0 a0))) then true else (q34 a0 && (q22 (v34_0 a0) (v34_0 a0) && (bif !(v22_0 (v34_0 a0) (v34_0 a0)) then true else (q25 1 (v34_0 a0) && (bif decide ((v25_0 1 (v34_0 a0)) < 0) then true else (q42 (v52_0 (v34_0 a0)) (v52_1 (v34_0 a0)) (v52_2 (v34_0 a0)) (v52_3 (v34_0 a0)) (v52_4 (v34_0 a0)) (v51_0 (v34_0 a0)) (v51_1 (v34_0 a0)) (v51_2 (v34_0 a0)) (v51_3 (v34_0 a0)) (v51_4 (v34_0 a0)) && (bif !(v42_0 (v52_0 (v34_0 a0)) (v52_1 (v34_0 a0)) (v52_2 (v34_0 a0)) (v52_3 (v34_0 a0)) (v52_4 (v34_0 a0)) (v51_0 (v34_0 a0)) (v51_1 (v34_0 a0)) (v51_2 (v34_0 a0)) (v51_3 (v34_0 a0)) (v51_4 (v34_0 a0))) then true else (q53 (v52_1 (v34_0 a0)) 1 (v52_0 (v34_0 a0)) (v52_2 (v34_0 a0)) (v52_3 (v34_0 a0)) (v52_4 (v34_0 a0)) && (q54 (v53_1 (v52_1 (v34_0 a0)) 1 (v52_0 (v34_0 a0)) (v52_2 (v34_0 a0)) (v52_3 (v34_0 a0)) (v52_4 (v34_0 a0))) (v52_1 (v34_0 a0)) (v53_2 (v52_1 (v34_0 a0)) 1 (v52_0 (v34_0 a0)) (v52_2 (v34_0 a0)) (v52_3 (v34_0 a0)) (v52_4 (v34_0 a0))) (v53_3 (v52_1 (v34_0 a0)) 1 (v52_0 (v34_0 a0)) (v52_2 (v34_0 a0)) (v52_3 (v34_0 a0)) (v52_4 (v34_0 a0))) (v53_4 (v52_1 (v34_0 a0)) 1 (v52_0 (v34_0 a0)) (v52_2 (v34_0 a0)) (v52_3 (v34_0 a0)) (v52_4 (v34_0 a0))) 1 && (bif decide ((v54_0 (v53_1 (v52_1 (v34_0 a0)) 1 (v52_0 (v34_0 a0)) (v52_2 (v34_0 a0)) (v52_3 (v34_0 a0)) (v52_4 (v34_0 a0))) (v52_1 (v34_0 a0)) (v53_2 (v52_1 (v34_0 a0)) 1 (v52_0 (v34_0 a0)) (v52_2 (v34_0 a0)) (v52_3 (v34_0 a0)) (v52_4 (v34_0 a0))) (v53_3 (v52_1 (v34_0 a0)) 1 (v52_0 (v34_0 a0)) (v52_2 (v34_0 a0)) (v52_3 (v34_0 a0)) (v52_4 (v34_0 a0))) (v53_4 (v52_1 (v34_0 a0)) 1 (v52_0 (v34_0 a0)) (v52_2 (v34_0 a0)) (v52_3 (v34_0 a0)) (v52_4 (v34_0 a0))) 1) < 0) then true else (bif !decide ((v54_0 (v53_1 (v52_1 (v34_0 a0)) 1 (v52_0 (v34_0 a0)) (v52_2 (v34_0 a0)) (v52_3 (v34_0 a0)) (v52_4 (v34_0 a0))) (v52_1 (v34_0 a0)) (v53_2 (v52_1 (v34_0 a0)) 1 (v52_0 (v34_0 a0)) (v52_2 (v34_0 a0)) (v52_3 (v34_0 a0)) (v52_4 (v34_0 a0))) (v53_3 (v52_1 (v34_0 a0)) 1 (v52_0 (v34_0 a0)) (v52_2 (v34_0 a0)) (v52_3 (v34_0 a0)) (v52_4 (v34_0 a0))) (v53_4 (v52_1 (v34_0 a0)) 1 (v52_0 (v34_0 a0)) (v52_2 (v34_0 a0)) (v52_3 (v34_0 a0)) (v52_4 (v34_0 a0))) 1) = (v53_0 (v52_1 (v34_0 a0)) 1 (v52_0 (v34_0 a0)) (v52_2 (v34_0 a0)) (v52_3 (v34_0 a0)) (v52_4 (v34_0 a0)))) then true else (q34 a0 && (q52 (v34_0 a0) && (q42 (v52_0 (v34_0 a0)) (v52_1 (v34_0 a0)) (v52_2 (v34_0 a0)) (v52_3 (v34_0 a0)) (v52_4 (v34_0 a0)) (v51_0 (v34_0 a0)) (v51_1 (v34_0 a0)) (v51_2 (v34_0 a0)) (v51_3 (v34_0 a0)) (v51_4 (v34_0 a0)) && (bif !(v42_0 (v52_0 (v34_0 a0)) (v52_1 (v34_0 a0)) (v52_2 (v34_0 a0)) (v52_3 (v34_0 a0)) (v52_4 (v34_0 a0)) (v51_0 (v34_0 a0)) (v51_1 (v34_0 a0)) (v51_2 (v34_0 a0)) (v51_3 (v34_0 a0)) (v51_4 (v34_0 a0))) then true else q54 (v53_1 (v52_1 (v34_0 a0)) 1 (v52_0 (v34_0 a0)) (v52_2 (v34_0 a0)) (v52_3 (v34_0 a0)) (v52_4 (v34_0 a0))) (v52_1 (v34_0 a0)) (v53_2 (v52_1 (v34_0 a0)) 1 (v52_0 (v34_0 a0)) (v52_2 (v34_0 a0)) (v52_3 (v34_0 a0)) (v52_4 (v34_0 a0))) (v53_3 (v52_1 (v34_0 a0)) 1 (v52_0 (v34_0 a0)) (v52_2 (v34_0 a0)) (v52_3 (v34_0 a0)) (v52_4 (v34_0 a0))) (v53_4 (v52_1 (v34_0 a0)) 1 (v52_0 (v34_0 a0)) (v52_2 (v34_0 a0)) (v52_3 (v34_0 a0)) (v52_4 (v34_0 a0))) 1))))))))))))))))))))))
def v11_0 (a0 : List AV) : Bool := (bif decide ((a0.length : Int) > 1048576) then true else (bif !(v42_0 (v52_0 (v34_0 a0)) (v52_1 (v34_0 a0)) (v52_2 (v34_0 a0)) (v52_3 (v34_0 a0)) (v52_4 (v34_0 a0)) (v51_0 (v34_0 a0)) (v51_1 (v34_0 a0)) (v51_2 (v34_0 a0)) (v51_3 (v34_0 a0)) (v51_4 (v34_0 a0))) then false else (bif !(v22_0 (v34_0 a0) (v34_0 a0)) then false else (bif decide ((v25_0 1 (v34_0 a0)) < 0) then false else (bif !(v42_0 (v52_0 (v34_0 a0)) (v52_1 (v34_0 a0)) (v52_2 (v34_0 a0)) (v52_3 (v34_0 a0)) (v52_4 (v34_0 a0)) (v51_0 (v34_0 a0)) (v51_1 (v34_0 a0)) (v51_2 (v34_0 a0)) (v51_3 (v34_0 a0)) (v51_4 (v34_0 a0))) then false else (bif decide ((v54_0 (v53_1 (v52_1 (v34_0 a0)) 1 (v52_0 (v34_0 a0)) (v52_2 (v34_0 a0)) (v52_3 (v34_0 a0)) (v52_4 (v34_0 a0))) (v52_1 (v34_0 a0)) (v53_2 (v52_1 (v34_0 a0)) 1 (v52_0 (v34_0 a0)) (v52_2 (v34_0 a0)) (v52_3 (v34_0 a0)) (v52_4 (v34_0 a0))) (v53_3 (v52_1 (v34_0 a0)) 1 (v52_0 (v34_0 a0)) (v52_2 (v34_0 a0)) (v52_3 (v34_0 a0)) (v52_4 (v34_0 a0))) (v53_4 (v52_1 (v34_0 a0)) 1 (v52_0 (v34_0 a0)) (v52_2 (v34_0 a0)) (v52_3 (v34_0 a0)) (v52_4 (v34_0 a0))) 1) < 0) then false else (bif !decide ((v54_0 (v53_1 (v52_1 (v34_0 a0)) 1 (v52_0 (v34_0 a0)) (v52_2 (v34_0 a0)) (v52_3 (v34_0 a0)) (v52_4 (v34_0 a0))) (v52_1 (v34_0 a0)) (v53_2 (v52_1 (v34_0 a0)) 1 (v52_0 (v34_0 a0)) (v52_2 (v34_0 a0)) (v52_3 (v34_0 a0)) (v52_4 (v34_0 a0))) (v53_3 (v52_1 (v34_0 a0)) 1 (v52_0 (v34_0 a0)) (v52_2 (v34_0 a0)) (v52_3 (v34_0 a0)) (v52_4 (v34_0 a0))) (v53_4 (v52_1 (v34_0 a0)) 1 (v52_0 (v34_0 a0)) (v52_2 (v34_0 a0)) (v52_3 (v34_0 a0)) (v52_4 (v34_0 a0))) 1) = (v53_0 (v52_1 (v34_0 a0)) 1 (v52_0 (v34_0 a0)) (v52_2 (v34_0 a0)) (v52_3 (v34_0 a0)) (v52_4 (v34_0 a0)))) then false else (bif !(v42_0 (v52_0 (v34_0 a0)) (v52_1 (v34_0 a0)) (v52_2 (v34_0 a0)) (v52_3 (v34_0 a0)) (v52_4 (v34_0 a0)) (v51_0 (v34_0 a0)) (v51_1 (v34_0 a0)) (v51_2 (v34_0 a0)) (v51_3 (v34_0 a0)) (v51_4 (v34_0 a0))) then false else (bif decide ((v54_0 (v53_1 (v52_1 (v34_0 a0)) 1 (v52_0 (v34_0 a0)) (v52_2 (v34_0 a0)) (v52_3 (v34_0 a0)) (v52_4 (v34_0 a0))) (v52_1 (v34_0 a0)) (v53_2 (v52_1 (v34_0 a0)) 1 (v52_0 (v34_0 a0)) (v52_2 (v34_0 a0)) (v52_3 (v34_0 a0)) (v52_4 (v34_0 a0))) (v53_3 (v52_1 (v34_0 a0)) 1 (v52_0 (v34_0 a0)) (v52_2 (v34_0 a0)) (v52_3 (v34_0 a0)) (v52_4 (v34_0 a0))) (v53_4 (v52_1 (v34_0 a0)) 1 (v52_0 (v34_0 a0)) (v52_2 (v34_0 a0)) (v52_3 (v34_0 a0)) (v52_4 (v34_0 a0))) 1) < 0) then false else (bif !decide ((v54_0 (v53_1 (v52_1 (v34_0 a0)) 1 (v52_0 (v34_0 a0)) (v52_2 (v34_0 a0)) (v52_3 (v34_0 a0)) (v52_4 (v34_0 a0))) (v52_1 (v34_0 a0)) (v53_2 (v52_1 (v34_0 a0)) 1 (v52_0 (v34_0 a0)) (v52_2 (v34_0 a0)) (v52_3 (v34_0 a0)) (v52_4 (v34_0 a0))) (v53_3 (v52_1 (v34_0 a0)) 1 (v52_0 (v34_0 a0)) (v52_2 (v34_0 a0)) (v52_3 (v34_0 a0)) (v52_4 (v34_0 a0))) (v53_4 (v52_1 (v34_0 a0)) 1 (v52_0 (v34_0 a0)) (v52_2 (v34_0 a0)) (v52_3 (v34_0 a0)) (v52_4 (v34_0 a0))) 1) = (v53_0 (v52_1 (v34_0 a0)) 1 (v52_0 (v34_0 a0)) (v52_2 (v34_0 a0)) (v52_3 (v34_0 a0)) (v52_4 (v34_0 a0)))) then false else true))))))))))
theorem e11 (a0 : List AV) : funA c11 0 11 [AV.sl [.int .i64] a0] = (bif decide ((a0.length : Int) > 1048576) then some (AV.bool true)
  else (bif q34 a0 then (bif q51 (v34_0 a0) then (bif q34 a0 then (bif q52 (v34_0 a0) then (bif q42 (v52_0 (v34_0 a0)) (v52_1 (v34_0 a0)) (v52_2 (v34_0 a0)) (v52_3 (v34_0 a0)) (v52_4 (v34_0 a0)) (v51_0 (v34_0 a0)) (v51_1 (v34_0 a0)) (v51_2 (v34_0 a0)) (v51_3 (v34_0 a0)) (v51_4 (v34_0 a0)) then (bif !(v42_0 (v52_0 (v34_0 a0)) (v52_1 (v34_0 a0)) (v52_2 (v34_0 a0)) (v52_3 (v34_0 a0)) (v52_4 (v34_0 a0)) (v51_0 (v34_0 a0)) (v51_1 (v34_0 a0)) (v51_2 (v34_0 a0)) (v51_3 (v34_0 a0)) (v51_4 (v34_0 a0))) then some (AV.bool false)
        else (bif q34 a0 then (bif q22 (v34_0 a0) (v34_0 a0) then (bif !(v22_0 (v34_0 a0) (v34_0 a0)) then some (AV.bool false)
           else (bif q25 1 (v34_0 a0) then (bif decide ((v25_0 1 (v34_0 a0)) < 0) then some (AV.bool false)
             else (bif q42 (v52_0 (v34_0 a0)) (v52_1 (v34_0 a0)) (v52_2 (v34_0 a0)) (v52_3 (v34_0 a0)) (v52_4 (v34_0 a0)) (v51_0 (v34_0 a0)) (v51_1 (v34_0 a0)) (v51_2 (v34_0 a0)) (v51_3 (v34_0 a0)) (v51_4 (v34_0 a0)) then (bif !(v42_0 (v52_0 (v34_0 a0)) (v52_1 (v34_0 a0)) (v52_2 (v34_0 a0)) (v52_3 (v34_0 a0)) (v52_4 (v34_0 a0)) (v51_0 (v34_0 a0)) (v51_1 (v34_0 a0)) (v51_2 (v34_0 a0)) (v51_3 (v34_0 a0)) (v51_4 (v34_0 a0))) then some (AV.bool false)
               else (bif q53 (v52_1 (v34_0 a0)) 1 (v52_0 (v34_0 a0)) (v52_2 (v34_0 a0)) (v52_3 (v34_0 a0)) (v52_4 (v34_0 a0)) then (bif q54 (v53_1 (v52_1 (v34_0 a0)) 1 (v52_0 (v34_0 a0)) (v52_2 (v34_0 a0)) (v52_3 (v34_0 a0)) (v52_4 (v34_0 a0))) (v52_1 (v34_0 a0)) (v53_2 (v52_1 (v34_0 a0)) 1 (v52_0 (v34_0 a0)) (v52_2 (v34_0 a0)) (v52_3 (v34_0 a0)) (v52_4 (v34_0 a0))) (v53_3 (v52_1 (v34_0 a0)) 1 (v52_0 (v34_0 a0)) (v52_2 (v34_0 a0)) (v52_3 (v34_0 a0)) (v52_4 (v34_0 a0))) (v53_4 (v52_1 (v34_0 a0)) 1 (v52_0 (v34_0 a0)) (v52_2 (v34_0 a0)) (v52_3 (v34_0 a0)) (v52_4 (v34_0 a0))) 1 then (bif decide ((v54_0 (v53_1 (v52_1 (v34_0 a0)) 1 (v52_0 (v34_0 a0)) (v52_2 (v34_0 a0)) (v52_3 (v34_0 a0)) (v52_4 (v34_0 a0))) (v52_1 (v34_0 a0)) (v53_2 (v52_1 (v34_0 a0)) 1 (v52_0 (v34_0 a0)) (v52_2 (v34_0 a0)) (v52_3 (v34_0 a0)) (v52_4 (v34_0 a0))) (v53_3 (v52_1 (v34_0 a0)) 1 (v52_0 (v34_0 a0)) (v52_2 (v34_0 a0)) (v52_3 (v34_0 a0)) (v52_4 (v34_0 a0))) (v53_4 (v52_1 (v34_0 a0)) 1 (v52_0 (v34_0 a0)) (v52_2 (v34_0 a0)) (v52_3 (v34_0 a0)) (v52_4 (v34_0 a0))) 1) < 0) then some (AV.bool false)
                  else (bif !decide ((v54_0 (v53_1 (v52_1 (v34_0 a0)) 1 (v52_0 (v34_0 a0)) (v52_2 (v34_0 a0)) (v52_3 (v34_0 a0)) (v52_4 (v34_0 a0))) (v52_1 (v34_0 a0)) (v53_2 (v52_1 (v34_0 a0)) 1 (v52_0 (v34_0 a0)) (v52_2 (v34_0 a0)) (v52_3 (v34_0 a0)) (v52_4 (v34_0 a0))) (v53_3 (v52_1 (v34_0 a0)) 1 (v52_0 (v34_0 a0)) (v52_2 (v34_0 a0)) (v52_3 (v34_0 a0)) (v52_4 (v34_0 a0))) (v53_4 (v52_1 (v34_0 a0)) 1 (v52_0 (v34_0 a0)) (v52_2 (v34_0 a0)) (v52_3 (v34_0 a0)) (v52_4 (v34_0 a0))) 1) = (v53_0 (v52_1 (v34_0 a0)) 1 (v52_0 (v34_0 a0)) (v52_2 (v34_0 a0)) (v52_3 (v34_0 a0)) (v52_4 (v34_0 a0)))) then some (AV.bool false)
                   else (bif q34 a0 then (bif q52 (v34_0 a0) then (bif q42 (v52_0 (v34_0 a0)) (v52_1 (v34_0 a0)) (v52_2 (v34_0 a0)) (v52_3 (v34_0 a0)) (v52_4 (v34_0 a0)) (v51_0 (v34_0 a0)) (v51_1 (v34_0 a0)) (v51_2 (v34_0 a0)) (v51_3 (v34_0 a0)) (v51_4 (v34_0 a0)) then (bif !(v42_0 (v52_0 (v34_0 a0)) (v52_1 (v34_0 a0)) (v52_2 (v34_0 a0)) (v52_3 (v34_0 a0)) (v52_4 (v34_0 a0)) (v51_0 (v34_0 a0)) (v51_1 (v34_0 a0)) (v51_2 (v34_0 a0)) (v51_3 (v34_0 a0)) (v51_4 (v34_0 a0))) then some (AV.bool false)
                       else (bif q54 (v53_1 (v52_1 (v34_0 a0)) 1 (v52_0 (v34_0 a0)) (v52_2 (v34_0 a0)) (v52_3 (v34_0 a0)) (v52_4 (v34_0 a0))) (v52_1 (v34_0 a0)) (v53_2 (v52_1 (v34_0 a0)) 1 (v52_0 (v34_0 a0)) (v52_2 (v34_0 a0)) (v52_3 (v34_0 a0)) (v52_4 (v34_0 a0))) (v53_3 (v52_1 (v34_0 a0)) 1 (v52_0 (v34_0 a0)) (v52_2 (v34_0 a0)) (v52_3 (v34_0 a0)) (v52_4 (v34_0 a0))) (v53_4 (v52_1 (v34_0 a0)) 1 (v52_0 (v34_0 a0)) (v52_2 (v34_0 a0)) (v52_3 (v34_0 a0)) (v52_4 (v34_0 a0))) 1 then (bif decide ((v54_0 (v53_1 (v52_1 (v34_0 a0)) 1 (v52_0 (v34_0 a0)) (v52_2 (v34_0 a0)) (v52_3 (v34_0 a0)) (v52_4 (v34_0 a0))) (v52_1 (v34_0 a0)) (v53_2 (v52_1 (v34_0 a0)) 1 (v52_0 (v34_0 a0)) (v52_2 (v34_0 a0)) (v52_3 (v34_0 a0)) (v52_4 (v34_0 a0))) (v53_3 (v52_1 (v34_0 a0)) 1 (v52_0 (v34_0 a0)) (v52_2 (v34_0 a0)) (v52_3 (v34_0 a0)) (v52_4 (v34_0 a0))) (v53_4 (v52_1 (v34_0 a0)) 1 (v52_0 (v34_0 a0)) (v52_2 (v34_0 a0)) (v52_3 (v34_0 a0)) (v52_4 (v34_0 a0))) 1) < 0) then some (AV.bool false)
                         else (bif !decide ((v54_0 (v53_1 (v52_1 (v34_0 a0)) 1 (v52_0 (v34_0 a0)) (v52_2 (v34_0 a0)) (v52_3 (v34_0 a0)) (v52_4 (v34_0 a0))) (v52_1 (v34_0 a0)) (v53_2 (v52_1 (v34_0 a0)) 1 (v52_0 (v34_0 a0)) (v52_2 (v34_0 a0)) (v52_3 (v34_0 a0)) (v52_4 (v34_0 a0))) (v53_3 (v52_1 (v34_0 a0)) 1 (v52_0 (v34_0 a0)) (v52_2 (v34_0 a0)) (v52_3 (v34_0 a0)) (v52_4 (v34_0 a0))) (v53_4 (v52_1 (v34_0 a0)) 1 (v52_0 (v34_0 a0)) (v52_2 (v34_0 a0)) (v52_3 (v34_0 a0)) (v52_4 (v34_0 a0))) 1) = (v53_0 (v52_1 (v34_0 a0)) 1 (v52_0 (v34_0 a0)) (v52_2 (v34_0 a0)) (v52_3 (v34_0 a0)) (v52_4 (v34_0 a0)))) then some (AV.bool false)
                          else some (AV.bool true)))
                        else none))
                      else none)
                     else none)
                    else none)))
                 else none)
                else none))
              else none))
            else none))
          else none)
         else none))
       else none)
      else none)
     else none)
    else none)
   else none)) := by kernel_rfl
theorem r11 (a0 : List AV) (h : q11 a0 = true) : funA c11 0 11 [AV.sl [.int .i64] a0] = some (AV.bool (v11_0 a0)) := (e11 a0).trans ((br (fun b => some (AV.bool (bif b then true else (bif !(v42_0 (v52_0 (v34_0 a0)) (v52_1 (v34_0 a0)) (v52_2 (v34_0 a0)) (v52_3 (v34_0 a0)) (v52_4 (v34_0 a0)) (v51_0 (v34_0 a0)) (v51_1 (v34_0 a0)) (v51_2 (v34_0 a0)) (v51_3 (v34_0 a0)) (v51_4 (v34_0 a0))) then false else (bif !(v22_0 (v34_0 a0) (v34_0 a0)) then false else (bif decide ((v25_0 1 (v34_0 a0)) < 0) then false else (bif !(v42_0 (v52_0 (v34_0 a0)) (v52_1 (v34_0 a0)) (v52_2 (v34_0 a0)) (v52_3 (v34_0 a0)) (v52_4 (v34_0 a0)) (v51_0 (v34_0 a0)) (v51_1 (v34_0 a0)) (v51_2 (v34_0 a0)) (v51_3 (v34_0 a0)) (v51_4 (v34_0 a0))) then false else (bif decide ((v54_0 (v53_1 (v52_1 (v34_0 a0)) 1 (v52_0 (v34_0 a0)) (v52_2 (v34_0 a0)) (v52_3 (v34_0 a0)) (v52_4 (v34_0 a0))) (v52_1 (v34_0 a0)) (v53_2 (v52_1 (v34_0 a0)) 1 (v52_0 (v34_0 a0)) (v52_2 (v34_0 a0)) (v52_3 (v34_0 a0)) (v52_4 (v34_0 a0))) (v53_3 (v52_1 (v34_0 a0)) 1 (v52_0 (v34_0 a0)) (v52_2 (v34_0 a0)) (v52_3 (v34_0 a0)) (v52_4 (v34_0 a0))) (v53_4 (v52_1 (v34_0 a0)) 1 (v52_0 (v34_0 a0)) (v52_2 (v34_0 a0)) (v52_3 (v34_0 a0)) (v52_4 (v34_0 a0))) 1) < 0) then false else (bif !decide ((v54_0 (v53_1 (v52_1 (v34_0 a0)) 1 (v52_0 (v34_0 a0)) (v52_2 (v34_0 a0)) (v52_3 (v34_0 a0)) (v52_4 (v34_0 a0))) (v52_1 (v34_0 a0)) (v53_2 (v52_1 (v34_0 a0)) 1 (v52_0 (v34_0 a0)) (v52_2 (v34_0 a0)) (v52_3 (v34_0 a0)) (v52_4 (v34_0 a0))) (v53_3 (v52_1 (v34_0 a0)) 1 (v52_0 (v34_0 a0)) (v52_2 (v34_0 a0)) (v52_3 (v34_0 a0)) (v52_4 (v34_0 a0))) (v53_4 (v52_1 (v34_0 a0)) 1 (v52_0 (v34_0 a0)) (v52_2 (v34_0 a0)) (v52_3 (v34_0 a0)) (v52_4 (v34_0 a0))) 1) = (v53_0 (v52_1 (v34_0 a0)) 1 (v52_0 (v34_0 a0)) (v52_2 (v34_0 a0)) (v52_3 (v34_0 a0)) (v52_4 (v34_0 a0)))) then false else (bif !(v42_0 (v52_0 (v34_0 a0)) (v52_1 (v34_0 a0)) (v52_2 (v34_0 a0)) (v52_3 (v34_0 a0)) (v52_4 (v34_0 a0)) (v51_0 (v34_0 a0)) (v51_1 (v34_0 a0)) (v51_2 (v34_0 a0)) (v51_3 (v34_0 a0)) (v51_4 (v34_0 a0))) then false else (bif decide ((v54_0 (v53_1 (v52_1 (v34_0 a0)) 1 (v52_0 (v34_0 a0)) (v52_2 (v34_0 a0)) (v52_3 (v34_0 a0)) (v52_4 (v34_0 a0))) (v52_1 (v34_0 a0)) (v53_2 (v52_1 (v34_0 a0)) 1 (v52_0 (v34_0 a0)) (v52_2 (v34_0 a0)) (v52_3 (v34_0 a0)) (v52_4 (v34_0 a0))) (v53_3 (v52_1 (v34_0 a0)) 1 (v52_0 (v34_0 a0)) (v52_2 (v34_0 a0)) (v52_3 (v34_0 a0)) (v52_4 (v34_0 a0))) (v53_4 (v52_1 (v34_0 a0)) 1 (v52_0 (v34_0 a0)) (v52_2 (v34_0 a0)) (v52_3 (v34_0 a0)) (v52_4 (v34_0 a0))) 1) < 0) then false else (bif !decide ((v54_0 (v53_1 (v52_1 (v34_0 a0)) 1 (v52_0 (v34_0 a0)) (v52_2 (v34_0 a0)) (v52_3 (v34_0 a0)) (v52_4 (v34_0 a0))) (v52_1 (v34_0 a0)) (v53_2 (v52_1 (v34_0 a0)) 1 (v52_0 (v34_0 a0)) (v52_2 (v34_0 a0)) (v52_3 (v34_0 a0)) (v52_4 (v34_0 a0))) (v53_3 (v52_1 (v34_0 a0)) 1 (v52_0 (v34_0 a0)) (v52_2 (v34_0 a0)) (v52_3 (v34_0 a0)) (v52_4 (v34_0 a0))) (v53_4 (v52_1 (v34_0 a0)) 1 (v52_0 (v34_0 a0)) (v52_2 (v34_0 a0)) (v52_3 (v34_0 a0)) (v52_4 (v34_0 a0))) 1) = (v53_0 (v52_1 (v34_0 a0)) 1 (v52_0 (v34_0 a0)) (v52_2 (v34_0 a0)) (v52_3 (v34_0 a0)) (v52_4 (v34_0 a0)))) then false else true)))))))))))) (fun _ => rfl) (brL (brL (brL (brL (brL (br (fun b => some (AV.bool (bif b then false else (bif !(v22_0 (v34_0 a0) (v34_0 a0)) then false else (bif decide ((v25_0 1 (v34_0 a0)) < 0) then false else (bif !(v42_0 (v52_0 (v34_0 a0)) (v52_1 (v34_0 a0)) (v52_2 (v34_0 a0)) (v52_3 (v34_0 a0)) (v52_4 (v34_0 a0)) (v51_0 (v34_0 a0)) (v51_1 (v34_0 a0)) (v51_2 (v34_0 a0)) (v51_3 (v34_0 a0)) (v51_4 (v34_0 a0))) then false else (bif decide ((v54_0 (v53_1 (v52_1 (v34_0 a0)) 1 (v52_0 (v34_0 a0)) (v52_2 (v34_0 a0)) (v52_3 (v34_0 a0)) (v52_4 (v34_0 a0))) (v52_1 (v34_0 a0)) (v53_2 (v52_1 (v34_0 a0)) 1 (v52_0 (v34_0 a0)) (v52_2 (v34_0 a0)) (v52_3 (v34_0 a0)) (v52_4 (v34_0 a0))) (v53_3 (v52_1 (v34_0 a0)) 1 (v52_0 (v34_0 a0)) (v52_2 (v34_0 a0)) (v52_3 (v34_0 a0)) (v52_4 (v34_0 a0))) (v53_4 (v52_1 (v34_0 a0)) 1 (v52_0 (v34_0 a0)) (v52_2 (v34_0 a0)) (v52_3 (v34_0 a0)) (v52_4 (v34_0 a0))) 1) < 0) then false else (bif !decide ((v54_0 (v53_1 (v52_1 (v34_0 a0)) 1 (v52_0 (v34_0 a0)) (v52_2 (v34_0 a0)) (v52_3 (v34_0 a0)) (v52_4 (v34_0 a0))) (v52_1 (v34_0 a0)) (v53_2 (v52_1 (v34_0 a0)) 1 (v52_0 (v34_0 a0)) (v52_2 (v34_0 a0)) (v52_3 (v34_0 a0)) (v52_4 (v34_0 a0))) (v53_3 (v52_1 (v34_0 a0)) 1 (v52_0 (v34_0 a0)) (v52_2 (v34_0 a0)) (v52_3 (v34_0 a0)) (v52_4 (v34_0 a0))) (v53_4 (v52_1 (v34_0 a0)) 1 (v52_0 (v34_0 a0)) (v52_2 (v34_0 a0)) (v52_3 (v34_0 a0)) (v52_4 (v34_0 a0))) 1) = (v53_0 (v52_1 (v34_0 a0)) 1 (v52_0 (v34_0 a0)) (v52_2 (v34_0 a0)) (v52_3 (v34_0 a0)) (v52_4 (v34_0 a0)))) then false else (bif !(v42_0 (v52_0 (v34_0 a0)) (v52_1 (v34_0 a0)) (v52_2 (v34_0 a0)) (v52_3 (v34_0 a0)) (v52_4 (v34_0 a0)) (v51_0 (v34_0 a0)) (v51_1 (v34_0 a0)) (v51_2 (v34_0 a0)) (v51_3 (v34_0 a0)) (v51_4 (v34_0 a0))) then false else (bif decide ((v54_0 (v53_1 (v52_1 (v34_0 a0)) 1 (v52_0 (v34_0 a0)) (v52_2 (v34_0 a0)) (v52_3 (v34_0 a0)) (v52_4 (v34_0 a0))) (v52_1 (v34_0 a0)) (v53_2 (v52_1 (v34_0 a0)) 1 (v52_0 (v34_0 a0)) (v52_2 (v34_0 a0)) (v52_3 (v34_0 a0)) (v52_4 (v34_0 a0))) (v53_3 (v52_1 (v34_0 a0)) 1 (v52_0 (v34_0 a0)) (v52_2 (v34_0 a0)) (v52_3 (v34_0 a0)) (v52_4 (v34_0 a0))) (v53_4 (v52_1 (v34_0 a0)) 1 (v52_0 (v34_0 a0)) (v52_2 (v34_0 a0)) (v52_3 (v34_0 a0)) (v52_4 (v34_0 a0))) 1) < 0) then false else (bif !decide ((v54_0 (v53_1 (v52_1 (v34_0 a0)) 1 (v52_0 (v34_0 a0)) (v52_2 (v34_0 a0)) (v52_3 (v34_0 a0)) (v52_4 (v34_0 a0))) (v52_1 (v34_0 a0)) (v53_2 (v52_1 (v34_0 a0)) 1 (v52_0 (v34_0 a0)) (v52_2 (v34_0 a0)) (v52_3 (v34_0 a0)) (v52_4 (v34_0 a0))) (v53_3 (v52_1 (v34_0 a0)) 1 (v52_0 (v34_0 a0)) (v52_2 (v34_0 a0)) (v52_3 (v34_0 a0)) (v52_4 (v34_0 a0))) (v53_4 (v52_1 (v34_0 a0)) 1 (v52_0 (v34_0 a0)) (v52_2 (v34_0 a0)) (v52_3 (v34_0 a0)) (v52_4 (v34_0 a0))) 1) = (v53_0 (v52_1 (v34_0 a0)) 1 (v52_0 (v34_0 a0)) (v52_2 (v34_0 a0)) (v52_3 (v34_0 a0)) (v52_4 (v34_0 a0)))) then false else true))))))))))) (fun _ => rfl) (brL (brL (br (fun b => some (AV.bool (bif b then false else (bif decide ((v25_0 1 (v34_0 a0)) < 0) then false else (bif !(v42_0 (v52_0 (v34_0 a0)) (v52_1 (v34_0 a0)) (v52_2 (v34_0 a0)) (v52_3 (v34_0 a0)) (v52_4 (v34_0 a0)) (v51_0 (v34_0 a0)) (v51_1 (v34_0 a0)) (v51_2 (v34_0 a0)) (v51_3 (v34_0 a0)) (v51_4 (v34_0 a0))) then false else (bif decide ((v54_0 (v53_1 (v52_1 (v34_0 a0)) 1 (v52_0 (v34_0 a0)) (v52_2 (v34_0 a0)) (v52_3 (v34_0 a0)) (v52_4 (v34_0 a0))) (v52_1 (v34_0 a0)) (v53_2 (v52_1 (v34_0 a0)) 1 (v52_0 (v34_0 a0)) (v52_2 (v34_0 a0)) (v52_3 (v34_0 a0)) (v52_4 (v34_0 a0))) (v53_3 (v52_1 (v34_0 a0)) 1 (v52_0 (v34_0 a0)) (v52_2 (v34_0 a0)) (v52_3 (v34_0 a0)) (v52_4 (v34_0 a0))) (v53_4 (v52_1 (v34_0 a0)) 1 (v52_0 (v34_0 a0)) (v52_2 (v34_0 a0)) (v52_3 (v34_0 a0)) (v52_4 (v34_0 a0))) 1) < 0) then false else (bif !decide ((v54_0 (v53_1 (v52_1 (v34_0 a0)) 1 (v52_0 (v34_0 a0)) (v52_2 (v34_0 a0)) (v52_3 (v34_0 a0)) (v52_4 (v34_0 a0))) (v52_1 (v34_0 a0)) (v53_2 (v52_1 (v34_0 a0)) 1 (v52_0 (v34_0 a0)) (v52_2 (v34_0 a0)) (v52_3 (v34_0 a0)) (v52_4 (v34_0 a0))) (v53_3 (v52_1 (v34_0 a0)) 1 (v52_0 (v34_0 a0)) (v52_2 (v34_0 a0)) (v52_3 (v34_0 a0)) (v52_4 (v34_0 a0))) (v53_4 (v52_1 (v34_0 a0)) 1 (v52_0 (v34_0 a0)) (v52_2 (v34_0 a0)) (v52_3 (v34_0 a0)) (v52_4 (v34_0 a0))) 1) = (v53_0 (v52_1 (v34_0 a0)) 1 (v52_0 (v34_0 a0)) (v52_2 (v34_0 a0)) (v52_3 (v34_0 a0)) (v52_4 (v34_0 a0)))) then false else (bif !(v42_0 (v52_0 (v34_0 a0)) (v52_1 (v34_0 a0)) (v52_2 (v34_0 a0)) (v52_3 (v34_0 a0)) (v52_4 (v34_0 a0)) (v51_0 (v34_0 a0)) (v51_1 (v34_0 a0)) (v51_2 (v34_0 a0)) (v51_3 (v34_0 a0)) (v51_4 (v34_0 a0))) then false else (bif decide ((v54_0 (v53_1 (v52_1 (v34_0 a0)) 1 (v52_0 (v34_0 a0)) (v52_2 (v34_0 a0)) (v52_3 (v34_0 a0)) (v52_4 (v34_0 a0))) (v52_1 (v34_0 a0)) (v53_2 (v52_1 (v34_0 a0)) 1 (v52_0 (v34_0 a0)) (v52_2 (v34_0 a0)) (v52_3 (v34_0 a0)) (v52_4 (v34_0 a0))) (v53_3 (v52_1 (v34_0 a0)) 1 (v52_0 (v34_0 a0)) (v52_2 (v34_0 a0)) (v52_3 (v34_0 a0)) (v52_4 (v34_0 a0))) (v53_4 (v52_1 (v34_0 a0)) 1 (v52_0 (v34_0 a0)) (v52_2 (v34_0 a0)) (v52_3 (v34_0 a0)) (v52_4 (v34_0 a0))) 1) < 0) then false else (bif !decide ((v54_0 (v53_1 (v52_1 (v34_0 a0)) 1 (v52_0 (v34_0 a0)) (v52_2 (v34_0 a0)) (v52_3 (v34_0 a0)) (v52_4 (v34_0 a0))) (v52_1 (v34_0 a0)) (v53_2 (v52_1 (v34_0 a0)) 1 (v52_0 (v34_0 a0)) (v52_2 (v34_0 a0)) (v52_3 (v34_0 a0)) (v52_4 (v34_0 a0))) (v53_3 (v52_1 (v34_0 a0)) 1 (v52_0 (v34_0 a0)) (v52_2 (v34_0 a0)) (v52_3 (v34_0 a0)) (v52_4 (v34_0 a0))) (v53_4 (v52_1 (v34_0 a0)) 1 (v52_0 (v34_0 a0)) (v52_2 (v34_0 a0)) (v52_3 (v34_0 a0)) (v52_4 (v34_0 a0))) 1) = (v53_0 (v52_1 (v34_0 a0)) 1 (v52_0 (v34_0 a0)) (v52_2 (v34_0 a0)) (v52_3 (v34_0 a0)) (v52_4 (v34_0 a0)))) then false else true)))))))))) (fun _ => rfl) (brL (br (fun b => some (AV.bool (bif b then false else (bif !(v42_0 (v52_0 (v34_0 a0)) (v52_1 (v34_0 a0)) (v52_2 (v34_0 a0)) (v52_3 (v34_0 a0)) (v52_4 (v34_0 a0)) (v51_0 (v34_0 a0)) (v51_1 (v34_0 a0)) (v51_2 (v34_0 a0)) (v51_3 (v34_0 a0)) (v51_4 (v34_0 a0))) then false else (bif decide ((v54_0 (v53_1 (v52_1 (v34_0 a0)) 1 (v52_0 (v34_0 a0)) (v52_2 (v34_0 a0)) (v52_3 (v34_0 a0)) (v52_4 (v34_0 a0))) (v52_1 (v34_0 a0)) (v53_2 (v52_1 (v34_0 a0)) 1 (v52_0 (v34_0 a0)) (v52_2 (v34_0 a0)) (v52_3 (v34_0 a0)) (v52_4 (v34_0 a0))) (v53_3 (v52_1 (v34_0 a0)) 1 (v52_0 (v34_0 a0)) (v52_2 (v34_0 a0)) (v52_3 (v34_0 a0)) (v52_4 (v34_0 a0))) (v53_4 (v52_1 (v34_0 a0)) 1 (v52_0 (v34_0 a0)) (v52_2 (v34_0 a0)) (v52_3 (v34_0 a0)) (v52_4 (v34_0 a0))) 1) < 0) then false else (bif !decide ((v54_0 (v53_1 (v52_1 (v34_0 a0)) 1 (v52_0 (v34_0 a0)) (v52_2 (v34_0 a0)) (v52_3 (v34_0 a0)) (v52_4 (v34_0 a0))) (v52_1 (v34_0 a0)) (v53_2 (v52_1 (v34_0 a0)) 1 (v52_0 (v34_0 a0)) (v52_2 (v34_0 a0)) (v52_3 (v34_0 a0)) (v52_4 (v34_0 a0))) (v53_3 (v52_1 (v34_0 a0)) 1 (v52_0 (v34_0 a0)) (v52_2 (v34_0 a0)) (v52_3 (v34_0 a0)) (v52_4 (v34_0 a0))) (v53_4 (v52_1 (v34_0 a0)) 1 (v52_0 (v34_0 a0)) (v52_2 (v34_0 a0)) (v52_3 (v34_0 a0)) (v52_4 (v34_0 a0))) 1) = (v53_0 (v52_1 (v34_0 a0)) 1 (v52_0 (v34_0 a0)) (v52_2 (v34_0 a0)) (v52_3 (v34_0 a0)) (v52_4 (v34_0 a0)))) then false else (bif !(v42_0 (v52_0 (v34_0 a0)) (v52_1 (v34_0 a0)) (v52_2 (v34_0 a0)) (v52_3 (v34_0 a0)) (v52_4 (v34_0 a0)) (v51_0 (v34_0 a0)) (v51_1 (v34_0 a0)) (v51_2 (v34_0 a0)) (v51_3 (v34_0 a0)) (v51_4 (v34_0 a0))) then false else (bif decide ((v54_0 (v53_1 (v52_1 (v34_0 a0)) 1 (v52_0 (v34_0 a0)) (v52_2 (v34_0 a0)) (v52_3 (v34_0 a0)) (v52_4 (v34_0 a0))) (v52_1 (v34_0 a0)) (v53_2 (v52_1 (v34_0 a0)) 1 (v52_0 (v34_0 a0)) (v52_2 (v34_0 a0)) (v52_3 (v34_0 a0)) (v52_4 (v34_0 a0))) (v53_3 (v52_1 (v34_0 a0)) 1 (v52_0 (v34_0 a0)) (v52_2 (v34_0 a0)) (v52_3 (v34_0 a0)) (v52_4 (v34_0 a0))) (v53_4 (v52_1 (v34_0 a0)) 1 (v52_0 (v34_0 a0)) (v52_2 (v34_0 a0)) (v52_3 (v34_0 a0)) (v52_4 (v34_0 a0))) 1) < 0) then false else (bif !decide ((v54_0 (v53_1 (v52_1 (v34_0 a0)) 1 (v52_0 (v34_0 a0)) (v52_2 (v34_0 a0)) (v52_3 (v34_0 a0)) (v52_4 (v34_0 a0))) (v52_1 (v34_0 a0)) (v53_2 (v52_1 (v34_0 a0)) 1 (v52_0 (v34_0 a0)) (v52_2 (v34_0 a0)) (v52_3 (v34_0 a0)) (v52_4 (v34_0 a0))) (v53_3 (v52_1 (v34_0 a0)) 1 (v52_0 (v34_0 a0)) (v52_2 (v34_0 a0)) (v52_3 (v34_0 a0)) (v52_4 (v34_0 a0))) (v53_4 (v52_1 (v34_0 a0)) 1 (v52_0 (v34_0 a0)) (v52_2 (v34_0 a0)) (v52_3 (v34_0 a0)) (v52_4 (v34_0 a0))) 1) = (v53_0 (v52_1 (v34_0 a0)) 1 (v52_0 (v34_0 a0)) (v52_2 (v34_0 a0)) (v52_3 (v34_0 a0)) (v52_4 (v34_0 a0)))) then false else true))))))))) (fun _ => rfl) (brL (br (fun b => some (AV.bool (bif b then false else (bif decide ((v54_0 (v53_1 (v52_1 (v34_0 a0)) 1 (v52_0 (v34_0 a0)) (v52_2 (v34_0 a0)) (v52_3 (v34_0 a0)) (v52_4 (v34_0 a0))) (v52_1 (v34_0 a0)) (v53_2 (v52_1 (v34_0 a0)) 1 (v52_0 (v34_0 a0)) (v52_2 (v34_0 a0)) (v52_3 (v34_0 a0)) (v52_4 (v34_0 a0))) (v53_3 (v52_1 (v34_0 a0)) 1 (v52_0 (v34_0 a0)) (v52_2 (v34_0 a0)) (v52_3 (v34_0 a0)) (v52_4 (v34_0 a0))) (v53_4 (v52_1 (v34_0 a0)) 1 (v52_0 (v34_0 a0)) (v52_2 (v34_0 a0)) (v52_3 (v34_0 a0)) (v52_4 (v34_0 a0))) 1) < 0) then false else (bif !decide ((v54_0 (v53_1 (v52_1 (v34_0 a0)) 1 (v52_0 (v34_0 a0)) (v52_2 (v34_0 a0)) (v52_3 (v34_0 a0)) (v52_4 (v34_0 a0))) (v52_1 (v34_0 a0)) (v53_2 (v52_1 (v34_0 a0)) 1 (v52_0 (v34_0 a0)) (v52_2 (v34_0 a0)) (v52_3 (v34_0 a0)) (v52_4 (v34_0 a0))) (v53_3 (v52_1 (v34_0 a0)) 1 (v52_0 (v34_0 a0)) (v52_2 (v34_0 a0)) (v52_3 (v34_0 a0)) (v52_4 (v34_0 a0))) (v53_4 (v52_1 (v34_0 a0)) 1 (v52_0 (v34_0 a0)) (v52_2 (v34_0 a0)) (v52_3 (v34_0 a0)) (v52_4 (v34_0 a0))) 1) = (v53_0 (v52_1 (v34_0 a0)) 1 (v52_0 (v34_0 a0)) (v52_2 (v34_0 a0)) (v52_3 (v34_0 a0)) (v52_4 (v34_0 a0)))) then false else (bif !(v42_0 (v52_0 (v34_0 a0)) (v52_1 (v34_0 a0)) (v52_2 (v34_0 a0)) (v52_3 (v34_0 a0)) (v52_4 (v34_0 a0)) (v51_0 (v34_0 a0)) (v51_1 (v34_0 a0)) (v51_2 (v34_0 a0)) (v51_3 (v34_0 a0)) (v51_4 (v34_0 a0))) then false else (bif decide ((v54_0 (v53_1 (v52_1 (v34_0 a0)) 1 (v52_0 (v34_0 a0)) (v52_2 (v34_0 a0)) (v52_3 (v34_0 a0)) (v52_4 (v34_0 a0))) (v52_1 (v34_0 a0)) (v53_2 (v52_1 (v34_0 a0)) 1 (v52_0 (v34_0 a0)) (v52_2 (v34_0 a0)) (v52_3 (v34_0 a0)) (v52_4 (v34_0 a0))) (v53_3 (v52_1 (v34_0 a0)) 1 (v52_0 (v34_0 a0)) (v52_2 (v34_0 a0)) (v52_3 (v34_0 a0)) (v52_4 (v34_0 a0))) (v53_4 (v52_1 (v34_0 a0)) 1 (v52_0 (v34_0 a0)) (v52_2 (v34_0 a0)) (v52_3 (v34_0 a0)) (v52_4 (v34_0 a0))) 1) < 0) then false else (bif !decide ((v54_0 (v53_1 (v52_1 (v34_0 a0)) 1 (v52_0 (v34_0 a0)) (v52_2 (v34_0 a0)) (v52_3 (v34_0 a0)) (v52_4 (v34_0 a0))) (v52_1 (v34_0 a0)) (v53_2 (v52_1 (v34_0 a0)) 1 (v52_0 (v34_0 a0)) (v52_2 (v34_0 a0)) (v52_3 (v34_0 a0)) (v52_4 (v34_0 a0))) (v53_3 (v52_1 (v34_0 a0)) 1 (v52_0 (v34_0 a0)) (v52_2 (v34_0 a0)) (v52_3 (v34_0 a0)) (v52_4 (v34_0 a0))) (v53_4 (v52_1 (v34_0 a0)) 1 (v52_0 (v34_0 a0)) (v52_2 (v34_0 a0)) (v52_3 (v34_0 a0)) (v52_4 (v34_0 a0))) 1) = (v53_0 (v52_1 (v34_0 a0)) 1 (v52_0 (v34_0 a0)) (v52_2 (v34_0 a0)) (v52_3 (v34_0 a0)) (v52_4 (v34_0 a0)))) then false else true)))))))) (fun _ => rfl) (brL (brL (br (fun b => some (AV.bool (bif b then false else (bif !decide ((v54_0 (v53_1 (v52_1 (v34_0 a0)) 1 (v52_0 (v34_0 a0)) (v52_2 (v34_0 a0)) (v52_3 (v34_0 a0)) (v52_4 (v34_0 a0))) (v52_1 (v34_0 a0)) (v53_2 (v52_1 (v34_0 a0)) 1 (v52_0 (v34_0 a0)) (v52_2 (v34_0 a0)) (v52_3 (v34_0 a0)) (v52_4 (v34_0 a0))) (v53_3 (v52_1 (v34_0 a0)) 1 (v52_0 (v34_0 a0)) (v52_2 (v34_0 a0)) (v52_3 (v34_0 a0)) (v52_4 (v34_0 a0))) (v53_4 (v52_1 (v34_0 a0)) 1 (v52_0 (v34_0 a0)) (v52_2 (v34_0 a0)) (v52_3 (v34_0 a0)) (v52_4 (v34_0 a0))) 1) = (v53_0 (v52_1 (v34_0 a0)) 1 (v52_0 (v34_0 a0)) (v52_2 (v34_0 a0)) (v52_3 (v34_0 a0)) (v52_4 (v34_0 a0)))) then false else (bif !(v42_0 (v52_0 (v34_0 a0)) (v52_1 (v34_0 a0)) (v52_2 (v34_0 a0)) (v52_3 (v34_0 a0)) (v52_4 (v34_0 a0)) (v51_0 (v34_0 a0)) (v51_1 (v34_0 a0)) (v51_2 (v34_0 a0)) (v51_3 (v34_0 a0)) (v51_4 (v34_0 a0))) then false else (bif decide ((v54_0 (v53_1 (v52_1 (v34_0 a0)) 1 (v52_0 (v34_0 a0)) (v52_2 (v34_0 a0)) (v52_3 (v34_0 a0)) (v52_4 (v34_0 a0))) (v52_1 (v34_0 a0)) (v53_2 (v52_1 (v34_0 a0)) 1 (v52_0 (v34_0 a0)) (v52_2 (v34_0 a0)) (v52_3 (v34_0 a0)) (v52_4 (v34_0 a0))) (v53_3 (v52_1 (v34_0 a0)) 1 (v52_0 (v34_0 a0)) (v52_2 (v34_0 a0)) (v52_3 (v34_0 a0)) (v52_4 (v34_0 a0))) (v53_4 (v52_1 (v34_0 a0)) 1 (v52_0 (v34_0 a0)) (v52_2 (v34_0 a0)) (v52_3 (v34_0 a0)) (v52_4 (v34_0 a0))) 1) < 0) then false else (bif !decide ((v54_0 (v53_1 (v52_1 (v34_0 a0)) 1 (v52_0 (v34_0 a0)) (v52_2 (v34_0 a0)) (v52_3 (v34_0 a0)) (v52_4 (v34_0 a0))) (v52_1 (v34_0 a0)) (v53_2 (v52_1 (v34_0 a0)) 1 (v52_0 (v34_0 a0)) (v52_2 (v34_0 a0)) (v52_3 (v34_0 a0)) (v52_4 (v34_0 a0))) (v53_3 (v52_1 (v34_0 a0)) 1 (v52_0 (v34_0 a0)) (v52_2 (v34_0 a0)) (v52_3 (v34_0 a0)) (v52_4 (v34_0 a0))) (v53_4 (v52_1 (v34_0 a0)) 1 (v52_0 (v34_0 a0)) (v52_2 (v34_0 a0)) (v52_3 (v34_0 a0)) (v52_4 (v34_0 a0))) 1) = (v53_0 (v52_1 (v34_0 a0)) 1 (v52_0 (v34_0 a0)) (v52_2 (v34_0 a0)) (v52_3 (v34_0 a0)) (v52_4 (v34_0 a0)))) then false else true))))))) (fun _ => rfl) (br (fun b => some (AV.bool (bif b then false else (bif !(v42_0 (v52_0 (v34_0 a0)) (v52_1 (v34_0 a0)) (v52_2 (v34_0 a0)) (v52_3 (v34_0 a0)) (v52_4 (v34_0 a0)) (v51_0 (v34_0 a0)) (v51_1 (v34_0 a0)) (v51_2 (v34_0 a0)) (v51_3 (v34_0 a0)) (v51_4 (v34_0 a0))) then false else (bif decide ((v54_0 (v53_1 (v52_1 (v34_0 a0)) 1 (v52_0 (v34_0 a0)) (v52_2 (v34_0 a0)) (v52_3 (v34_0 a0)) (v52_4 (v34_0 a0))) (v52_1 (v34_0 a0)) (v53_2 (v52_1 (v34_0 a0)) 1 (v52_0 (v34_0 a0)) (v52_2 (v34_0 a0)) (v52_3 (v34_0 a0)) (v52_4 (v34_0 a0))) (v53_3 (v52_1 (v34_0 a0)) 1 (v52_0 (v34_0 a0)) (v52_2 (v34_0 a0)) (v52_3 (v34_0 a0)) (v52_4 (v34_0 a0))) (v53_4 (v52_1 (v34_0 a0)) 1 (v52_0 (v34_0 a0)) (v52_2 (v34_0 a0)) (v52_3 (v34_0 a0)) (v52_4 (v34_0 a0))) 1) < 0) then false else (bif !decide ((v54_0 (v53_1 (v52_1 (v34_0 a0)) 1 (v52_0 (v34_0 a0)) (v52_2 (v34_0 a0)) (v52_3 (v34_0 a0)) (v52_4 (v34_0 a0))) (v52_1 (v34_0 a0)) (v53_2 (v52_1 (v34_0 a0)) 1 (v52_0 (v34_0 a0)) (v52_2 (v34_0 a0)) (v52_3 (v34_0 a0)) (v52_4 (v34_0 a0))) (v53_3 (v52_1 (v34_0 a0)) 1 (v52_0 (v34_0 a0)) (v52_2 (v34_0 a0)) (v52_3 (v34_0 a0)) (v52_4 (v34_0 a0))) (v53_4 (v52_1 (v34_0 a0)) 1 (v52_0 (v34_0 a0)) (v52_2 (v34_0 a0)) (v52_3 (v34_0 a0)) (v52_4 (v34_0 a0))) 1) = (v53_0 (v52_1 (v34_0 a0)) 1 (v52_0 (v34_0 a0)) (v52_2 (v34_0 a0)) (v52_3 (v34_0 a0)) (v52_4 (v34_0 a0)))) then false else true)))))) (fun _ => rfl) (brL (brL (brL (br (fun b => some (AV.bool (bif b then false else (bif decide ((v54_0 (v53_1 (v52_1 (v34_0 a0)) 1 (v52_0 (v34_0 a0)) (v52_2 (v34_0 a0)) (v52_3 (v34_0 a0)) (v52_4 (v34_0 a0))) (v52_1 (v34_0 a0)) (v53_2 (v52_1 (v34_0 a0)) 1 (v52_0 (v34_0 a0)) (v52_2 (v34_0 a0)) (v52_3 (v34_0 a0)) (v52_4 (v34_0 a0))) (v53_3 (v52_1 (v34_0 a0)) 1 (v52_0 (v34_0 a0)) (v52_2 (v34_0 a0)) (v52_3 (v34_0 a0)) (v52_4 (v34_0 a0))) (v53_4 (v52_1 (v34_0 a0)) 1 (v52_0 (v34_0 a0)) (v52_2 (v34_0 a0)) (v52_3 (v34_0 a0)) (v52_4 (v34_0 a0))) 1) < 0) then false else (bif !decide ((v54_0 (v53_1 (v52_1 (v34_0 a0)) 1 (v52_0 (v34_0 a0)) (v52_2 (v34_0 a0)) (v52_3 (v34_0 a0)) (v52_4 (v34_0 a0))) (v52_1 (v34_0 a0)) (v53_2 (v52_1 (v34_0 a0)) 1 (v52_0 (v34_0 a0)) (v52_2 (v34_0 a0)) (v52_3 (v34_0 a0)) (v52_4 (v34_0 a0))) (v53_3 (v52_1 (v34_0 a0)) 1 (v52_0 (v34_0 a0)) (v52_2 (v34_0 a0)) (v52_3 (v34_0 a0)) (v52_4 (v34_0 a0))) (v53_4 (v52_1 (v34_0 a0)) 1 (v52_0 (v34_0 a0)) (v52_2 (v34_0 a0)) (v52_3 (v34_0 a0)) (v52_4 (v34_0 a0))) 1) = (v53_0 (v52_1 (v34_0 a0)) 1 (v52_0 (v34_0 a0)) (v52_2 (v34_0 a0)) (v52_3 (v34_0 a0)) (v52_4 (v34_0 a0)))) then false else true))))) (fun _ => rfl) (brL1 (brT (fun b => some (AV.bool (bif b then false else (bif !decide ((v54_0 (v53_1 (v52_1 (v34_0 a0)) 1 (v52_0 (v34_0 a0)) (v52_2 (v34_0 a0)) (v52_3 (v34_0 a0)) (v52_4 (v34_0 a0))) (v52_1 (v34_0 a0)) (v53_2 (v52_1 (v34_0 a0)) 1 (v52_0 (v34_0 a0)) (v52_2 (v34_0 a0)) (v52_3 (v34_0 a0)) (v52_4 (v34_0 a0))) (v53_3 (v52_1 (v34_0 a0)) 1 (v52_0 (v34_0 a0)) (v52_2 (v34_0 a0)) (v52_3 (v34_0 a0)) (v52_4 (v34_0 a0))) (v53_4 (v52_1 (v34_0 a0)) 1 (v52_0 (v34_0 a0)) (v52_2 (v34_0 a0)) (v52_3 (v34_0 a0)) (v52_4 (v34_0 a0))) 1) = (v53_0 (v52_1 (v34_0 a0)) 1 (v52_0 (v34_0 a0)) (v52_2 (v34_0 a0)) (v52_3 (v34_0 a0)) (v52_4 (v34_0 a0)))) then false else true)))) (fun _ => rfl) (brT (fun b => some (AV.bool (bif b then false else true))) (fun _ => rfl) (fun _ => rfl)))))))))))))))))))))))))) h)
def m11 : TModel
  | [.sl g0 a0] => bif ctsEq g0 ([.int .i64]) then some (q11 a0, AV.bool (v11_0 a0)) else none
  | _ => none
theorem k11 : Known Try.prog 11 := ⟨Try.f11, Try.func11, by kernel_rfl, by kernel_rfl⟩
theorem meets11 : Meets Try.prog 11 m11 := by
  refine meet (f := Try.f11) (l := []) (hs := [(11, 999, [2])]) (ts := [(22, m22), (34, m34), (42, m42), (51, m51), (52, m52), (54, m54)]) (ws := [(25, m25), (53, m53)]) (is := []) (ls := []) (lvl := 0) mixed k11 Try.func11 (by kernel_rfl) noLoop (allT_cons meets22 (allT_cons meets34 (allT_cons meets42 (allT_cons meets51 (allT_cons meets52 (allT_cons meets54 allT_nil)))))) (allM_cons meets25 (allM_cons meets53 allM_nil)) noI fun w xs us r hl hv h => ?_
  unfold m11 at h
  split at h
  · rename_i g0 a0
    obtain ⟨hg, h⟩ := bif_pair h
    have q0 := hg
    obtain rfl := ctsEq_eq _ _ q0
    obtain ⟨h1, rfl⟩ := pair_inj h
    exact r11 a0 h1
  · cases h
end Go.Proofs.Ytbomegcdjhljeaa
