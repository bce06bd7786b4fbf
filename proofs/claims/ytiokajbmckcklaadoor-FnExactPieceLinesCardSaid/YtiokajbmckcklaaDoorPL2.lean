/- The walk of what this claim reaches: printed by a program, each equation checked by the kernel. -/
import Derived.Test.YtiokajbmckcklaaDoorPL1
import Derived.Test.YtiokajbmckcklaaDoorProg
import Derived.KernelRfl
namespace Go.Proofs.YtiokajbmckcklaaDoor
open Go Go.Proofs.VE
set_option linter.unusedVariables false
set_option linter.unusedSimpArgs false
set_option maxRecDepth 100000
set_option maxHeartbeats 4000000
/-! ### 107 cmp.Or[int] -/
def F107_0 (t3 : Int) (t6 : List AV) (t7 : Int) (t8 : Int) : Out (Int) (Unit ⊕ Int) := (bif decide (t8 < t7) then (bif (decide (0 ≤ t8) && decide (t8 < (t6.length : Int))) then (bif !decide (fI (t6.getD t8.toNat AV.undef) 0 = t3) then .stop (.inr (fI (t6.getD t8.toNat AV.undef) 0))
  else .next (IntKind.i64.wrap (t8 + 1)))
  else .fail)
  else .stop (.inl ()))
def R107_0 (t3 : Int) (t6 : List AV) (t7 : Int) : (Int) → Out (Int) (Unit ⊕ Int) := fun s : Int => F107_0 t3 t6 t7 s
def l107_0 : LModel := fun _ _ st k => match st with
  | ⟨[(3, .int .i64 t3), (6, .sl g0 t6), (7, .int .i64 t7), (8, .int .i64 t8)], []⟩ => bif ctsEq g0 ([.int .i64]) then ro (runW (R107_0 t3 t6 t7) ((t7 - t8).toNat + 1) t8) none (sumE (fun _ : Unit => k (.exit 0) ⟨[(3, AV.int .i64 t3)], []⟩) (fun p : Int => k .ret ⟨[(2, AV.int .i64 p)], []⟩)) else none
  | _ => none
noncomputable def c107 : Cfg := cfg Tryd.prog [(107, 0, [3, 6, 7, 8]), (107, 999, [2]), (107, 1000, [3]), (107, 1001, [3, 6, 7, 8])] [] [] [] [(107, 0, l107_0)]
theorem s107_0 (ce : CallE) (t3 : Int) (t6 : List AV) (t7 : Int) (t8 : Int) (next : St → Option AV) (k : Kont) : stepA (codeA c107 ce [] 107 0 (sub [1, 1, 0, 1, 0, 0] (body Tryd.f107))) (normA [] [3, 6, 7, 8]) next ⟨[(3, AV.int .i64 t3), (6, AV.sl [.int .i64] t6), (7, AV.int .i64 t7), (8, AV.int .i64 t8)], []⟩ k = (bif decide (t8 < t7) then (bif (decide (0 ≤ t8) && decide (t8 < (t6.length : Int))) then (bif !decide (fI (t6.getD t8.toNat AV.undef) 0 = t3) then k .ret ⟨[(2, AV.int .i64 (fI (t6.getD t8.toNat AV.undef) 0))], []⟩
  else next ⟨[(3, AV.int .i64 t3), (6, AV.sl [.int .i64] t6), (7, AV.int .i64 t7), (8, AV.int .i64 (IntKind.i64.wrap (t8 + 1)))], []⟩)
  else none)
  else k (.exit 0) ⟨[(3, AV.int .i64 t3)], []⟩) := by kernel_rfl
theorem st107_0 (t3 : Int) (t6 : List AV) (t7 : Int) (ce : CallE) (k : Kont) (s : Int) (next : St → Option AV) : stepA (codeA c107 ce [] 107 0 (sub [1, 1, 0, 1, 0, 0] (body Tryd.f107))) (normA [] [3, 6, 7, 8]) next ((fun s : Int => ⟨[(3, AV.int .i64 t3), (6, AV.sl [.int .i64] t6), (7, AV.int .i64 t7), (8, AV.int .i64 s)], []⟩) s) k = (R107_0 t3 t6 t7 s).el none (fun s => next ((fun s : Int => ⟨[(3, AV.int .i64 t3), (6, AV.sl [.int .i64] t6), (7, AV.int .i64 t7), (8, AV.int .i64 s)], []⟩) s)) (sumE (fun _ : Unit => k (.exit 0) ⟨[(3, AV.int .i64 t3)], []⟩) (fun p : Int => k .ret ⟨[(2, AV.int .i64 p)], []⟩)) := (s107_0 ce t3 t6 t7 s next k).trans (by unfold R107_0; unfold F107_0; simp only [el_cond, el_ro, el_sum, el_fail, el_next, el_stop] <;> rfl)
theorem ok107_0 {ce : CallE} : LoopOK c107 ce [] 107 0 (sub [1, 1, 0, 1, 0, 0] (body Tryd.f107)) := by
  intro m hm st k r h
  obtain rfl : l107_0 = m := Option.some.inj hm
  unfold l107_0 at h
  split at h
  · rename_i t3 g0 t6 t7 t8
    obtain ⟨hg, h⟩ := bif_some h
    have q0 := hg
    obtain rfl := ctsEq_eq _ _ q0
    refine ⟨((t7 - t8).toNat + 1), ?_⟩
    rw [← h]
    exact loop_run (fun s : Int => ⟨[(3, AV.int .i64 t3), (6, AV.sl [.int .i64] t6), (7, AV.int .i64 t7), (8, AV.int .i64 s)], []⟩) (sumE (fun _ : Unit => k (.exit 0) ⟨[(3, AV.int .i64 t3)], []⟩) (fun p : Int => k .ret ⟨[(2, AV.int .i64 p)], []⟩)) (st107_0 t3 t6 t7 ce k) _ t8
  · cases h
def q107 (a0 : List AV) : Bool := (ro (runW (R107_0 0 a0 (a0.length : Int)) (((a0.length : Int) - 0).toNat + 1) 0) false (sumE (fun _ => true) (fun p41 => true)))
def v107_0 (a0 : List AV) : Int := (ro (runW (R107_0 0 a0 (a0.length : Int)) (((a0.length : Int) - 0).toNat + 1) 0) 0 (sumE (fun _ => 0) (fun p41 => p41)))
theorem e107 (a0 : List AV) : funA c107 0 107 [AV.sl [.int .i64] a0] = (ro (runW (R107_0 0 a0 (a0.length : Int)) (((a0.length : Int) - 0).toNat + 1) 0) none (sumE (fun _ => some (AV.int .i64 0)) (fun p41 => some (AV.int .i64 p41)))) := by kernel_rfl
theorem r107 (a0 : List AV) (h : q107 a0 = true) : funA c107 0 107 [AV.sl [.int .i64] a0] = some (AV.int .i64 (v107_0 a0)) := (e107 a0).trans ((brO (fun o : Option (Unit ⊕ Int) => some (AV.int .i64 (ro o 0 (sumE (fun _ => 0) (fun p41 => p41))))) (brS (fun o : Unit ⊕ Int => some (AV.int .i64 ((sumE (fun _ => 0) (fun p41 => p41)) o))) (fun _ => (fun _ => rfl)) (fun p41 => (fun _ => rfl)))) h)
def m107 : TModel
  | [.sl g0 a0] => bif ctsEq g0 ([.int .i64]) then some (q107 a0, AV.int .i64 (v107_0 a0)) else none
  | _ => none
theorem k107 : Known Tryd.prog 107 := ⟨Tryd.f107, Tryd.func107, by kernel_rfl, by kernel_rfl⟩
theorem meets107 : Meets Tryd.prog 107 m107 := by
  refine meet (f := Tryd.f107) (l := [(0, sub [1, 1, 0, 1, 0, 0] (body Tryd.f107))]) (hs := [(107, 0, [3, 6, 7, 8]), (107, 999, [2]), (107, 1000, [3]), (107, 1001, [3, 6, 7, 8])]) (ts := []) (ws := []) (is := []) (ls := [(107, 0, l107_0)]) (lvl := 0) mixed k107 Tryd.func107 (by kernel_rfl) (loops_cons ok107_0 noLoop) allT_nil allM_nil noI fun w xs us r hl hv h => ?_
  unfold m107 at h
  split at h
  · rename_i g0 a0
    obtain ⟨hg, h⟩ := bif_pair h
    have q0 := hg
    obtain rfl := ctsEq_eq _ _ q0
    obtain ⟨h1, rfl⟩ := pair_inj h
    exact r107 a0 h1
  · cases h

/-! ### 99 loop.example/g01984/impl.compare -/
noncomputable def c99 : Cfg := cfg Tryd.prog [(99, 999, [4])] [(107, m107), (108, m108)] [] [] []
def q99 (a0_0 : Int) (a0_1 : Int) (a1_0 : Int) (a1_1 : Int) : Bool := q107 ([AV.int .i64 (v108_0 a0_0 a1_0), AV.int .i64 (v108_0 a0_1 a1_1)])
def v99_0 (a0_0 : Int) (a0_1 : Int) (a1_0 : Int) (a1_1 : Int) : Int := (v107_0 ([AV.int .i64 (v108_0 a0_0 a1_0), AV.int .i64 (v108_0 a0_1 a1_1)]))
theorem e99 (a0_0 : Int) (a0_1 : Int) (a1_0 : Int) (a1_1 : Int) : funA c99 0 99 [AV.agg [AV.int .i64 a0_0, AV.int .i64 a0_1], AV.agg [AV.int .i64 a1_0, AV.int .i64 a1_1]] = (bif q107 ([AV.int .i64 (v108_0 a0_0 a1_0), AV.int .i64 (v108_0 a0_1 a1_1)]) then some (AV.int .i64 (v107_0 ([AV.int .i64 (v108_0 a0_0 a1_0), AV.int .i64 (v108_0 a0_1 a1_1)])))
  else none) := by kernel_rfl
theorem r99 (a0_0 : Int) (a0_1 : Int) (a1_0 : Int) (a1_1 : Int) (h : q99 a0_0 a0_1 a1_0 a1_1 = true) : funA c99 0 99 [AV.agg [AV.int .i64 a0_0, AV.int .i64 a0_1], AV.agg [AV.int .i64 a1_0, AV.int .i64 a1_1]] = some (AV.int .i64 (v99_0 a0_0 a0_1 a1_0 a1_1)) := (e99 a0_0 a0_1 a1_0 a1_1).trans ((brL1 (fun _ => rfl)) h)
def m99 : TModel
  | [.agg [.int .i64 a0_0, .int .i64 a0_1], .agg [.int .i64 a1_0, .int .i64 a1_1]] => some (q99 a0_0 a0_1 a1_0 a1_1, AV.int .i64 (v99_0 a0_0 a0_1 a1_0 a1_1))
  | _ => none
theorem k99 : Known Tryd.prog 99 := ⟨Tryd.f99, Tryd.func99, by kernel_rfl, by kernel_rfl⟩
theorem meets99 : Meets Tryd.prog 99 m99 := by
  refine meet (f := Tryd.f99) (l := []) (hs := [(99, 999, [4])]) (ts := [(107, m107), (108, m108)]) (ws := []) (is := []) (ls := []) (lvl := 0) mixed k99 Tryd.func99 (by kernel_rfl) noLoop (allT_cons meets107 (allT_cons meets108 allT_nil)) allM_nil noI fun w xs us r hl hv h => ?_
  unfold m99 at h
  split at h
  · rename_i a0_0 a0_1 a1_0 a1_1
    obtain ⟨h1, rfl⟩ := pair_inj h
    exact r99 a0_0 a0_1 a1_0 a1_1 h1
  · cases h

/-! ### 97 slices.IsSortedFunc[[]loop.example/g01984/impl.element,loop.example/g01984/impl.element] -/
def F97_0 (t0 : List AV) (t5 : Int) : Out (Int) (Unit ⊕ Unit) := (bif decide (t5 > 0) then (bif (decide (0 ≤ t5) && decide (t5 < (t0.length : Int))) then (bif (decide (0 ≤ IntKind.i64.wrap (t5 - 1)) && decide (IntKind.i64.wrap (t5 - 1) < (t0.length : Int))) then (bif q99 (fI (t0.getD t5.toNat AV.undef) 0) (fI (t0.getD t5.toNat AV.undef) 1) (fI (t0.getD (IntKind.i64.wrap (t5 - 1)).toNat AV.undef) 0) (fI (t0.getD (IntKind.i64.wrap (t5 - 1)).toNat AV.undef) 1) then (bif decide ((v99_0 (fI (t0.getD t5.toNat AV.undef) 0) (fI (t0.getD t5.toNat AV.undef) 1) (fI (t0.getD (IntKind.i64.wrap (t5 - 1)).toNat AV.undef) 0) (fI (t0.getD (IntKind.i64.wrap (t5 - 1)).toNat AV.undef) 1)) < 0) then .stop (.inr ())
  else .next (IntKind.i64.wrap (t5 - 1)))
  else .fail)
  else .fail)
  else .fail)
  else .stop (.inl ()))
def R97_0 (t0 : List AV) : (Int) → Out (Int) (Unit ⊕ Unit) := fun s : Int => F97_0 t0 s
def l97_0 : LModel := fun _ _ st k => match st with
  | ⟨[(0, .sl g0 t0), (1, .fn g1 []), (5, .int .i64 t5)], []⟩ => bif ctsEq g0 ([.int .i64, .int .i64]) && Nat.beq g1 99 then ro (runW (R97_0 t0) ((t5 - 0).toNat + 1) t5) none (sumE (fun _ : Unit => k (.exit 0) ⟨[], []⟩) (fun _ : Unit => k .ret ⟨[(4, AV.bool false)], []⟩)) else none
  | _ => none
noncomputable def c97 : Cfg := cfg Tryd.prog [(97, 0, [0, 1, 5]), (97, 999, [4]), (97, 1000, []), (97, 1001, [0, 1, 5])] [(99, m99)] [] [] [(97, 0, l97_0)]
theorem s97_0 (ce : CallE) (t0 : List AV) (t5 : Int) (next : St → Option AV) (k : Kont) : stepA (codeA c97 ce [] 97 0 (sub [1, 0, 1, 0, 0] (body Tryd.f97))) (normA [] [0, 1, 5]) next ⟨[(0, AV.sl [.int .i64, .int .i64] t0), (1, AV.fn 99 []), (5, AV.int .i64 t5)], []⟩ k = (bif decide (t5 > 0) then (bif (decide (0 ≤ t5) && decide (t5 < (t0.length : Int))) then (bif (decide (0 ≤ IntKind.i64.wrap (t5 - 1)) && decide (IntKind.i64.wrap (t5 - 1) < (t0.length : Int))) then (bif q99 (fI (t0.getD t5.toNat AV.undef) 0) (fI (t0.getD t5.toNat AV.undef) 1) (fI (t0.getD (IntKind.i64.wrap (t5 - 1)).toNat AV.undef) 0) (fI (t0.getD (IntKind.i64.wrap (t5 - 1)).toNat AV.undef) 1) then (bif decide ((v99_0 (fI (t0.getD t5.toNat AV.undef) 0) (fI (t0.getD t5.toNat AV.undef) 1) (fI (t0.getD (IntKind.i64.wrap (t5 - 1)).toNat AV.undef) 0) (fI (t0.getD (IntKind.i64.wrap (t5 - 1)).toNat AV.undef) 1)) < 0) then k .ret ⟨[(4, AV.bool false)], []⟩
  else next ⟨[(0, AV.sl [.int .i64, .int .i64] t0), (1, AV.fn 99 []), (5, AV.int .i64 (IntKind.i64.wrap (t5 - 1)))], []⟩)
  else none)
  else none)
  else none)
  else k (.exit 0) ⟨[], []⟩) := by kernel_rfl
theorem st97_0 (t0 : List AV) (ce : CallE) (k : Kont) (s : Int) (next : St → Option AV) : stepA (codeA c97 ce [] 97 0 (sub [1, 0, 1, 0, 0] (body Tryd.f97))) (normA [] [0, 1, 5]) next ((fun s : Int => ⟨[(0, AV.sl [.int .i64, .int .i64] t0), (1, AV.fn 99 []), (5, AV.int .i64 s)], []⟩) s) k = (R97_0 t0 s).el none (fun s => next ((fun s : Int => ⟨[(0, AV.sl [.int .i64, .int .i64] t0), (1, AV.fn 99 []), (5, AV.int .i64 s)], []⟩) s)) (sumE (fun _ : Unit => k (.exit 0) ⟨[], []⟩) (fun _ : Unit => k .ret ⟨[(4, AV.bool false)], []⟩)) := (s97_0 ce t0 s next k).trans (by unfold R97_0; unfold F97_0; simp only [el_cond, el_ro, el_sum, el_fail, el_next, el_stop] <;> rfl)
theorem ok97_0 {ce : CallE} : LoopOK c97 ce [] 97 0 (sub [1, 0, 1, 0, 0] (body Tryd.f97)) := by
  intro m hm st k r h
  obtain rfl : l97_0 = m := Option.some.inj hm
  unfold l97_0 at h
  split at h
  · rename_i g0 t0 g1 t5
    obtain ⟨hg, h⟩ := bif_some h
    simp only [Bool.and_eq_true] at hg
    obtain ⟨q0, q1⟩ := hg
    obtain rfl := ctsEq_eq _ _ q0
    obtain rfl := Nat.eq_of_beq_eq_true q1
    refine ⟨((t5 - 0).toNat + 1), ?_⟩
    rw [← h]
    exact loop_run (fun s : Int => ⟨[(0, AV.sl [.int .i64, .int .i64] t0), (1, AV.fn 99 []), (5, AV.int .i64 s)], []⟩) (sumE (fun _ : Unit => k (.exit 0) ⟨[], []⟩) (fun _ : Unit => k .ret ⟨[(4, AV.bool false)], []⟩)) (st97_0 t0 ce k) _ t5
  · cases h
def q97 (a0 : List AV) : Bool := (ro (runW (R97_0 a0) (((IntKind.i64.wrap ((a0.length : Int) - 1)) - 0).toNat + 1) (IntKind.i64.wrap ((a0.length : Int) - 1))) false (sumE (fun _ => true) (fun _ => true)))
def v97_0 (a0 : List AV) : Bool := (ro (runW (R97_0 a0) (((IntKind.i64.wrap ((a0.length : Int) - 1)) - 0).toNat + 1) (IntKind.i64.wrap ((a0.length : Int) - 1))) false (sumE (fun _ => true) (fun _ => false)))
theorem e97 (a0 : List AV) : funA c97 0 97 [AV.sl [.int .i64, .int .i64] a0, AV.fn 99 []] = (ro (runW (R97_0 a0) (((IntKind.i64.wrap ((a0.length : Int) - 1)) - 0).toNat + 1) (IntKind.i64.wrap ((a0.length : Int) - 1))) none (sumE (fun _ => some (AV.bool true)) (fun _ => some (AV.bool false)))) := by kernel_rfl
theorem r97 (a0 : List AV) (h : q97 a0 = true) : funA c97 0 97 [AV.sl [.int .i64, .int .i64] a0, AV.fn 99 []] = some (AV.bool (v97_0 a0)) := (e97 a0).trans ((brO (fun o : Option (Unit ⊕ Unit) => some (AV.bool (ro o false (sumE (fun _ => true) (fun _ => false))))) (brS (fun o : Unit ⊕ Unit => some (AV.bool ((sumE (fun _ => true) (fun _ => false)) o))) (fun _ => (fun _ => rfl)) (fun _ => (fun _ => rfl)))) h)
def m97 : TModel
  | [.sl g0 a0, .fn g1 []] => bif ctsEq g0 ([.int .i64, .int .i64]) && Nat.beq g1 99 then some (q97 a0, AV.bool (v97_0 a0)) else none
  | _ => none
theorem k97 : Known Tryd.prog 97 := ⟨Tryd.f97, Tryd.func97, by kernel_rfl, by kernel_rfl⟩
theorem meets97 : Meets Tryd.prog 97 m97 := by
  refine meet (f := Tryd.f97) (l := [(0, sub [1, 0, 1, 0, 0] (body Tryd.f97))]) (hs := [(97, 0, [0, 1, 5]), (97, 999, [4]), (97, 1000, []), (97, 1001, [0, 1, 5])]) (ts := [(99, m99)]) (ws := []) (is := []) (ls := [(97, 0, l97_0)]) (lvl := 0) mixed k97 Tryd.func97 (by kernel_rfl) (loops_cons ok97_0 noLoop) (allT_cons meets99 allT_nil) allM_nil noI fun w xs us r hl hv h => ?_
  unfold m97 at h
  split at h
  · rename_i g0 a0 g1
    obtain ⟨hg, h⟩ := bif_pair h
    simp only [Bool.and_eq_true] at hg
    obtain ⟨q0, q1⟩ := hg
    obtain rfl := ctsEq_eq _ _ q0
    obtain rfl := Nat.eq_of_beq_eq_true q1
    obtain ⟨h1, rfl⟩ := pair_inj h
    exact r97 a0 h1
  · cases h

/-! ### 75 loop.example/g01984/impl.sorted -/
noncomputable def c75 : Cfg := cfg Tryd.prog [(75, 999, [6])] [(97, m97), (98, m98)] [] [] []
def q75 (a0_0 : List AV) (a0_1 : List AV) (a0_2 : List AV) (a1 : Int) (a2 : Int) : Bool := (q98 a0_0 a0_1 a0_2 a1 a2 && q97 (v98_0 a0_0 a0_1 a0_2 a1 a2))
def v75_0 (a0_0 : List AV) (a0_1 : List AV) (a0_2 : List AV) (a1 : Int) (a2 : Int) : Bool := (v97_0 (v98_0 a0_0 a0_1 a0_2 a1 a2))
theorem e75 (a0_0 : List AV) (a0_1 : List AV) (a0_2 : List AV) (a1 : Int) (a2 : Int) : funA c75 0 75 [AV.agg [AV.sl [.int .i64] a0_0, AV.sl [.int .i64] a0_1, AV.sl [.int .i64, .int .i64] a0_2], AV.int .i64 a1, AV.int .i64 a2] = (bif q98 a0_0 a0_1 a0_2 a1 a2 then (bif q97 (v98_0 a0_0 a0_1 a0_2 a1 a2) then some (AV.bool (v97_0 (v98_0 a0_0 a0_1 a0_2 a1 a2)))
  else none)
  else none) := by kernel_rfl
theorem r75 (a0_0 : List AV) (a0_1 : List AV) (a0_2 : List AV) (a1 : Int) (a2 : Int) (h : q75 a0_0 a0_1 a0_2 a1 a2 = true) : funA c75 0 75 [AV.agg [AV.sl [.int .i64] a0_0, AV.sl [.int .i64] a0_1, AV.sl [.int .i64, .int .i64] a0_2], AV.int .i64 a1, AV.int .i64 a2] = some (AV.bool (v75_0 a0_0 a0_1 a0_2 a1 a2)) := (e75 a0_0 a0_1 a0_2 a1 a2).trans ((brL (brL1 (fun _ => rfl))) h)
def m75 : TModel
  | [.agg [.sl g0 a0_0, .sl g1 a0_1, .sl g2 a0_2], .int .i64 a1, .int .i64 a2] => bif ctsEq g0 ([.int .i64]) && ctsEq g1 ([.int .i64]) && ctsEq g2 ([.int .i64, .int .i64]) then some (q75 a0_0 a0_1 a0_2 a1 a2, AV.bool (v75_0 a0_0 a0_1 a0_2 a1 a2)) else none
  | _ => none
theorem k75 : Known Tryd.prog 75 := ⟨Tryd.f75, Tryd.func75, by kernel_rfl, by kernel_rfl⟩
theorem meets75 : Meets Tryd.prog 75 m75 := by
  refine meet (f := Tryd.f75) (l := []) (hs := [(75, 999, [6])]) (ts := [(97, m97), (98, m98)]) (ws := []) (is := []) (ls := []) (lvl := 0) mixed k75 Tryd.func75 (by kernel_rfl) noLoop (allT_cons meets97 (allT_cons meets98 allT_nil)) allM_nil noI fun w xs us r hl hv h => ?_
  unfold m75 at h
  split at h
  · rename_i g0 a0_0 g1 a0_1 g2 a0_2 a1 a2
    obtain ⟨hg, h⟩ := bif_pair h
    simp only [Bool.and_eq_true] at hg
    obtain ⟨⟨q0, q1⟩, q2⟩ := hg
    obtain rfl := ctsEq_eq _ _ q0
    obtain rfl := ctsEq_eq _ _ q1
    obtain rfl := ctsEq_eq _ _ q2
    obtain ⟨h1, rfl⟩ := pair_inj h
    exact r75 a0_0 a0_1 a0_2 a1 a2 h1
  · cases h

/-! ### 40 loop.example/g01984/impl.PieceLines -/
def F40_0 (t13 : Int) (h0_0 : List AV) (h0_1 : List AV) (h0_2 : List AV) (h2 : List AV) (t14 : Int) (h1 : List AV) : Out ((Int × (List AV))) (((List AV))) := (bif decide (t14 < t13) then (bif (decide (0 ≤ t14) && decide (t14 < (h2.length : Int))) then (bif q44 (fI (h2.getD t14.toNat AV.undef) 0) then (bif decide ((v44_0 (fI (h2.getD t14.toNat AV.undef) 0)).size + (ByteArray.mk #[46, 46]).size ≤ 4611686018427387904) then (bif q44 (fI (h2.getD t14.toNat AV.undef) 1) then (bif decide (((v44_0 (fI (h2.getD t14.toNat AV.undef) 0)) ++ (ByteArray.mk #[46, 46])).size + (v44_0 (fI (h2.getD t14.toNat AV.undef) 1)).size ≤ 4611686018427387904) then (bif decide ((((v44_0 (fI (h2.getD t14.toNat AV.undef) 0)) ++ (ByteArray.mk #[46, 46])) ++ (v44_0 (fI (h2.getD t14.toNat AV.undef) 1))).size + (ByteArray.mk #[32]).size ≤ 4611686018427387904) then (bif (decide (0 ≤ fI (h2.getD t14.toNat AV.undef) 0) && decide (fI (h2.getD t14.toNat AV.undef) 0 ≤ fI (h2.getD t14.toNat AV.undef) 1) && decide (fI (h2.getD t14.toNat AV.undef) 1 ≤ (h0_0.length : Int))) then (bif q74 ((h0_0.take (Int.toNat (fI (h2.getD t14.toNat AV.undef) 1))).drop (Int.toNat (fI (h2.getD t14.toNat AV.undef) 0))) then (bif q73 (v74_0 ((h0_0.take (Int.toNat (fI (h2.getD t14.toNat AV.undef) 1))).drop (Int.toNat (fI (h2.getD t14.toNat AV.undef) 0)))) (v74_1 ((h0_0.take (Int.toNat (fI (h2.getD t14.toNat AV.undef) 1))).drop (Int.toNat (fI (h2.getD t14.toNat AV.undef) 0)))) (v74_2 ((h0_0.take (Int.toNat (fI (h2.getD t14.toNat AV.undef) 1))).drop (Int.toNat (fI (h2.getD t14.toNat AV.undef) 0)))) (v74_3 ((h0_0.take (Int.toNat (fI (h2.getD t14.toNat AV.undef) 1))).drop (Int.toNat (fI (h2.getD t14.toNat AV.undef) 0)))) then (bif decide (((((v44_0 (fI (h2.getD t14.toNat AV.undef) 0)) ++ (ByteArray.mk #[46, 46])) ++ (v44_0 (fI (h2.getD t14.toNat AV.undef) 1))) ++ (ByteArray.mk #[32])).size + (v73_0 (v74_0 ((h0_0.take (Int.toNat (fI (h2.getD t14.toNat AV.undef) 1))).drop (Int.toNat (fI (h2.getD t14.toNat AV.undef) 0)))) (v74_1 ((h0_0.take (Int.toNat (fI (h2.getD t14.toNat AV.undef) 1))).drop (Int.toNat (fI (h2.getD t14.toNat AV.undef) 0)))) (v74_2 ((h0_0.take (Int.toNat (fI (h2.getD t14.toNat AV.undef) 1))).drop (Int.toNat (fI (h2.getD t14.toNat AV.undef) 0)))) (v74_3 ((h0_0.take (Int.toNat (fI (h2.getD t14.toNat AV.undef) 1))).drop (Int.toNat (fI (h2.getD t14.toNat AV.undef) 0))))).size ≤ 4611686018427387904) then (bif q75 h0_0 h0_1 h0_2 (fI (h2.getD t14.toNat AV.undef) 0) (fI (h2.getD t14.toNat AV.undef) 1) then (bif (v75_0 h0_0 h0_1 h0_2 (fI (h2.getD t14.toNat AV.undef) 0) (fI (h2.getD t14.toNat AV.undef) 1)) then (bif decide ((((((v44_0 (fI (h2.getD t14.toNat AV.undef) 0)) ++ (ByteArray.mk #[46, 46])) ++ (v44_0 (fI (h2.getD t14.toNat AV.undef) 1))) ++ (ByteArray.mk #[32])) ++ (v73_0 (v74_0 ((h0_0.take (Int.toNat (fI (h2.getD t14.toNat AV.undef) 1))).drop (Int.toNat (fI (h2.getD t14.toNat AV.undef) 0)))) (v74_1 ((h0_0.take (Int.toNat (fI (h2.getD t14.toNat AV.undef) 1))).drop (Int.toNat (fI (h2.getD t14.toNat AV.undef) 0)))) (v74_2 ((h0_0.take (Int.toNat (fI (h2.getD t14.toNat AV.undef) 1))).drop (Int.toNat (fI (h2.getD t14.toNat AV.undef) 0)))) (v74_3 ((h0_0.take (Int.toNat (fI (h2.getD t14.toNat AV.undef) 1))).drop (Int.toNat (fI (h2.getD t14.toNat AV.undef) 0)))))).size + (ByteArray.mk #[32, 115, 111, 114, 116, 101, 100]).size ≤ 4611686018427387904) then (bif (decide ((h1.length + ([AV.str ((((((v44_0 (fI (h2.getD t14.toNat AV.undef) 0)) ++ (ByteArray.mk #[46, 46])) ++ (v44_0 (fI (h2.getD t14.toNat AV.undef) 1))) ++ (ByteArray.mk #[32])) ++ (v73_0 (v74_0 ((h0_0.take (Int.toNat (fI (h2.getD t14.toNat AV.undef) 1))).drop (Int.toNat (fI (h2.getD t14.toNat AV.undef) 0)))) (v74_1 ((h0_0.take (Int.toNat (fI (h2.getD t14.toNat AV.undef) 1))).drop (Int.toNat (fI (h2.getD t14.toNat AV.undef) 0)))) (v74_2 ((h0_0.take (Int.toNat (fI (h2.getD t14.toNat AV.undef) 1))).drop (Int.toNat (fI (h2.getD t14.toNat AV.undef) 0)))) (v74_3 ((h0_0.take (Int.toNat (fI (h2.getD t14.toNat AV.undef) 1))).drop (Int.toNat (fI (h2.getD t14.toNat AV.undef) 0)))))) ++ (ByteArray.mk #[32, 115, 111, 114, 116, 101, 100]))]).length) * 16 ≤ 140737488355328) && decide ((h1.length + ([AV.str ((((((v44_0 (fI (h2.getD t14.toNat AV.undef) 0)) ++ (ByteArray.mk #[46, 46])) ++ (v44_0 (fI (h2.getD t14.toNat AV.undef) 1))) ++ (ByteArray.mk #[32])) ++ (v73_0 (v74_0 ((h0_0.take (Int.toNat (fI (h2.getD t14.toNat AV.undef) 1))).drop (Int.toNat (fI (h2.getD t14.toNat AV.undef) 0)))) (v74_1 ((h0_0.take (Int.toNat (fI (h2.getD t14.toNat AV.undef) 1))).drop (Int.toNat (fI (h2.getD t14.toNat AV.undef) 0)))) (v74_2 ((h0_0.take (Int.toNat (fI (h2.getD t14.toNat AV.undef) 1))).drop (Int.toNat (fI (h2.getD t14.toNat AV.undef) 0)))) (v74_3 ((h0_0.take (Int.toNat (fI (h2.getD t14.toNat AV.undef) 1))).drop (Int.toNat (fI (h2.getD t14.toNat AV.undef) 0)))))) ++ (ByteArray.mk #[32, 115, 111, 114, 116, 101, 100]))]).length) ≤ 140737488355328)) then .next (IntKind.i64.wrap (t14 + 1), h1 ++ ([AV.str ((((((v44_0 (fI (h2.getD t14.toNat AV.undef) 0)) ++ (ByteArray.mk #[46, 46])) ++ (v44_0 (fI (h2.getD t14.toNat AV.undef) 1))) ++ (ByteArray.mk #[32])) ++ (v73_0 (v74_0 ((h0_0.take (Int.toNat (fI (h2.getD t14.toNat AV.undef) 1))).drop (Int.toNat (fI (h2.getD t14.toNat AV.undef) 0)))) (v74_1 ((h0_0.take (Int.toNat (fI (h2.getD t14.toNat AV.undef) 1))).drop (Int.toNat (fI (h2.getD t14.toNat AV.undef) 0)))) (v74_2 ((h0_0.take (Int.toNat (fI (h2.getD t14.toNat AV.undef) 1))).drop (Int.toNat (fI (h2.getD t14.toNat AV.undef) 0)))) (v74_3 ((h0_0.take (Int.toNat (fI (h2.getD t14.toNat AV.undef) 1))).drop (Int.toNat (fI (h2.getD t14.toNat AV.undef) 0)))))) ++ (ByteArray.mk #[32, 115, 111, 114, 116, 101, 100]))]))
  else .fail)
  else .fail)
  else (bif (decide ((h1.length + ([AV.str (((((v44_0 (fI (h2.getD t14.toNat AV.undef) 0)) ++ (ByteArray.mk #[46, 46])) ++ (v44_0 (fI (h2.getD t14.toNat AV.undef) 1))) ++ (ByteArray.mk #[32])) ++ (v73_0 (v74_0 ((h0_0.take (Int.toNat (fI (h2.getD t14.toNat AV.undef) 1))).drop (Int.toNat (fI (h2.getD t14.toNat AV.undef) 0)))) (v74_1 ((h0_0.take (Int.toNat (fI (h2.getD t14.toNat AV.undef) 1))).drop (Int.toNat (fI (h2.getD t14.toNat AV.undef) 0)))) (v74_2 ((h0_0.take (Int.toNat (fI (h2.getD t14.toNat AV.undef) 1))).drop (Int.toNat (fI (h2.getD t14.toNat AV.undef) 0)))) (v74_3 ((h0_0.take (Int.toNat (fI (h2.getD t14.toNat AV.undef) 1))).drop (Int.toNat (fI (h2.getD t14.toNat AV.undef) 0))))))]).length) * 16 ≤ 140737488355328) && decide ((h1.length + ([AV.str (((((v44_0 (fI (h2.getD t14.toNat AV.undef) 0)) ++ (ByteArray.mk #[46, 46])) ++ (v44_0 (fI (h2.getD t14.toNat AV.undef) 1))) ++ (ByteArray.mk #[32])) ++ (v73_0 (v74_0 ((h0_0.take (Int.toNat (fI (h2.getD t14.toNat AV.undef) 1))).drop (Int.toNat (fI (h2.getD t14.toNat AV.undef) 0)))) (v74_1 ((h0_0.take (Int.toNat (fI (h2.getD t14.toNat AV.undef) 1))).drop (Int.toNat (fI (h2.getD t14.toNat AV.undef) 0)))) (v74_2 ((h0_0.take (Int.toNat (fI (h2.getD t14.toNat AV.undef) 1))).drop (Int.toNat (fI (h2.getD t14.toNat AV.undef) 0)))) (v74_3 ((h0_0.take (Int.toNat (fI (h2.getD t14.toNat AV.undef) 1))).drop (Int.toNat (fI (h2.getD t14.toNat AV.undef) 0))))))]).length) ≤ 140737488355328)) then .next (IntKind.i64.wrap (t14 + 1), h1 ++ ([AV.str (((((v44_0 (fI (h2.getD t14.toNat AV.undef) 0)) ++ (ByteArray.mk #[46, 46])) ++ (v44_0 (fI (h2.getD t14.toNat AV.undef) 1))) ++ (ByteArray.mk #[32])) ++ (v73_0 (v74_0 ((h0_0.take (Int.toNat (fI (h2.getD t14.toNat AV.undef) 1))).drop (Int.toNat (fI (h2.getD t14.toNat AV.undef) 0)))) (v74_1 ((h0_0.take (Int.toNat (fI (h2.getD t14.toNat AV.undef) 1))).drop (Int.toNat (fI (h2.getD t14.toNat AV.undef) 0)))) (v74_2 ((h0_0.take (Int.toNat (fI (h2.getD t14.toNat AV.undef) 1))).drop (Int.toNat (fI (h2.getD t14.toNat AV.undef) 0)))) (v74_3 ((h0_0.take (Int.toNat (fI (h2.getD t14.toNat AV.undef) 1))).drop (Int.toNat (fI (h2.getD t14.toNat AV.undef) 0))))))]))
  else .fail))
  else .fail)
  else .fail)
  else .fail)
  else .fail)
  else .fail)
  else .fail)
  else .fail)
  else .fail)
  else .fail)
  else .fail)
  else .fail)
  else .stop h1)
def R40_0 (t13 : Int) (h0_0 : List AV) (h0_1 : List AV) (h0_2 : List AV) (h2 : List AV) : ((Int × (List AV))) → Out ((Int × (List AV))) (((List AV))) := fun s : Int × (List AV) => F40_0 t13 h0_0 h0_1 h0_2 h2 s.1 s.2
def l40_0 : LModel := fun _ _ st k => match st with
  | ⟨[(1, .ptr g0 g1 g2), (3, .own g3), (12, .own g4), (13, .int .i64 t13), (14, .int .i64 t14)], [(g5, ⟨true, [], [.agg [.sl g6 h0_0, .sl g7 h0_1, .sl g8 h0_2]]⟩), (g9, ⟨false, g10, h1⟩), (g11, ⟨false, g12, h2⟩)]⟩ => bif nmEq g0 ([0, 1]) && Nat.beq g1 0 && Nat.beq g2 0 && nmEq g3 ([0, 3]) && nmEq g4 ([0, 12]) && nmEq g5 ([0, 1]) && ctsEq g6 ([.int .i64]) && ctsEq g7 ([.int .i64]) && ctsEq g8 ([.int .i64, .int .i64]) && nmEq g9 ([0, 3]) && ctsEq g10 ([.str]) && nmEq g11 ([0, 12]) && ctsEq g12 ([.int .i64, .int .i64]) then ro (runW (R40_0 t13 h0_0 h0_1 h0_2 h2) ((t13 - t14).toNat + 1) (t14, h1)) none (fun p : (List AV) => k (.exit 0) ⟨[(3, AV.own [0, 3])], [([0, 1], ⟨true, [], [AV.agg [AV.sl [.int .i64] h0_0, AV.sl [.int .i64] h0_1, AV.sl [.int .i64, .int .i64] h0_2]]⟩), ([0, 3], ⟨false, [.str], p⟩), ([0, 12], ⟨false, [.int .i64, .int .i64], h2⟩)]⟩) else none
  | _ => none
noncomputable def c40 : Cfg := cfg Tryd.prog [(40, 0, [1, 3, 12, 13, 14]), (40, 999, [2]), (40, 1000, [3]), (40, 1001, [1, 3, 12, 13, 14])] [(44, m44), (66, m66), (72, m72), (73, m73), (74, m74), (75, m75)] [] [] [(40, 0, l40_0)]
theorem s40_0 (ce : CallE) (t13 : Int) (t14 : Int) (h0_0 : List AV) (h0_1 : List AV) (h0_2 : List AV) (h1 : List AV) (h2 : List AV) (next : St → Option AV) (k : Kont) : stepA (codeA c40 ce [] 40 0 (sub [1, 1, 1, 0, 1, 0, 0] (body Tryd.f40))) (normA [] [1, 3, 12, 13, 14]) next ⟨[(1, AV.ptr [0, 1] 0 0), (3, AV.own [0, 3]), (12, AV.own [0, 12]), (13, AV.int .i64 t13), (14, AV.int .i64 t14)], [([0, 1], ⟨true, [], [AV.agg [AV.sl [.int .i64] h0_0, AV.sl [.int .i64] h0_1, AV.sl [.int .i64, .int .i64] h0_2]]⟩), ([0, 3], ⟨false, [.str], h1⟩), ([0, 12], ⟨false, [.int .i64, .int .i64], h2⟩)]⟩ k = (bif decide (t14 < t13) then (bif (decide (0 ≤ t14) && decide (t14 < (h2.length : Int))) then (bif q44 (fI (h2.getD t14.toNat AV.undef) 0) then (bif decide ((v44_0 (fI (h2.getD t14.toNat AV.undef) 0)).size + (ByteArray.mk #[46, 46]).size ≤ 4611686018427387904) then (bif q44 (fI (h2.getD t14.toNat AV.undef) 1) then (bif decide (((v44_0 (fI (h2.getD t14.toNat AV.undef) 0)) ++ (ByteArray.mk #[46, 46])).size + (v44_0 (fI (h2.getD t14.toNat AV.undef) 1)).size ≤ 4611686018427387904) then (bif decide ((((v44_0 (fI (h2.getD t14.toNat AV.undef) 0)) ++ (ByteArray.mk #[46, 46])) ++ (v44_0 (fI (h2.getD t14.toNat AV.undef) 1))).size + (ByteArray.mk #[32]).size ≤ 4611686018427387904) then (bif (decide (0 ≤ fI (h2.getD t14.toNat AV.undef) 0) && decide (fI (h2.getD t14.toNat AV.undef) 0 ≤ fI (h2.getD t14.toNat AV.undef) 1) && decide (fI (h2.getD t14.toNat AV.undef) 1 ≤ (h0_0.length : Int))) then (bif q74 ((h0_0.take (Int.toNat (fI (h2.getD t14.toNat AV.undef) 1))).drop (Int.toNat (fI (h2.getD t14.toNat AV.undef) 0))) then (bif q73 (v74_0 ((h0_0.take (Int.toNat (fI (h2.getD t14.toNat AV.undef) 1))).drop (Int.toNat (fI (h2.getD t14.toNat AV.undef) 0)))) (v74_1 ((h0_0.take (Int.toNat (fI (h2.getD t14.toNat AV.undef) 1))).drop (Int.toNat (fI (h2.getD t14.toNat AV.undef) 0)))) (v74_2 ((h0_0.take (Int.toNat (fI (h2.getD t14.toNat AV.undef) 1))).drop (Int.toNat (fI (h2.getD t14.toNat AV.undef) 0)))) (v74_3 ((h0_0.take (Int.toNat (fI (h2.getD t14.toNat AV.undef) 1))).drop (Int.toNat (fI (h2.getD t14.toNat AV.undef) 0)))) then (bif decide (((((v44_0 (fI (h2.getD t14.toNat AV.undef) 0)) ++ (ByteArray.mk #[46, 46])) ++ (v44_0 (fI (h2.getD t14.toNat AV.undef) 1))) ++ (ByteArray.mk #[32])).size + (v73_0 (v74_0 ((h0_0.take (Int.toNat (fI (h2.getD t14.toNat AV.undef) 1))).drop (Int.toNat (fI (h2.getD t14.toNat AV.undef) 0)))) (v74_1 ((h0_0.take (Int.toNat (fI (h2.getD t14.toNat AV.undef) 1))).drop (Int.toNat (fI (h2.getD t14.toNat AV.undef) 0)))) (v74_2 ((h0_0.take (Int.toNat (fI (h2.getD t14.toNat AV.undef) 1))).drop (Int.toNat (fI (h2.getD t14.toNat AV.undef) 0)))) (v74_3 ((h0_0.take (Int.toNat (fI (h2.getD t14.toNat AV.undef) 1))).drop (Int.toNat (fI (h2.getD t14.toNat AV.undef) 0))))).size ≤ 4611686018427387904) then (bif q75 h0_0 h0_1 h0_2 (fI (h2.getD t14.toNat AV.undef) 0) (fI (h2.getD t14.toNat AV.undef) 1) then (bif (v75_0 h0_0 h0_1 h0_2 (fI (h2.getD t14.toNat AV.undef) 0) (fI (h2.getD t14.toNat AV.undef) 1)) then (bif decide ((((((v44_0 (fI (h2.getD t14.toNat AV.undef) 0)) ++ (ByteArray.mk #[46, 46])) ++ (v44_0 (fI (h2.getD t14.toNat AV.undef) 1))) ++ (ByteArray.mk #[32])) ++ (v73_0 (v74_0 ((h0_0.take (Int.toNat (fI (h2.getD t14.toNat AV.undef) 1))).drop (Int.toNat (fI (h2.getD t14.toNat AV.undef) 0)))) (v74_1 ((h0_0.take (Int.toNat (fI (h2.getD t14.toNat AV.undef) 1))).drop (Int.toNat (fI (h2.getD t14.toNat AV.undef) 0)))) (v74_2 ((h0_0.take (Int.toNat (fI (h2.getD t14.toNat AV.undef) 1))).drop (Int.toNat (fI (h2.getD t14.toNat AV.undef) 0)))) (v74_3 ((h0_0.take (Int.toNat (fI (h2.getD t14.toNat AV.undef) 1))).drop (Int.toNat (fI (h2.getD t14.toNat AV.undef) 0)))))).size + (ByteArray.mk #[32, 115, 111, 114, 116, 101, 100]).size ≤ 4611686018427387904) then (bif (decide ((h1.length + ([AV.str ((((((v44_0 (fI (h2.getD t14.toNat AV.undef) 0)) ++ (ByteArray.mk #[46, 46])) ++ (v44_0 (fI (h2.getD t14.toNat AV.undef) 1))) ++ (ByteArray.mk #[32])) ++ (v73_0 (v74_0 ((h0_0.take (Int.toNat (fI (h2.getD t14.toNat AV.undef) 1))).drop (Int.toNat (fI (h2.getD t14.toNat AV.undef) 0)))) (v74_1 ((h0_0.take (Int.toNat (fI (h2.getD t14.toNat AV.undef) 1))).drop (Int.toNat (fI (h2.getD t14.toNat AV.undef) 0)))) (v74_2 ((h0_0.take (Int.toNat (fI (h2.getD t14.toNat AV.undef) 1))).drop (Int.toNat (fI (h2.getD t14.toNat AV.undef) 0)))) (v74_3 ((h0_0.take (Int.toNat (fI (h2.getD t14.toNat AV.undef) 1))).drop (Int.toNat (fI (h2.getD t14.toNat AV.undef) 0)))))) ++ (ByteArray.mk #[32, 115, 111, 114, 116, 101, 100]))]).length) * 16 ≤ 140737488355328) && decide ((h1.length + ([AV.str ((((((v44_0 (fI (h2.getD t14.toNat AV.undef) 0)) ++ (ByteArray.mk #[46, 46])) ++ (v44_0 (fI (h2.getD t14.toNat AV.undef) 1))) ++ (ByteArray.mk #[32])) ++ (v73_0 (v74_0 ((h0_0.take (Int.toNat (fI (h2.getD t14.toNat AV.undef) 1))).drop (Int.toNat (fI (h2.getD t14.toNat AV.undef) 0)))) (v74_1 ((h0_0.take (Int.toNat (fI (h2.getD t14.toNat AV.undef) 1))).drop (Int.toNat (fI (h2.getD t14.toNat AV.undef) 0)))) (v74_2 ((h0_0.take (Int.toNat (fI (h2.getD t14.toNat AV.undef) 1))).drop (Int.toNat (fI (h2.getD t14.toNat AV.undef) 0)))) (v74_3 ((h0_0.take (Int.toNat (fI (h2.getD t14.toNat AV.undef) 1))).drop (Int.toNat (fI (h2.getD t14.toNat AV.undef) 0)))))) ++ (ByteArray.mk #[32, 115, 111, 114, 116, 101, 100]))]).length) ≤ 140737488355328)) then next ⟨[(1, AV.ptr [0, 1] 0 0), (3, AV.own [0, 3]), (12, AV.own [0, 12]), (13, AV.int .i64 t13), (14, AV.int .i64 (IntKind.i64.wrap (t14 + 1)))], [([0, 1], ⟨true, [], [AV.agg [AV.sl [.int .i64] h0_0, AV.sl [.int .i64] h0_1, AV.sl [.int .i64, .int .i64] h0_2]]⟩), ([0, 3], ⟨false, [.str], h1 ++ ([AV.str ((((((v44_0 (fI (h2.getD t14.toNat AV.undef) 0)) ++ (ByteArray.mk #[46, 46])) ++ (v44_0 (fI (h2.getD t14.toNat AV.undef) 1))) ++ (ByteArray.mk #[32])) ++ (v73_0 (v74_0 ((h0_0.take (Int.toNat (fI (h2.getD t14.toNat AV.undef) 1))).drop (Int.toNat (fI (h2.getD t14.toNat AV.undef) 0)))) (v74_1 ((h0_0.take (Int.toNat (fI (h2.getD t14.toNat AV.undef) 1))).drop (Int.toNat (fI (h2.getD t14.toNat AV.undef) 0)))) (v74_2 ((h0_0.take (Int.toNat (fI (h2.getD t14.toNat AV.undef) 1))).drop (Int.toNat (fI (h2.getD t14.toNat AV.undef) 0)))) (v74_3 ((h0_0.take (Int.toNat (fI (h2.getD t14.toNat AV.undef) 1))).drop (Int.toNat (fI (h2.getD t14.toNat AV.undef) 0)))))) ++ (ByteArray.mk #[32, 115, 111, 114, 116, 101, 100]))])⟩), ([0, 12], ⟨false, [.int .i64, .int .i64], h2⟩)]⟩
  else none)
  else none)
  else (bif (decide ((h1.length + ([AV.str (((((v44_0 (fI (h2.getD t14.toNat AV.undef) 0)) ++ (ByteArray.mk #[46, 46])) ++ (v44_0 (fI (h2.getD t14.toNat AV.undef) 1))) ++ (ByteArray.mk #[32])) ++ (v73_0 (v74_0 ((h0_0.take (Int.toNat (fI (h2.getD t14.toNat AV.undef) 1))).drop (Int.toNat (fI (h2.getD t14.toNat AV.undef) 0)))) (v74_1 ((h0_0.take (Int.toNat (fI (h2.getD t14.toNat AV.undef) 1))).drop (Int.toNat (fI (h2.getD t14.toNat AV.undef) 0)))) (v74_2 ((h0_0.take (Int.toNat (fI (h2.getD t14.toNat AV.undef) 1))).drop (Int.toNat (fI (h2.getD t14.toNat AV.undef) 0)))) (v74_3 ((h0_0.take (Int.toNat (fI (h2.getD t14.toNat AV.undef) 1))).drop (Int.toNat (fI (h2.getD t14.toNat AV.undef) 0))))))]).length) * 16 ≤ 140737488355328) && decide ((h1.length + ([AV.str (((((v44_0 (fI (h2.getD t14.toNat AV.undef) 0)) ++ (ByteArray.mk #[46, 46])) ++ (v44_0 (fI (h2.getD t14.toNat AV.undef) 1))) ++ (ByteArray.mk #[32])) ++ (v73_0 (v74_0 ((h0_0.take (Int.toNat (fI (h2.getD t14.toNat AV.undef) 1))).drop (Int.toNat (fI (h2.getD t14.toNat AV.undef) 0)))) (v74_1 ((h0_0.take (Int.toNat (fI (h2.getD t14.toNat AV.undef) 1))).drop (Int.toNat (fI (h2.getD t14.toNat AV.undef) 0)))) (v74_2 ((h0_0.take (Int.toNat (fI (h2.getD t14.toNat AV.undef) 1))).drop (Int.toNat (fI (h2.getD t14.toNat AV.undef) 0)))) (v74_3 ((h0_0.take (Int.toNat (fI (h2.getD t14.toNat AV.undef) 1))).drop (Int.toNat (fI (h2.getD t14.toNat AV.undef) 0))))))]).length) ≤ 140737488355328)) then next ⟨[(1, AV.ptr [0, 1] 0 0), (3, AV.own [0, 3]), (12, AV.own [0, 12]), (13, AV.int .i64 t13), (14, AV.int .i64 (IntKind.i64.wrap (t14 + 1)))], [([0, 1], ⟨true, [], [AV.agg [AV.sl [.int .i64] h0_0, AV.sl [.int .i64] h0_1, AV.sl [.int .i64, .int .i64] h0_2]]⟩), ([0, 3], ⟨false, [.str], h1 ++ ([AV.str (((((v44_0 (fI (h2.getD t14.toNat AV.undef) 0)) ++ (ByteArray.mk #[46, 46])) ++ (v44_0 (fI (h2.getD t14.toNat AV.undef) 1))) ++ (ByteArray.mk #[32])) ++ (v73_0 (v74_0 ((h0_0.take (Int.toNat (fI (h2.getD t14.toNat AV.undef) 1))).drop (Int.toNat (fI (h2.getD t14.toNat AV.undef) 0)))) (v74_1 ((h0_0.take (Int.toNat (fI (h2.getD t14.toNat AV.undef) 1))).drop (Int.toNat (fI (h2.getD t14.toNat AV.undef) 0)))) (v74_2 ((h0_0.take (Int.toNat (fI (h2.getD t14.toNat AV.undef) 1))).drop (Int.toNat (fI (h2.getD t14.toNat AV.undef) 0)))) (v74_3 ((h0_0.take (Int.toNat (fI (h2.getD t14.toNat AV.undef) 1))).drop (Int.toNat (fI (h2.getD t14.toNat AV.undef) 0))))))])⟩), ([0, 12], ⟨false, [.int .i64, .int .i64], h2⟩)]⟩
  else none))
  else none)
  else none)
  else none)
  else none)
  else none)
  else none)
  else none)
  else none)
  else none)
  else none)
  else none)
  else k (.exit 0) ⟨[(3, AV.own [0, 3])], [([0, 1], ⟨true, [], [AV.agg [AV.sl [.int .i64] h0_0, AV.sl [.int .i64] h0_1, AV.sl [.int .i64, .int .i64] h0_2]]⟩), ([0, 3], ⟨false, [.str], h1⟩), ([0, 12], ⟨false, [.int .i64, .int .i64], h2⟩)]⟩) := by kernel_rfl
theorem st40_0 (t13 : Int) (h0_0 : List AV) (h0_1 : List AV) (h0_2 : List AV) (h2 : List AV) (ce : CallE) (k : Kont) (s : (Int × (List AV))) (next : St → Option AV) : stepA (codeA c40 ce [] 40 0 (sub [1, 1, 1, 0, 1, 0, 0] (body Tryd.f40))) (normA [] [1, 3, 12, 13, 14]) next ((fun s : Int × (List AV) => ⟨[(1, AV.ptr [0, 1] 0 0), (3, AV.own [0, 3]), (12, AV.own [0, 12]), (13, AV.int .i64 t13), (14, AV.int .i64 s.1)], [([0, 1], ⟨true, [], [AV.agg [AV.sl [.int .i64] h0_0, AV.sl [.int .i64] h0_1, AV.sl [.int .i64, .int .i64] h0_2]]⟩), ([0, 3], ⟨false, [.str], s.2⟩), ([0, 12], ⟨false, [.int .i64, .int .i64], h2⟩)]⟩) s) k = (R40_0 t13 h0_0 h0_1 h0_2 h2 s).el none (fun s => next ((fun s : Int × (List AV) => ⟨[(1, AV.ptr [0, 1] 0 0), (3, AV.own [0, 3]), (12, AV.own [0, 12]), (13, AV.int .i64 t13), (14, AV.int .i64 s.1)], [([0, 1], ⟨true, [], [AV.agg [AV.sl [.int .i64] h0_0, AV.sl [.int .i64] h0_1, AV.sl [.int .i64, .int .i64] h0_2]]⟩), ([0, 3], ⟨false, [.str], s.2⟩), ([0, 12], ⟨false, [.int .i64, .int .i64], h2⟩)]⟩) s)) (fun p : (List AV) => k (.exit 0) ⟨[(3, AV.own [0, 3])], [([0, 1], ⟨true, [], [AV.agg [AV.sl [.int .i64] h0_0, AV.sl [.int .i64] h0_1, AV.sl [.int .i64, .int .i64] h0_2]]⟩), ([0, 3], ⟨false, [.str], p⟩), ([0, 12], ⟨false, [.int .i64, .int .i64], h2⟩)]⟩) := (s40_0 ce t13 s.1 h0_0 h0_1 h0_2 s.2 h2 next k).trans (by unfold R40_0; unfold F40_0; simp only [el_cond, el_ro, el_sum, el_fail, el_next, el_stop] <;> rfl)
theorem ok40_0 {ce : CallE} : LoopOK c40 ce [] 40 0 (sub [1, 1, 1, 0, 1, 0, 0] (body Tryd.f40)) := by
  intro m hm st k r h
  obtain rfl : l40_0 = m := Option.some.inj hm
  unfold l40_0 at h
  split at h
  · rename_i g0 g1 g2 g3 g4 t13 t14 g5 g6 h0_0 g7 h0_1 g8 h0_2 g9 g10 h1 g11 g12 h2
    obtain ⟨hg, h⟩ := bif_some h
    simp only [Bool.and_eq_true] at hg
    obtain ⟨⟨⟨⟨⟨⟨⟨⟨⟨⟨⟨⟨q0, q1⟩, q2⟩, q3⟩, q4⟩, q5⟩, q6⟩, q7⟩, q8⟩, q9⟩, q10⟩, q11⟩, q12⟩ := hg
    obtain rfl := (nmEq_iff _ _).1 q0
    obtain rfl := Nat.eq_of_beq_eq_true q1
    obtain rfl := Nat.eq_of_beq_eq_true q2
    obtain rfl := (nmEq_iff _ _).1 q3
    obtain rfl := (nmEq_iff _ _).1 q4
    obtain rfl := (nmEq_iff _ _).1 q5
    obtain rfl := ctsEq_eq _ _ q6
    obtain rfl := ctsEq_eq _ _ q7
    obtain rfl := ctsEq_eq _ _ q8
    obtain rfl := (nmEq_iff _ _).1 q9
    obtain rfl := ctsEq_eq _ _ q10
    obtain rfl := (nmEq_iff _ _).1 q11
    obtain rfl := ctsEq_eq _ _ q12
    refine ⟨((t13 - t14).toNat + 1), ?_⟩
    rw [← h]
    exact loop_run (fun s : Int × (List AV) => ⟨[(1, AV.ptr [0, 1] 0 0), (3, AV.own [0, 3]), (12, AV.own [0, 12]), (13, AV.int .i64 t13), (14, AV.int .i64 s.1)], [([0, 1], ⟨true, [], [AV.agg [AV.sl [.int .i64] h0_0, AV.sl [.int .i64] h0_1, AV.sl [.int .i64, .int .i64] h0_2]]⟩), ([0, 3], ⟨false, [.str], s.2⟩), ([0, 12], ⟨false, [.int .i64, .int .i64], h2⟩)]⟩) (fun p : (List AV) => k (.exit 0) ⟨[(3, AV.own [0, 3])], [([0, 1], ⟨true, [], [AV.agg [AV.sl [.int .i64] h0_0, AV.sl [.int .i64] h0_1, AV.sl [.int .i64, .int .i64] h0_2]]⟩), ([0, 3], ⟨false, [.str], p⟩), ([0, 12], ⟨false, [.int .i64, .int .i64], h2⟩)]⟩) (st40_0 t13 h0_0 h0_1 h0_2 h2 ce k) _ (t14, h1)
  · cases h
def q40 (a0_0 : List AV) (a0_1 : List AV) (a0_2 : List AV) : Bool := (q66 a0_0 a0_1 a0_2 && (bif !(v66_0 a0_0 a0_1 a0_2) then true else (q72 a0_0 a0_1 a0_2 && (ro (runW (R40_0 ((v72_0 a0_0 a0_1 a0_2).length : Int) a0_0 a0_1 a0_2 (v72_0 a0_0 a0_1 a0_2)) ((((v72_0 a0_0 a0_1 a0_2).length : Int) - 0).toNat + 1) (0, ([] : List AV))) false (fun p44 => true)))))
def v40_0 (a0_0 : List AV) (a0_1 : List AV) (a0_2 : List AV) : List AV := (bif !(v66_0 a0_0 a0_1 a0_2) then ([] : List AV) else (ro (runW (R40_0 ((v72_0 a0_0 a0_1 a0_2).length : Int) a0_0 a0_1 a0_2 (v72_0 a0_0 a0_1 a0_2)) ((((v72_0 a0_0 a0_1 a0_2).length : Int) - 0).toNat + 1) (0, ([] : List AV))) [] (fun p44 => p44)))
theorem e40 (a0_0 : List AV) (a0_1 : List AV) (a0_2 : List AV) : funA c40 0 40 [AV.agg [AV.sl [.int .i64] a0_0, AV.sl [.int .i64] a0_1, AV.sl [.int .i64, .int .i64] a0_2]] = (bif q66 a0_0 a0_1 a0_2 then (bif !(v66_0 a0_0 a0_1 a0_2) then some (AV.fl [.str] ([] : List AV))
  else (bif q72 a0_0 a0_1 a0_2 then (ro (runW (R40_0 ((v72_0 a0_0 a0_1 a0_2).length : Int) a0_0 a0_1 a0_2 (v72_0 a0_0 a0_1 a0_2)) ((((v72_0 a0_0 a0_1 a0_2).length : Int) - 0).toNat + 1) (0, ([] : List AV))) none (fun p44 => some (AV.fl [.str] p44)))
  else none))
  else none) := by kernel_rfl
theorem r40 (a0_0 : List AV) (a0_1 : List AV) (a0_2 : List AV) (h : q40 a0_0 a0_1 a0_2 = true) : funA c40 0 40 [AV.agg [AV.sl [.int .i64] a0_0, AV.sl [.int .i64] a0_1, AV.sl [.int .i64, .int .i64] a0_2]] = some (AV.fl [.str] (v40_0 a0_0 a0_1 a0_2)) := (e40 a0_0 a0_1 a0_2).trans ((brL (br (fun b => some (AV.fl [.str] (bif b then ([] : List AV) else (ro (runW (R40_0 ((v72_0 a0_0 a0_1 a0_2).length : Int) a0_0 a0_1 a0_2 (v72_0 a0_0 a0_1 a0_2)) ((((v72_0 a0_0 a0_1 a0_2).length : Int) - 0).toNat + 1) (0, ([] : List AV))) [] (fun p44 => p44))))) (fun _ => rfl) (brL (brO (fun o : Option (((List AV))) => some (AV.fl [.str] (ro o [] (fun p44 => p44)))) (fun p44 => (fun _ => rfl)))))) h)
def m40 : TModel
  | [.agg [.sl g0 a0_0, .sl g1 a0_1, .sl g2 a0_2]] => bif ctsEq g0 ([.int .i64]) && ctsEq g1 ([.int .i64]) && ctsEq g2 ([.int .i64, .int .i64]) then some (q40 a0_0 a0_1 a0_2, AV.fl [.str] (v40_0 a0_0 a0_1 a0_2)) else none
  | _ => none
theorem k40 : Known Tryd.prog 40 := ⟨Tryd.f40, Tryd.func40, by kernel_rfl, by kernel_rfl⟩
theorem meets40 : Meets Tryd.prog 40 m40 := by
  refine meet (f := Tryd.f40) (l := [(0, sub [1, 1, 1, 0, 1, 0, 0] (body Tryd.f40))]) (hs := [(40, 0, [1, 3, 12, 13, 14]), (40, 999, [2]), (40, 1000, [3]), (40, 1001, [1, 3, 12, 13, 14])]) (ts := [(44, m44), (66, m66), (72, m72), (73, m73), (74, m74), (75, m75)]) (ws := []) (is := []) (ls := [(40, 0, l40_0)]) (lvl := 0) mixed k40 Tryd.func40 (by kernel_rfl) (loops_cons ok40_0 noLoop) (allT_cons meets44 (allT_cons meets66 (allT_cons meets72 (allT_cons meets73 (allT_cons meets74 (allT_cons meets75 allT_nil)))))) allM_nil noI fun w xs us r hl hv h => ?_
  unfold m40 at h
  split at h
  · rename_i g0 a0_0 g1 a0_1 g2 a0_2
    obtain ⟨hg, h⟩ := bif_pair h
    simp only [Bool.and_eq_true] at hg
    obtain ⟨⟨q0, q1⟩, q2⟩ := hg
    obtain rfl := ctsEq_eq _ _ q0
    obtain rfl := ctsEq_eq _ _ q1
    obtain rfl := ctsEq_eq _ _ q2
    obtain ⟨h1, rfl⟩ := pair_inj h
    exact r40 a0_0 a0_1 a0_2 h1
  · cases h

/-! ### 29 loop.example/g01984/laws.eqStringS -/
def F29_0 (t0 : List AV) (t1 : List AV) (t5 : Int) : Out (Int) (Unit ⊕ Unit) := (bif decide (t5 < (t0.length : Int)) then (bif (decide (0 ≤ t5) && decide (t5 < (t0.length : Int))) then (bif (decide (0 ≤ t5) && decide (t5 < (t1.length : Int))) then (bif !((fS (t0.getD t5.toNat AV.undef) 0).toList == (fS (t1.getD t5.toNat AV.undef) 0).toList) then .stop (.inr ())
  else .next (IntKind.i64.wrap (t5 + 1)))
  else .fail)
  else .fail)
  else .stop (.inl ()))
def R29_0 (t0 : List AV) (t1 : List AV) : (Int) → Out (Int) (Unit ⊕ Unit) := fun s : Int => F29_0 t0 t1 s
def l29_0 : LModel := fun _ _ st k => match st with
  | ⟨[(0, .sl g0 t0), (1, .sl g1 t1), (5, .int .i64 t5)], []⟩ => bif ctsEq g0 ([.str]) && ctsEq g1 ([.str]) then ro (runW (R29_0 t0 t1) (((t0.length : Int) - t5).toNat + 1) t5) none (sumE (fun _ : Unit => k (.exit 0) ⟨[], []⟩) (fun _ : Unit => k .ret ⟨[(4, AV.bool false)], []⟩)) else none
  | _ => none
noncomputable def c29 : Cfg := cfg Tryd.prog [(29, 0, [0, 1, 5]), (29, 999, [4]), (29, 1000, []), (29, 1001, [0, 1, 5])] [] [] [] [(29, 0, l29_0)]
theorem s29_0 (ce : CallE) (t0 : List AV) (t1 : List AV) (t5 : Int) (next : St → Option AV) (k : Kont) : stepA (codeA c29 ce [] 29 0 (sub [1, 1, 0, 1, 0, 0] (body Tryd.f29))) (normA [] [0, 1, 5]) next ⟨[(0, AV.sl [.str] t0), (1, AV.sl [.str] t1), (5, AV.int .i64 t5)], []⟩ k = (bif decide (t5 < (t0.length : Int)) then (bif (decide (0 ≤ t5) && decide (t5 < (t0.length : Int))) then (bif (decide (0 ≤ t5) && decide (t5 < (t1.length : Int))) then (bif !((fS (t0.getD t5.toNat AV.undef) 0).toList == (fS (t1.getD t5.toNat AV.undef) 0).toList) then k .ret ⟨[(4, AV.bool false)], []⟩
  else next ⟨[(0, AV.sl [.str] t0), (1, AV.sl [.str] t1), (5, AV.int .i64 (IntKind.i64.wrap (t5 + 1)))], []⟩)
  else none)
  else none)
  else k (.exit 0) ⟨[], []⟩) := by kernel_rfl
theorem st29_0 (t0 : List AV) (t1 : List AV) (ce : CallE) (k : Kont) (s : Int) (next : St → Option AV) : stepA (codeA c29 ce [] 29 0 (sub [1, 1, 0, 1, 0, 0] (body Tryd.f29))) (normA [] [0, 1, 5]) next ((fun s : Int => ⟨[(0, AV.sl [.str] t0), (1, AV.sl [.str] t1), (5, AV.int .i64 s)], []⟩) s) k = (R29_0 t0 t1 s).el none (fun s => next ((fun s : Int => ⟨[(0, AV.sl [.str] t0), (1, AV.sl [.str] t1), (5, AV.int .i64 s)], []⟩) s)) (sumE (fun _ : Unit => k (.exit 0) ⟨[], []⟩) (fun _ : Unit => k .ret ⟨[(4, AV.bool false)], []⟩)) := (s29_0 ce t0 t1 s next k).trans (by unfold R29_0; unfold F29_0; simp only [el_cond, el_ro, el_sum, el_fail, el_next, el_stop] <;> rfl)
theorem ok29_0 {ce : CallE} : LoopOK c29 ce [] 29 0 (sub [1, 1, 0, 1, 0, 0] (body Tryd.f29)) := by
  intro m hm st k r h
  obtain rfl : l29_0 = m := Option.some.inj hm
  unfold l29_0 at h
  split at h
  · rename_i g0 t0 g1 t1 t5
    obtain ⟨hg, h⟩ := bif_some h
    simp only [Bool.and_eq_true] at hg
    obtain ⟨q0, q1⟩ := hg
    obtain rfl := ctsEq_eq _ _ q0
    obtain rfl := ctsEq_eq _ _ q1
    refine ⟨(((t0.length : Int) - t5).toNat + 1), ?_⟩
    rw [← h]
    exact loop_run (fun s : Int => ⟨[(0, AV.sl [.str] t0), (1, AV.sl [.str] t1), (5, AV.int .i64 s)], []⟩) (sumE (fun _ : Unit => k (.exit 0) ⟨[], []⟩) (fun _ : Unit => k .ret ⟨[(4, AV.bool false)], []⟩)) (st29_0 t0 t1 ce k) _ t5
  · cases h
def q29 (a0 : List AV) (a1 : List AV) : Bool := (bif !decide ((a0.length : Int) = (a1.length : Int)) then true else (ro (runW (R29_0 a0 a1) (((a0.length : Int) - 0).toNat + 1) 0) false (sumE (fun _ => true) (fun _ => true))))
def v29_0 (a0 : List AV) (a1 : List AV) : Bool := (bif !decide ((a0.length : Int) = (a1.length : Int)) then false else (ro (runW (R29_0 a0 a1) (((a0.length : Int) - 0).toNat + 1) 0) false (sumE (fun _ => true) (fun _ => false))))
theorem e29 (a0 : List AV) (a1 : List AV) : funA c29 0 29 [AV.sl [.str] a0, AV.sl [.str] a1] = (bif !decide ((a0.length : Int) = (a1.length : Int)) then some (AV.bool false)
  else (ro (runW (R29_0 a0 a1) (((a0.length : Int) - 0).toNat + 1) 0) none (sumE (fun _ => some (AV.bool true)) (fun _ => some (AV.bool false))))) := by kernel_rfl
theorem r29 (a0 : List AV) (a1 : List AV) (h : q29 a0 a1 = true) : funA c29 0 29 [AV.sl [.str] a0, AV.sl [.str] a1] = some (AV.bool (v29_0 a0 a1)) := (e29 a0 a1).trans ((br (fun b => some (AV.bool (bif b then false else (ro (runW (R29_0 a0 a1) (((a0.length : Int) - 0).toNat + 1) 0) false (sumE (fun _ => true) (fun _ => false)))))) (fun _ => rfl) (brO (fun o : Option (Unit ⊕ Unit) => some (AV.bool (ro o false (sumE (fun _ => true) (fun _ => false))))) (brS (fun o : Unit ⊕ Unit => some (AV.bool ((sumE (fun _ => true) (fun _ => false)) o))) (fun _ => (fun _ => rfl)) (fun _ => (fun _ => rfl))))) h)
def m29 : TModel
  | [.sl g0 a0, .sl g1 a1] => bif ctsEq g0 ([.str]) && ctsEq g1 ([.str]) then some (q29 a0 a1, AV.bool (v29_0 a0 a1)) else none
  | _ => none
theorem k29 : Known Tryd.prog 29 := ⟨Tryd.f29, Tryd.func29, by kernel_rfl, by kernel_rfl⟩
theorem meets29 : Meets Tryd.prog 29 m29 := by
  refine meet (f := Tryd.f29) (l := [(0, sub [1, 1, 0, 1, 0, 0] (body Tryd.f29))]) (hs := [(29, 0, [0, 1, 5]), (29, 999, [4]), (29, 1000, []), (29, 1001, [0, 1, 5])]) (ts := []) (ws := []) (is := []) (ls := [(29, 0, l29_0)]) (lvl := 0) mixed k29 Tryd.func29 (by kernel_rfl) (loops_cons ok29_0 noLoop) allT_nil allM_nil noI fun w xs us r hl hv h => ?_
  unfold m29 at h
  split at h
  · rename_i g0 a0 g1 a1
    obtain ⟨hg, h⟩ := bif_pair h
    simp only [Bool.and_eq_true] at hg
    obtain ⟨q0, q1⟩ := hg
    obtain rfl := ctsEq_eq _ _ q0
    obtain rfl := ctsEq_eq _ _ q1
    obtain ⟨h1, rfl⟩ := pair_inj h
    exact r29 a0 a1 h1
  · cases h

/-! ### 16 loop.example/g01984/laws.eqIntS -/
def F16_0 (t0 : List AV) (t1 : List AV) (t5 : Int) : Out (Int) (Unit ⊕ Unit) := (bif decide (t5 < (t0.length : Int)) then (bif (decide (0 ≤ t5) && decide (t5 < (t0.length : Int))) then (bif (decide (0 ≤ t5) && decide (t5 < (t1.length : Int))) then (bif !decide (fI (t0.getD t5.toNat AV.undef) 0 = fI (t1.getD t5.toNat AV.undef) 0) then .stop (.inr ())
  else .next (IntKind.i64.wrap (t5 + 1)))
  else .fail)
  else .fail)
  else .stop (.inl ()))
def R16_0 (t0 : List AV) (t1 : List AV) : (Int) → Out (Int) (Unit ⊕ Unit) := fun s : Int => F16_0 t0 t1 s
def l16_0 : LModel := fun _ _ st k => match st with
  | ⟨[(0, .sl g0 t0), (1, .sl g1 t1), (5, .int .i64 t5)], []⟩ => bif ctsEq g0 ([.int .i64]) && ctsEq g1 ([.int .i64]) then ro (runW (R16_0 t0 t1) (((t0.length : Int) - t5).toNat + 1) t5) none (sumE (fun _ : Unit => k (.exit 0) ⟨[], []⟩) (fun _ : Unit => k .ret ⟨[(4, AV.bool false)], []⟩)) else none
  | _ => none
noncomputable def c16 : Cfg := cfg Tryd.prog [(16, 0, [0, 1, 5]), (16, 999, [4]), (16, 1000, []), (16, 1001, [0, 1, 5])] [] [] [] [(16, 0, l16_0)]
theorem s16_0 (ce : CallE) (t0 : List AV) (t1 : List AV) (t5 : Int) (next : St → Option AV) (k : Kont) : stepA (codeA c16 ce [] 16 0 (sub [1, 1, 0, 1, 0, 0] (body Tryd.f16))) (normA [] [0, 1, 5]) next ⟨[(0, AV.sl [.int .i64] t0), (1, AV.sl [.int .i64] t1), (5, AV.int .i64 t5)], []⟩ k = (bif decide (t5 < (t0.length : Int)) then (bif (decide (0 ≤ t5) && decide (t5 < (t0.length : Int))) then (bif (decide (0 ≤ t5) && decide (t5 < (t1.length : Int))) then (bif !decide (fI (t0.getD t5.toNat AV.undef) 0 = fI (t1.getD t5.toNat AV.undef) 0) then k .ret ⟨[(4, AV.bool false)], []⟩
  else next ⟨[(0, AV.sl [.int .i64] t0), (1, AV.sl [.int .i64] t1), (5, AV.int .i64 (IntKind.i64.wrap (t5 + 1)))], []⟩)
  else none)
  else none)
  else k (.exit 0) ⟨[], []⟩) := by kernel_rfl
theorem st16_0 (t0 : List AV) (t1 : List AV) (ce : CallE) (k : Kont) (s : Int) (next : St → Option AV) : stepA (codeA c16 ce [] 16 0 (sub [1, 1, 0, 1, 0, 0] (body Tryd.f16))) (normA [] [0, 1, 5]) next ((fun s : Int => ⟨[(0, AV.sl [.int .i64] t0), (1, AV.sl [.int .i64] t1), (5, AV.int .i64 s)], []⟩) s) k = (R16_0 t0 t1 s).el none (fun s => next ((fun s : Int => ⟨[(0, AV.sl [.int .i64] t0), (1, AV.sl [.int .i64] t1), (5, AV.int .i64 s)], []⟩) s)) (sumE (fun _ : Unit => k (.exit 0) ⟨[], []⟩) (fun _ : Unit => k .ret ⟨[(4, AV.bool false)], []⟩)) := (s16_0 ce t0 t1 s next k).trans (by unfold R16_0; unfold F16_0; simp only [el_cond, el_ro, el_sum, el_fail, el_next, el_stop] <;> rfl)
theorem ok16_0 {ce : CallE} : LoopOK c16 ce [] 16 0 (sub [1, 1, 0, 1, 0, 0] (body Tryd.f16)) := by
  intro m hm st k r h
  obtain rfl : l16_0 = m := Option.some.inj hm
  unfold l16_0 at h
  split at h
  · rename_i g0 t0 g1 t1 t5
    obtain ⟨hg, h⟩ := bif_some h
    simp only [Bool.and_eq_true] at hg
    obtain ⟨q0, q1⟩ := hg
    obtain rfl := ctsEq_eq _ _ q0
    obtain rfl := ctsEq_eq _ _ q1
    refine ⟨(((t0.length : Int) - t5).toNat + 1), ?_⟩
    rw [← h]
    exact loop_run (fun s : Int => ⟨[(0, AV.sl [.int .i64] t0), (1, AV.sl [.int .i64] t1), (5, AV.int .i64 s)], []⟩) (sumE (fun _ : Unit => k (.exit 0) ⟨[], []⟩) (fun _ : Unit => k .ret ⟨[(4, AV.bool false)], []⟩)) (st16_0 t0 t1 ce k) _ t5
  · cases h
def q16 (a0 : List AV) (a1 : List AV) : Bool := (bif !decide ((a0.length : Int) = (a1.length : Int)) then true else (ro (runW (R16_0 a0 a1) (((a0.length : Int) - 0).toNat + 1) 0) false (sumE (fun _ => true) (fun _ => true))))
def v16_0 (a0 : List AV) (a1 : List AV) : Bool := (bif !decide ((a0.length : Int) = (a1.length : Int)) then false else (ro (runW (R16_0 a0 a1) (((a0.length : Int) - 0).toNat + 1) 0) false (sumE (fun _ => true) (fun _ => false))))
theorem e16 (a0 : List AV) (a1 : List AV) : funA c16 0 16 [AV.sl [.int .i64] a0, AV.sl [.int .i64] a1] = (bif !decide ((a0.length : Int) = (a1.length : Int)) then some (AV.bool false)
  else (ro (runW (R16_0 a0 a1) (((a0.length : Int) - 0).toNat + 1) 0) none (sumE (fun _ => some (AV.bool true)) (fun _ => some (AV.bool false))))) := by kernel_rfl
theorem r16 (a0 : List AV) (a1 : List AV) (h : q16 a0 a1 = true) : funA c16 0 16 [AV.sl [.int .i64] a0, AV.sl [.int .i64] a1] = some (AV.bool (v16_0 a0 a1)) := (e16 a0 a1).trans ((br (fun b => some (AV.bool (bif b then false else (ro (runW (R16_0 a0 a1) (((a0.length : Int) - 0).toNat + 1) 0) false (sumE (fun _ => true) (fun _ => false)))))) (fun _ => rfl) (brO (fun o : Option (Unit ⊕ Unit) => some (AV.bool (ro o false (sumE (fun _ => true) (fun _ => false))))) (brS (fun o : Unit ⊕ Unit => some (AV.bool ((sumE (fun _ => true) (fun _ => false)) o))) (fun _ => (fun _ => rfl)) (fun _ => (fun _ => rfl))))) h)
def m16 : TModel
  | [.sl g0 a0, .sl g1 a1] => bif ctsEq g0 ([.int .i64]) && ctsEq g1 ([.int .i64]) then some (q16 a0 a1, AV.bool (v16_0 a0 a1)) else none
  | _ => none
theorem k16 : Known Tryd.prog 16 := ⟨Tryd.f16, Tryd.func16, by kernel_rfl, by kernel_rfl⟩
theorem meets16 : Meets Tryd.prog 16 m16 := by
  refine meet (f := Tryd.f16) (l := [(0, sub [1, 1, 0, 1, 0, 0] (body Tryd.f16))]) (hs := [(16, 0, [0, 1, 5]), (16, 999, [4]), (16, 1000, []), (16, 1001, [0, 1, 5])]) (ts := []) (ws := []) (is := []) (ls := [(16, 0, l16_0)]) (lvl := 0) mixed k16 Tryd.func16 (by kernel_rfl) (loops_cons ok16_0 noLoop) allT_nil allM_nil noI fun w xs us r hl hv h => ?_
  unfold m16 at h
  split at h
  · rename_i g0 a0 g1 a1
    obtain ⟨hg, h⟩ := bif_pair h
    simp only [Bool.and_eq_true] at hg
    obtain ⟨q0, q1⟩ := hg
    obtain rfl := ctsEq_eq _ _ q0
    obtain rfl := ctsEq_eq _ _ q1
    obtain ⟨h1, rfl⟩ := pair_inj h
    exact r16 a0 a1 h1
  · cases h

/-! ### 93 loop.example/g01984/laws.eqPivot -/
noncomputable def c93 : Cfg := cfg Tryd.prog [(93, 999, [4])] [] [] [] []
def q93 (a0_0 : Int) (a0_1 : Int) (a1_0 : Int) (a1_1 : Int) : Bool := true
def v93_0 (a0_0 : Int) (a0_1 : Int) (a1_0 : Int) (a1_1 : Int) : Bool := (bif !decide (a0_0 = a1_0) then false else (bif !decide (a0_1 = a1_1) then false else true))
theorem e93 (a0_0 : Int) (a0_1 : Int) (a1_0 : Int) (a1_1 : Int) : funA c93 0 93 [AV.agg [AV.int .i64 a0_0, AV.int .i64 a0_1], AV.agg [AV.int .i64 a1_0, AV.int .i64 a1_1]] = (bif !decide (a0_0 = a1_0) then some (AV.bool false)
  else (bif !decide (a0_1 = a1_1) then some (AV.bool false)
  else some (AV.bool true))) := by kernel_rfl
theorem r93 (a0_0 : Int) (a0_1 : Int) (a1_0 : Int) (a1_1 : Int) : funA c93 0 93 [AV.agg [AV.int .i64 a0_0, AV.int .i64 a0_1], AV.agg [AV.int .i64 a1_0, AV.int .i64 a1_1]] = some (AV.bool (v93_0 a0_0 a0_1 a1_0 a1_1)) := (e93 a0_0 a0_1 a1_0 a1_1).trans (of_tt (brT (fun b => some (AV.bool (bif b then false else (bif !decide (a0_1 = a1_1) then false else true)))) (fun _ => rfl) (brT (fun b => some (AV.bool (bif b then false else true))) (fun _ => rfl) (fun _ => rfl))))
def m93 : TModel
  | [.agg [.int .i64 a0_0, .int .i64 a0_1], .agg [.int .i64 a1_0, .int .i64 a1_1]] => some (true, AV.bool (v93_0 a0_0 a0_1 a1_0 a1_1))
  | _ => none
theorem k93 : Known Tryd.prog 93 := ⟨Tryd.f93, Tryd.func93, by kernel_rfl, by kernel_rfl⟩
theorem meets93 : Meets Tryd.prog 93 m93 := by
  refine meet (f := Tryd.f93) (l := []) (hs := [(93, 999, [4])]) (ts := []) (ws := []) (is := []) (ls := []) (lvl := 0) mixed k93 Tryd.func93 (by kernel_rfl) noLoop allT_nil allM_nil noI fun w xs us r hl hv h => ?_
  unfold m93 at h
  split at h
  · rename_i a0_0 a0_1 a1_0 a1_1
    obtain ⟨h1, rfl⟩ := pair_inj h
    exact r93 a0_0 a0_1 a1_0 a1_1
  · cases h

/-! ### 67 loop.example/g01984/laws.eqPivotS -/
def F67_0 (t0 : List AV) (t1 : List AV) (t5 : Int) : Out (Int) (Unit ⊕ Unit) := (bif decide (t5 < (t0.length : Int)) then (bif (decide (0 ≤ t5) && decide (t5 < (t0.length : Int))) then (bif (decide (0 ≤ t5) && decide (t5 < (t1.length : Int))) then (bif !(v93_0 (fI (t0.getD t5.toNat AV.undef) 0) (fI (t0.getD t5.toNat AV.undef) 1) (fI (t1.getD t5.toNat AV.undef) 0) (fI (t1.getD t5.toNat AV.undef) 1)) then .stop (.inr ())
  else .next (IntKind.i64.wrap (t5 + 1)))
  else .fail)
  else .fail)
  else .stop (.inl ()))
def R67_0 (t0 : List AV) (t1 : List AV) : (Int) → Out (Int) (Unit ⊕ Unit) := fun s : Int => F67_0 t0 t1 s
def l67_0 : LModel := fun _ _ st k => match st with
  | ⟨[(0, .sl g0 t0), (1, .sl g1 t1), (5, .int .i64 t5)], []⟩ => bif ctsEq g0 ([.int .i64, .int .i64]) && ctsEq g1 ([.int .i64, .int .i64]) then ro (runW (R67_0 t0 t1) (((t0.length : Int) - t5).toNat + 1) t5) none (sumE (fun _ : Unit => k (.exit 0) ⟨[], []⟩) (fun _ : Unit => k .ret ⟨[(4, AV.bool false)], []⟩)) else none
  | _ => none
noncomputable def c67 : Cfg := cfg Tryd.prog [(67, 0, [0, 1, 5]), (67, 999, [4]), (67, 1000, []), (67, 1001, [0, 1, 5])] [(93, m93)] [] [] [(67, 0, l67_0)]
theorem s67_0 (ce : CallE) (t0 : List AV) (t1 : List AV) (t5 : Int) (next : St → Option AV) (k : Kont) : stepA (codeA c67 ce [] 67 0 (sub [1, 1, 0, 1, 0, 0] (body Tryd.f67))) (normA [] [0, 1, 5]) next ⟨[(0, AV.sl [.int .i64, .int .i64] t0), (1, AV.sl [.int .i64, .int .i64] t1), (5, AV.int .i64 t5)], []⟩ k = (bif decide (t5 < (t0.length : Int)) then (bif (decide (0 ≤ t5) && decide (t5 < (t0.length : Int))) then (bif (decide (0 ≤ t5) && decide (t5 < (t1.length : Int))) then (bif !(v93_0 (fI (t0.getD t5.toNat AV.undef) 0) (fI (t0.getD t5.toNat AV.undef) 1) (fI (t1.getD t5.toNat AV.undef) 0) (fI (t1.getD t5.toNat AV.undef) 1)) then k .ret ⟨[(4, AV.bool false)], []⟩
  else next ⟨[(0, AV.sl [.int .i64, .int .i64] t0), (1, AV.sl [.int .i64, .int .i64] t1), (5, AV.int .i64 (IntKind.i64.wrap (t5 + 1)))], []⟩)
  else none)
  else none)
  else k (.exit 0) ⟨[], []⟩) := by kernel_rfl
theorem st67_0 (t0 : List AV) (t1 : List AV) (ce : CallE) (k : Kont) (s : Int) (next : St → Option AV) : stepA (codeA c67 ce [] 67 0 (sub [1, 1, 0, 1, 0, 0] (body Tryd.f67))) (normA [] [0, 1, 5]) next ((fun s : Int => ⟨[(0, AV.sl [.int .i64, .int .i64] t0), (1, AV.sl [.int .i64, .int .i64] t1), (5, AV.int .i64 s)], []⟩) s) k = (R67_0 t0 t1 s).el none (fun s => next ((fun s : Int => ⟨[(0, AV.sl [.int .i64, .int .i64] t0), (1, AV.sl [.int .i64, .int .i64] t1), (5, AV.int .i64 s)], []⟩) s)) (sumE (fun _ : Unit => k (.exit 0) ⟨[], []⟩) (fun _ : Unit => k .ret ⟨[(4, AV.bool false)], []⟩)) := (s67_0 ce t0 t1 s next k).trans (by unfold R67_0; unfold F67_0; simp only [el_cond, el_ro, el_sum, el_fail, el_next, el_stop] <;> rfl)
theorem ok67_0 {ce : CallE} : LoopOK c67 ce [] 67 0 (sub [1, 1, 0, 1, 0, 0] (body Tryd.f67)) := by
  intro m hm st k r h
  obtain rfl : l67_0 = m := Option.some.inj hm
  unfold l67_0 at h
  split at h
  · rename_i g0 t0 g1 t1 t5
    obtain ⟨hg, h⟩ := bif_some h
    simp only [Bool.and_eq_true] at hg
    obtain ⟨q0, q1⟩ := hg
    obtain rfl := ctsEq_eq _ _ q0
    obtain rfl := ctsEq_eq _ _ q1
    refine ⟨(((t0.length : Int) - t5).toNat + 1), ?_⟩
    rw [← h]
    exact loop_run (fun s : Int => ⟨[(0, AV.sl [.int .i64, .int .i64] t0), (1, AV.sl [.int .i64, .int .i64] t1), (5, AV.int .i64 s)], []⟩) (sumE (fun _ : Unit => k (.exit 0) ⟨[], []⟩) (fun _ : Unit => k .ret ⟨[(4, AV.bool false)], []⟩)) (st67_0 t0 t1 ce k) _ t5
  · cases h
def q67 (a0 : List AV) (a1 : List AV) : Bool := (bif !decide ((a0.length : Int) = (a1.length : Int)) then true else (ro (runW (R67_0 a0 a1) (((a0.length : Int) - 0).toNat + 1) 0) false (sumE (fun _ => true) (fun _ => true))))
def v67_0 (a0 : List AV) (a1 : List AV) : Bool := (bif !decide ((a0.length : Int) = (a1.length : Int)) then false else (ro (runW (R67_0 a0 a1) (((a0.length : Int) - 0).toNat + 1) 0) false (sumE (fun _ => true) (fun _ => false))))
theorem e67 (a0 : List AV) (a1 : List AV) : funA c67 0 67 [AV.sl [.int .i64, .int .i64] a0, AV.sl [.int .i64, .int .i64] a1] = (bif !decide ((a0.length : Int) = (a1.length : Int)) then some (AV.bool false)
  else (ro (runW (R67_0 a0 a1) (((a0.length : Int) - 0).toNat + 1) 0) none (sumE (fun _ => some (AV.bool true)) (fun _ => some (AV.bool false))))) := by kernel_rfl
theorem r67 (a0 : List AV) (a1 : List AV) (h : q67 a0 a1 = true) : funA c67 0 67 [AV.sl [.int .i64, .int .i64] a0, AV.sl [.int .i64, .int .i64] a1] = some (AV.bool (v67_0 a0 a1)) := (e67 a0 a1).trans ((br (fun b => some (AV.bool (bif b then false else (ro (runW (R67_0 a0 a1) (((a0.length : Int) - 0).toNat + 1) 0) false (sumE (fun _ => true) (fun _ => false)))))) (fun _ => rfl) (brO (fun o : Option (Unit ⊕ Unit) => some (AV.bool (ro o false (sumE (fun _ => true) (fun _ => false))))) (brS (fun o : Unit ⊕ Unit => some (AV.bool ((sumE (fun _ => true) (fun _ => false)) o))) (fun _ => (fun _ => rfl)) (fun _ => (fun _ => rfl))))) h)
def m67 : TModel
  | [.sl g0 a0, .sl g1 a1] => bif ctsEq g0 ([.int .i64, .int .i64]) && ctsEq g1 ([.int .i64, .int .i64]) then some (q67 a0 a1, AV.bool (v67_0 a0 a1)) else none
  | _ => none
theorem k67 : Known Tryd.prog 67 := ⟨Tryd.f67, Tryd.func67, by kernel_rfl, by kernel_rfl⟩
theorem meets67 : Meets Tryd.prog 67 m67 := by
  refine meet (f := Tryd.f67) (l := [(0, sub [1, 1, 0, 1, 0, 0] (body Tryd.f67))]) (hs := [(67, 0, [0, 1, 5]), (67, 999, [4]), (67, 1000, []), (67, 1001, [0, 1, 5])]) (ts := [(93, m93)]) (ws := []) (is := []) (ls := [(67, 0, l67_0)]) (lvl := 0) mixed k67 Tryd.func67 (by kernel_rfl) (loops_cons ok67_0 noLoop) (allT_cons meets93 allT_nil) allM_nil noI fun w xs us r hl hv h => ?_
  unfold m67 at h
  split at h
  · rename_i g0 a0 g1 a1
    obtain ⟨hg, h⟩ := bif_pair h
    simp only [Bool.and_eq_true] at hg
    obtain ⟨q0, q1⟩ := hg
    obtain rfl := ctsEq_eq _ _ q0
    obtain rfl := ctsEq_eq _ _ q1
    obtain ⟨h1, rfl⟩ := pair_inj h
    exact r67 a0 a1 h1
  · cases h

/-! ### 38 loop.example/g01984/laws.eqCracker -/
noncomputable def c38 : Cfg := cfg Tryd.prog [(38, 999, [4])] [(16, m16), (67, m67)] [] [] []
def q38 (a0_0 : List AV) (a0_1 : List AV) (a0_2 : List AV) (a1_0 : List AV) (a1_1 : List AV) (a1_2 : List AV) : Bool := (q16 a0_0 a1_0 && (bif !(v16_0 a0_0 a1_0) then true else (q16 a0_1 a1_1 && (bif !(v16_0 a0_1 a1_1) then true else q67 a0_2 a1_2))))
def v38_0 (a0_0 : List AV) (a0_1 : List AV) (a0_2 : List AV) (a1_0 : List AV) (a1_1 : List AV) (a1_2 : List AV) : Bool := (bif !(v16_0 a0_0 a1_0) then false else (bif !(v16_0 a0_1 a1_1) then false else (bif !(v67_0 a0_2 a1_2) then false else true)))
theorem e38 (a0_0 : List AV) (a0_1 : List AV) (a0_2 : List AV) (a1_0 : List AV) (a1_1 : List AV) (a1_2 : List AV) : funA c38 0 38 [AV.agg [AV.sl [.int .i64] a0_0, AV.sl [.int .i64] a0_1, AV.sl [.int .i64, .int .i64] a0_2], AV.agg [AV.sl [.int .i64] a1_0, AV.sl [.int .i64] a1_1, AV.sl [.int .i64, .int .i64] a1_2]] = (bif q16 a0_0 a1_0 then (bif !(v16_0 a0_0 a1_0) then some (AV.bool false)
  else (bif q16 a0_1 a1_1 then (bif !(v16_0 a0_1 a1_1) then some (AV.bool false)
  else (bif q67 a0_2 a1_2 then (bif !(v67_0 a0_2 a1_2) then some (AV.bool false)
  else some (AV.bool true))
  else none))
  else none))
  else none) := by kernel_rfl
theorem r38 (a0_0 : List AV) (a0_1 : List AV) (a0_2 : List AV) (a1_0 : List AV) (a1_1 : List AV) (a1_2 : List AV) (h : q38 a0_0 a0_1 a0_2 a1_0 a1_1 a1_2 = true) : funA c38 0 38 [AV.agg [AV.sl [.int .i64] a0_0, AV.sl [.int .i64] a0_1, AV.sl [.int .i64, .int .i64] a0_2], AV.agg [AV.sl [.int .i64] a1_0, AV.sl [.int .i64] a1_1, AV.sl [.int .i64, .int .i64] a1_2]] = some (AV.bool (v38_0 a0_0 a0_1 a0_2 a1_0 a1_1 a1_2)) := (e38 a0_0 a0_1 a0_2 a1_0 a1_1 a1_2).trans ((brL (br (fun b => some (AV.bool (bif b then false else (bif !(v16_0 a0_1 a1_1) then false else (bif !(v67_0 a0_2 a1_2) then false else true))))) (fun _ => rfl) (brL (br (fun b => some (AV.bool (bif b then false else (bif !(v67_0 a0_2 a1_2) then false else true)))) (fun _ => rfl) (brL1 (brT (fun b => some (AV.bool (bif b then false else true))) (fun _ => rfl) (fun _ => rfl))))))) h)
def m38 : TModel
  | [.agg [.sl g0 a0_0, .sl g1 a0_1, .sl g2 a0_2], .agg [.sl g3 a1_0, .sl g4 a1_1, .sl g5 a1_2]] => bif ctsEq g0 ([.int .i64]) && ctsEq g1 ([.int .i64]) && ctsEq g2 ([.int .i64, .int .i64]) && ctsEq g3 ([.int .i64]) && ctsEq g4 ([.int .i64]) && ctsEq g5 ([.int .i64, .int .i64]) then some (q38 a0_0 a0_1 a0_2 a1_0 a1_1 a1_2, AV.bool (v38_0 a0_0 a0_1 a0_2 a1_0 a1_1 a1_2)) else none
  | _ => none
theorem k38 : Known Tryd.prog 38 := ⟨Tryd.f38, Tryd.func38, by kernel_rfl, by kernel_rfl⟩
theorem meets38 : Meets Tryd.prog 38 m38 := by
  refine meet (f := Tryd.f38) (l := []) (hs := [(38, 999, [4])]) (ts := [(16, m16), (67, m67)]) (ws := []) (is := []) (ls := []) (lvl := 0) mixed k38 Tryd.func38 (by kernel_rfl) noLoop (allT_cons meets16 (allT_cons meets67 allT_nil)) allM_nil noI fun w xs us r hl hv h => ?_
  unfold m38 at h
  split at h
  · rename_i g0 a0_0 g1 a0_1 g2 a0_2 g3 a1_0 g4 a1_1 g5 a1_2
    obtain ⟨hg, h⟩ := bif_pair h
    simp only [Bool.and_eq_true] at hg
    obtain ⟨⟨⟨⟨⟨q0, q1⟩, q2⟩, q3⟩, q4⟩, q5⟩ := hg
    obtain rfl := ctsEq_eq _ _ q0
    obtain rfl := ctsEq_eq _ _ q1
    obtain rfl := ctsEq_eq _ _ q2
    obtain rfl := ctsEq_eq _ _ q3
    obtain rfl := ctsEq_eq _ _ q4
    obtain rfl := ctsEq_eq _ _ q5
    obtain ⟨h1, rfl⟩ := pair_inj h
    exact r38 a0_0 a0_1 a0_2 a1_0 a1_1 a1_2 h1
  · cases h

/-! ### 76 loop.example/g01984/laws.markIntS -/
def F76_0 (t1 : Int) (t5 : Int) (h0 : List AV) : Out ((Int × Int × (List AV))) ((Int × (List AV))) := (bif decide (t5 < (h0.length : Int)) then (bif (decide (0 ≤ t5) && decide (t5 < (h0.length : Int))) then .next (IntKind.i64.wrap (t1 + 1), IntKind.i64.wrap (t5 + 1), h0.set t5.toNat (AV.agg [AV.int .i64 t1]))
  else .fail)
  else .stop (t1, h0))
def R76_0 : ((Int × Int × (List AV))) → Out ((Int × Int × (List AV))) ((Int × (List AV))) := fun s : Int × Int × (List AV) => F76_0 s.1 s.2.1 s.2.2
def l76_0 : LModel := fun _ _ st k => match st with
  | ⟨[(0, .own g0), (1, .int .i64 t1), (5, .int .i64 t5)], [(g1, ⟨false, g2, h0⟩)]⟩ => bif nmEq g0 ([1]) && nmEq g1 ([1]) && ctsEq g2 ([.int .i64]) then ro (runW (R76_0) (((h0.length : Int) - t5).toNat + 1) (t1, t5, h0)) none (fun p : Int × (List AV) => k (.exit 0) ⟨[(1, AV.int .i64 p.1)], [([1], ⟨false, [.int .i64], p.2⟩)]⟩) else none
  | _ => none
noncomputable def c76 : Cfg := cfg Tryd.prog [(76, 0, [0, 1, 5]), (76, 999, [4]), (76, 1000, [1]), (76, 1001, [0, 1, 5])] [] [] [] [(76, 0, l76_0)]
theorem s76_0 (ce : CallE) (t1 : Int) (t5 : Int) (h0 : List AV) (next : St → Option AV) (k : Kont) : stepA (codeA c76 ce [0] 76 0 (sub [1, 0, 1, 0, 0] (body Tryd.f76))) (normA [0] [0, 1, 5]) next ⟨[(0, AV.own [1]), (1, AV.int .i64 t1), (5, AV.int .i64 t5)], [([1], ⟨false, [.int .i64], h0⟩)]⟩ k = (bif decide (t5 < (h0.length : Int)) then (bif (decide (0 ≤ t5) && decide (t5 < (h0.length : Int))) then next ⟨[(0, AV.own [1]), (1, AV.int .i64 (IntKind.i64.wrap (t1 + 1))), (5, AV.int .i64 (IntKind.i64.wrap (t5 + 1)))], [([1], ⟨false, [.int .i64], h0.set t5.toNat (AV.agg [AV.int .i64 t1])⟩)]⟩
  else none)
  else k (.exit 0) ⟨[(1, AV.int .i64 t1)], [([1], ⟨false, [.int .i64], h0⟩)]⟩) := by kernel_rfl
theorem st76_0 (ce : CallE) (k : Kont) (s : (Int × Int × (List AV))) (next : St → Option AV) : stepA (codeA c76 ce [0] 76 0 (sub [1, 0, 1, 0, 0] (body Tryd.f76))) (normA [0] [0, 1, 5]) next ((fun s : Int × Int × (List AV) => ⟨[(0, AV.own [1]), (1, AV.int .i64 s.1), (5, AV.int .i64 s.2.1)], [([1], ⟨false, [.int .i64], s.2.2⟩)]⟩) s) k = (R76_0 s).el none (fun s => next ((fun s : Int × Int × (List AV) => ⟨[(0, AV.own [1]), (1, AV.int .i64 s.1), (5, AV.int .i64 s.2.1)], [([1], ⟨false, [.int .i64], s.2.2⟩)]⟩) s)) (fun p : Int × (List AV) => k (.exit 0) ⟨[(1, AV.int .i64 p.1)], [([1], ⟨false, [.int .i64], p.2⟩)]⟩) := (s76_0 ce s.1 s.2.1 s.2.2 next k).trans (by unfold R76_0; unfold F76_0; simp only [el_cond, el_ro, el_sum, el_fail, el_next, el_stop] <;> rfl)
theorem ok76_0 {ce : CallE} : LoopOK c76 ce [0] 76 0 (sub [1, 0, 1, 0, 0] (body Tryd.f76)) := by
  intro m hm st k r h
  obtain rfl : l76_0 = m := Option.some.inj hm
  unfold l76_0 at h
  split at h
  · rename_i g0 t1 t5 g1 g2 h0
    obtain ⟨hg, h⟩ := bif_some h
    simp only [Bool.and_eq_true] at hg
    obtain ⟨⟨q0, q1⟩, q2⟩ := hg
    obtain rfl := (nmEq_iff _ _).1 q0
    obtain rfl := (nmEq_iff _ _).1 q1
    obtain rfl := ctsEq_eq _ _ q2
    refine ⟨(((h0.length : Int) - t5).toNat + 1), ?_⟩
    rw [← h]
    exact loop_run (fun s : Int × Int × (List AV) => ⟨[(0, AV.own [1]), (1, AV.int .i64 s.1), (5, AV.int .i64 s.2.1)], [([1], ⟨false, [.int .i64], s.2.2⟩)]⟩) (fun p : Int × (List AV) => k (.exit 0) ⟨[(1, AV.int .i64 p.1)], [([1], ⟨false, [.int .i64], p.2⟩)]⟩) (st76_0 ce k) _ (t1, t5, h0)
  · cases h
def q76 (a1 : Int) (b0 : List AV) : Bool := (ro (runW (R76_0) (((b0.length : Int) - 0).toNat + 1) (a1, 0, b0)) false (fun p51 => true))
def v76_0 (a1 : Int) (b0 : List AV) : Int := (ro (runW (R76_0) (((b0.length : Int) - 0).toNat + 1) (a1, 0, b0)) 0 (fun p51 => p51.1))
def v76_1 (a1 : Int) (b0 : List AV) : List AV := (ro (runW (R76_0) (((b0.length : Int) - 0).toNat + 1) (a1, 0, b0)) [] (fun p51 => p51.2))
theorem e76 (a1 : Int) (b0 : List AV) (K : AV → List Blk → Option AV) : inlA c76 1 76 [AV.own [1], AV.int .i64 a1] [0] (canH 1 [⟨false, [.int .i64], b0⟩]) (keepB 1 K) = (ro (runW (R76_0) (((b0.length : Int) - 0).toNat + 1) (a1, 0, b0)) none (fun p51 => K (AV.int .i64 p51.1) [⟨false, [.int .i64], p51.2⟩])) := by kernel_rfl
theorem r76 (a1 : Int) (b0 : List AV) (K : AV → List Blk → Option AV) (h : q76 a1 b0 = true) : inlA c76 1 76 [AV.own [1], AV.int .i64 a1] [0] (canH 1 [⟨false, [.int .i64], b0⟩]) (keepB 1 K) = K (AV.int .i64 (v76_0 a1 b0)) [⟨false, [.int .i64], (v76_1 a1 b0)⟩] := (e76 a1 b0 K).trans ((brO (fun o : Option ((Int × (List AV))) => K (AV.int .i64 (ro o 0 (fun p51 => p51.1))) [⟨false, [.int .i64], (ro o [] (fun p51 => p51.2))⟩]) (fun p51 => (fun _ => rfl))) h)
def m76 : WModel
  | [.own g0, .int .i64 a1], [⟨false, g1, b0⟩] => bif nmEq g0 ([1]) && ctsEq g1 ([.int .i64]) then some (q76 a1 b0, AV.int .i64 (v76_0 a1 b0), [⟨false, [.int .i64], (v76_1 a1 b0)⟩]) else none
  | _, _ => none
theorem k76 : Known Tryd.prog 76 := ⟨Tryd.f76, Tryd.func76, by kernel_rfl, by kernel_rfl⟩
theorem meets76 : MeetsM Tryd.prog 76 m76 := by
  refine meetM (f := Tryd.f76) (l := [(0, sub [1, 0, 1, 0, 0] (body Tryd.f76))]) (hs := [(76, 0, [0, 1, 5]), (76, 999, [4]), (76, 1000, [1]), (76, 1001, [0, 1, 5])]) (ts := []) (ws := []) (is := []) (ls := [(76, 0, l76_0)]) (lvl := 0) mixed k76 Tryd.func76 (by kernel_rfl) (loops_cons ok76_0 noLoop) allT_nil allM_nil noI fun C w xs us bs r bs' hl hv hh h K => ?_
  unfold m76 at h
  split at h
  · rename_i g0 a1 g1 b0
    obtain ⟨hg, h⟩ := bif_pair h
    simp only [Bool.and_eq_true] at hg
    obtain ⟨q0, q1⟩ := hg
    obtain rfl := (nmEq_iff _ _).1 q0
    obtain rfl := ctsEq_eq _ _ q1
    obtain ⟨h1, rfl, rfl⟩ := trip_inj h
    exact r76 a1 b0 K h1
  · cases h

/-! ### 77 loop.example/g01984/laws.markPivotS -/
def F77_0 (t1 : Int) (t5 : Int) (h0 : List AV) : Out ((Int × Int × (List AV))) ((Int × (List AV))) := (bif decide (t5 < (h0.length : Int)) then (bif (decide (0 ≤ t5) && decide (t5 < (h0.length : Int))) then (bif (decide (0 ≤ t5) && decide (t5 < ((h0.set t5.toNat (AV.agg [AV.int .i64 t1, AV.int .i64 (fI (h0.getD t5.toNat AV.undef) 1)])).length : Int))) then .next (IntKind.i64.wrap (IntKind.i64.wrap (t1 + 1) + 1), IntKind.i64.wrap (t5 + 1), (h0.set t5.toNat (AV.agg [AV.int .i64 t1, AV.int .i64 (fI (h0.getD t5.toNat AV.undef) 1)])).set t5.toNat (AV.agg [AV.int .i64 (fI ((h0.set t5.toNat (AV.agg [AV.int .i64 t1, AV.int .i64 (fI (h0.getD t5.toNat AV.undef) 1)])).getD t5.toNat AV.undef) 0), AV.int .i64 (IntKind.i64.wrap (t1 + 1))]))
  else .fail)
  else .fail)
  else .stop (t1, h0))
def R77_0 : ((Int × Int × (List AV))) → Out ((Int × Int × (List AV))) ((Int × (List AV))) := fun s : Int × Int × (List AV) => F77_0 s.1 s.2.1 s.2.2
def l77_0 : LModel := fun _ _ st k => match st with
  | ⟨[(0, .own g0), (1, .int .i64 t1), (5, .int .i64 t5)], [(g1, ⟨false, g2, h0⟩)]⟩ => bif nmEq g0 ([1]) && nmEq g1 ([1]) && ctsEq g2 ([.int .i64, .int .i64]) then ro (runW (R77_0) (((h0.length : Int) - t5).toNat + 1) (t1, t5, h0)) none (fun p : Int × (List AV) => k (.exit 0) ⟨[(1, AV.int .i64 p.1)], [([1], ⟨false, [.int .i64, .int .i64], p.2⟩)]⟩) else none
  | _ => none
noncomputable def c77 : Cfg := cfg Tryd.prog [(77, 0, [0, 1, 5]), (77, 999, [4]), (77, 1000, [1]), (77, 1001, [0, 1, 5])] [] [] [] [(77, 0, l77_0)]
theorem s77_0 (ce : CallE) (t1 : Int) (t5 : Int) (h0 : List AV) (next : St → Option AV) (k : Kont) : stepA (codeA c77 ce [0] 77 0 (sub [1, 0, 1, 0, 0] (body Tryd.f77))) (normA [0] [0, 1, 5]) next ⟨[(0, AV.own [1]), (1, AV.int .i64 t1), (5, AV.int .i64 t5)], [([1], ⟨false, [.int .i64, .int .i64], h0⟩)]⟩ k = (bif decide (t5 < (h0.length : Int)) then (bif (decide (0 ≤ t5) && decide (t5 < (h0.length : Int))) then (bif (decide (0 ≤ t5) && decide (t5 < ((h0.set t5.toNat (AV.agg [AV.int .i64 t1, AV.int .i64 (fI (h0.getD t5.toNat AV.undef) 1)])).length : Int))) then next ⟨[(0, AV.own [1]), (1, AV.int .i64 (IntKind.i64.wrap (IntKind.i64.wrap (t1 + 1) + 1))), (5, AV.int .i64 (IntKind.i64.wrap (t5 + 1)))], [([1], ⟨false, [.int .i64, .int .i64], (h0.set t5.toNat (AV.agg [AV.int .i64 t1, AV.int .i64 (fI (h0.getD t5.toNat AV.undef) 1)])).set t5.toNat (AV.agg [AV.int .i64 (fI ((h0.set t5.toNat (AV.agg [AV.int .i64 t1, AV.int .i64 (fI (h0.getD t5.toNat AV.undef) 1)])).getD t5.toNat AV.undef) 0), AV.int .i64 (IntKind.i64.wrap (t1 + 1))])⟩)]⟩
  else none)
  else none)
  else k (.exit 0) ⟨[(1, AV.int .i64 t1)], [([1], ⟨false, [.int .i64, .int .i64], h0⟩)]⟩) := by kernel_rfl
theorem st77_0 (ce : CallE) (k : Kont) (s : (Int × Int × (List AV))) (next : St → Option AV) : stepA (codeA c77 ce [0] 77 0 (sub [1, 0, 1, 0, 0] (body Tryd.f77))) (normA [0] [0, 1, 5]) next ((fun s : Int × Int × (List AV) => ⟨[(0, AV.own [1]), (1, AV.int .i64 s.1), (5, AV.int .i64 s.2.1)], [([1], ⟨false, [.int .i64, .int .i64], s.2.2⟩)]⟩) s) k = (R77_0 s).el none (fun s => next ((fun s : Int × Int × (List AV) => ⟨[(0, AV.own [1]), (1, AV.int .i64 s.1), (5, AV.int .i64 s.2.1)], [([1], ⟨false, [.int .i64, .int .i64], s.2.2⟩)]⟩) s)) (fun p : Int × (List AV) => k (.exit 0) ⟨[(1, AV.int .i64 p.1)], [([1], ⟨false, [.int .i64, .int .i64], p.2⟩)]⟩) := (s77_0 ce s.1 s.2.1 s.2.2 next k).trans (by unfold R77_0; unfold F77_0; simp only [el_cond, el_ro, el_sum, el_fail, el_next, el_stop] <;> rfl)
theorem ok77_0 {ce : CallE} : LoopOK c77 ce [0] 77 0 (sub [1, 0, 1, 0, 0] (body Tryd.f77)) := by
  intro m hm st k r h
  obtain rfl : l77_0 = m := Option.some.inj hm
  unfold l77_0 at h
  split at h
  · rename_i g0 t1 t5 g1 g2 h0
    obtain ⟨hg, h⟩ := bif_some h
    simp only [Bool.and_eq_true] at hg
    obtain ⟨⟨q0, q1⟩, q2⟩ := hg
    obtain rfl := (nmEq_iff _ _).1 q0
    obtain rfl := (nmEq_iff _ _).1 q1
    obtain rfl := ctsEq_eq _ _ q2
    refine ⟨(((h0.length : Int) - t5).toNat + 1), ?_⟩
    rw [← h]
    exact loop_run (fun s : Int × Int × (List AV) => ⟨[(0, AV.own [1]), (1, AV.int .i64 s.1), (5, AV.int .i64 s.2.1)], [([1], ⟨false, [.int .i64, .int .i64], s.2.2⟩)]⟩) (fun p : Int × (List AV) => k (.exit 0) ⟨[(1, AV.int .i64 p.1)], [([1], ⟨false, [.int .i64, .int .i64], p.2⟩)]⟩) (st77_0 ce k) _ (t1, t5, h0)
  · cases h
def q77 (a1 : Int) (b0 : List AV) : Bool := (ro (runW (R77_0) (((b0.length : Int) - 0).toNat + 1) (a1, 0, b0)) false (fun p52 => true))
def v77_0 (a1 : Int) (b0 : List AV) : Int := (ro (runW (R77_0) (((b0.length : Int) - 0).toNat + 1) (a1, 0, b0)) 0 (fun p52 => p52.1))
def v77_1 (a1 : Int) (b0 : List AV) : List AV := (ro (runW (R77_0) (((b0.length : Int) - 0).toNat + 1) (a1, 0, b0)) [] (fun p52 => p52.2))
theorem e77 (a1 : Int) (b0 : List AV) (K : AV → List Blk → Option AV) : inlA c77 1 77 [AV.own [1], AV.int .i64 a1] [0] (canH 1 [⟨false, [.int .i64, .int .i64], b0⟩]) (keepB 1 K) = (ro (runW (R77_0) (((b0.length : Int) - 0).toNat + 1) (a1, 0, b0)) none (fun p52 => K (AV.int .i64 p52.1) [⟨false, [.int .i64, .int .i64], p52.2⟩])) := by kernel_rfl
theorem r77 (a1 : Int) (b0 : List AV) (K : AV → List Blk → Option AV) (h : q77 a1 b0 = true) : inlA c77 1 77 [AV.own [1], AV.int .i64 a1] [0] (canH 1 [⟨false, [.int .i64, .int .i64], b0⟩]) (keepB 1 K) = K (AV.int .i64 (v77_0 a1 b0)) [⟨false, [.int .i64, .int .i64], (v77_1 a1 b0)⟩] := (e77 a1 b0 K).trans ((brO (fun o : Option ((Int × (List AV))) => K (AV.int .i64 (ro o 0 (fun p52 => p52.1))) [⟨false, [.int .i64, .int .i64], (ro o [] (fun p52 => p52.2))⟩]) (fun p52 => (fun _ => rfl))) h)
def m77 : WModel
  | [.own g0, .int .i64 a1], [⟨false, g1, b0⟩] => bif nmEq g0 ([1]) && ctsEq g1 ([.int .i64, .int .i64]) then some (q77 a1 b0, AV.int .i64 (v77_0 a1 b0), [⟨false, [.int .i64, .int .i64], (v77_1 a1 b0)⟩]) else none
  | _, _ => none
theorem k77 : Known Tryd.prog 77 := ⟨Tryd.f77, Tryd.func77, by kernel_rfl, by kernel_rfl⟩
theorem meets77 : MeetsM Tryd.prog 77 m77 := by
  refine meetM (f := Tryd.f77) (l := [(0, sub [1, 0, 1, 0, 0] (body Tryd.f77))]) (hs := [(77, 0, [0, 1, 5]), (77, 999, [4]), (77, 1000, [1]), (77, 1001, [0, 1, 5])]) (ts := []) (ws := []) (is := []) (ls := [(77, 0, l77_0)]) (lvl := 0) mixed k77 Tryd.func77 (by kernel_rfl) (loops_cons ok77_0 noLoop) allT_nil allM_nil noI fun C w xs us bs r bs' hl hv hh h K => ?_
  unfold m77 at h
  split at h
  · rename_i g0 a1 g1 b0
    obtain ⟨hg, h⟩ := bif_pair h
    simp only [Bool.and_eq_true] at hg
    obtain ⟨q0, q1⟩ := hg
    obtain rfl := (nmEq_iff _ _).1 q0
    obtain rfl := ctsEq_eq _ _ q1
    obtain ⟨h1, rfl, rfl⟩ := trip_inj h
    exact r77 a1 b0 K h1
  · cases h

/-! ### 41 loop.example/g01984/laws.markCracker -/
noncomputable def c41 : Cfg := cfg Tryd.prog [(41, 999, [4])] [] [(76, m76), (77, m77)] [] []
def q41 (a1 : Int) (b0 : List AV) (b1 : List AV) (b2 : List AV) : Bool := (q76 a1 b0 && (q76 (v76_0 a1 b0) b1 && q77 (v76_0 (v76_0 a1 b0) b1) b2))
def v41_0 (a1 : Int) (b0 : List AV) (b1 : List AV) (b2 : List AV) : Int := (v77_0 (v76_0 (v76_0 a1 b0) b1) b2)
def v41_1 (a1 : Int) (b0 : List AV) (b1 : List AV) (b2 : List AV) : List AV := (v76_1 a1 b0)
def v41_2 (a1 : Int) (b0 : List AV) (b1 : List AV) (b2 : List AV) : List AV := (v76_1 (v76_0 a1 b0) b1)
def v41_3 (a1 : Int) (b0 : List AV) (b1 : List AV) (b2 : List AV) : List AV := (v77_1 (v76_0 (v76_0 a1 b0) b1) b2)
theorem e41 (a1 : Int) (b0 : List AV) (b1 : List AV) (b2 : List AV) (K : AV → List Blk → Option AV) : inlA c41 1 41 [AV.agg [AV.own [1], AV.own [2], AV.own [3]], AV.int .i64 a1] [0] (canH 1 [⟨false, [.int .i64], b0⟩, ⟨false, [.int .i64], b1⟩, ⟨false, [.int .i64, .int .i64], b2⟩]) (keepB 3 K) = (bif q76 a1 b0 then (bif q76 (v76_0 a1 b0) b1 then (bif q77 (v76_0 (v76_0 a1 b0) b1) b2 then K (AV.int .i64 (v77_0 (v76_0 (v76_0 a1 b0) b1) b2)) [⟨false, [.int .i64], (v76_1 a1 b0)⟩, ⟨false, [.int .i64], (v76_1 (v76_0 a1 b0) b1)⟩, ⟨false, [.int .i64, .int .i64], (v77_1 (v76_0 (v76_0 a1 b0) b1) b2)⟩]
  else none)
  else none)
  else none) := by kernel_rfl
theorem r41 (a1 : Int) (b0 : List AV) (b1 : List AV) (b2 : List AV) (K : AV → List Blk → Option AV) (h : q41 a1 b0 b1 b2 = true) : inlA c41 1 41 [AV.agg [AV.own [1], AV.own [2], AV.own [3]], AV.int .i64 a1] [0] (canH 1 [⟨false, [.int .i64], b0⟩, ⟨false, [.int .i64], b1⟩, ⟨false, [.int .i64, .int .i64], b2⟩]) (keepB 3 K) = K (AV.int .i64 (v41_0 a1 b0 b1 b2)) [⟨false, [.int .i64], (v41_1 a1 b0 b1 b2)⟩, ⟨false, [.int .i64], (v41_2 a1 b0 b1 b2)⟩, ⟨false, [.int .i64, .int .i64], (v41_3 a1 b0 b1 b2)⟩] := (e41 a1 b0 b1 b2 K).trans ((brL (brL (brL1 (fun _ => rfl)))) h)
def m41 : WModel
  | [.agg [.own g0, .own g1, .own g2], .int .i64 a1], [⟨false, g3, b0⟩, ⟨false, g4, b1⟩, ⟨false, g5, b2⟩] => bif nmEq g0 ([1]) && nmEq g1 ([2]) && nmEq g2 ([3]) && ctsEq g3 ([.int .i64]) && ctsEq g4 ([.int .i64]) && ctsEq g5 ([.int .i64, .int .i64]) then some (q41 a1 b0 b1 b2, AV.int .i64 (v41_0 a1 b0 b1 b2), [⟨false, [.int .i64], (v41_1 a1 b0 b1 b2)⟩, ⟨false, [.int .i64], (v41_2 a1 b0 b1 b2)⟩, ⟨false, [.int .i64, .int .i64], (v41_3 a1 b0 b1 b2)⟩]) else none
  | _, _ => none
theorem k41 : Known Tryd.prog 41 := ⟨Tryd.f41, Tryd.func41, by kernel_rfl, by kernel_rfl⟩
theorem meets41 : MeetsM Tryd.prog 41 m41 := by
  refine meetM (f := Tryd.f41) (l := []) (hs := [(41, 999, [4])]) (ts := []) (ws := [(76, m76), (77, m77)]) (is := []) (ls := []) (lvl := 0) mixed k41 Tryd.func41 (by kernel_rfl) noLoop allT_nil (allM_cons meets76 (allM_cons meets77 allM_nil)) noI fun C w xs us bs r bs' hl hv hh h K => ?_
  unfold m41 at h
  split at h
  · rename_i g0 g1 g2 a1 g3 b0 g4 b1 g5 b2
    obtain ⟨hg, h⟩ := bif_pair h
    simp only [Bool.and_eq_true] at hg
    obtain ⟨⟨⟨⟨⟨q0, q1⟩, q2⟩, q3⟩, q4⟩, q5⟩ := hg
    obtain rfl := (nmEq_iff _ _).1 q0
    obtain rfl := (nmEq_iff _ _).1 q1
    obtain rfl := (nmEq_iff _ _).1 q2
    obtain rfl := ctsEq_eq _ _ q3
    obtain rfl := ctsEq_eq _ _ q4
    obtain rfl := ctsEq_eq _ _ q5
    obtain ⟨h1, rfl, rfl⟩ := trip_inj h
    exact r41 a1 b0 b1 b2 K h1
  · cases h

/-! ### 61 loop.example/g01984/laws.markText -/
def F61_0 (t0 : Int) (t3 : ByteArray) : Out ((Int × ByteArray)) (ByteArray) := (bif decide (t0 > 0) then (bif !decide (10 = 0) then (bif decide ((bytesA ([AV.int .u8 (IntKind.u8.wrap (IntKind.i64.wrap (48 + Int.tmod t0 10)))])).size + t3.size ≤ 4611686018427387904) then (bif !decide (10 = 0) then .next (IntKind.i64.wrap (Int.tdiv t0 10), (bytesA ([AV.int .u8 (IntKind.u8.wrap (IntKind.i64.wrap (48 + Int.tmod t0 10)))])) ++ t3)
  else .fail)
  else .fail)
  else .fail)
  else .stop t3)
def R61_0 : ((Int × ByteArray)) → Out ((Int × ByteArray)) (ByteArray) := fun s : Int × ByteArray => F61_0 s.1 s.2
def l61_0 : LModel := fun _ _ st k => match st with
  | ⟨[(0, .int .i64 t0), (3, .str t3)], []⟩ => ro (runW (R61_0) ((t0 - 0).toNat + 1) (t0, t3)) none (fun p : ByteArray => k (.exit 0) ⟨[(3, AV.str p)], []⟩)
  | _ => none
noncomputable def c61 : Cfg := cfg Tryd.prog [(61, 0, [0, 3]), (61, 999, [2]), (61, 1000, [3]), (61, 1001, [0, 3])] [] [] [] [(61, 0, l61_0)]
theorem s61_0 (ce : CallE) (t0 : Int) (t3 : ByteArray) (next : St → Option AV) (k : Kont) : stepA (codeA c61 ce [0] 61 0 (sub [1, 1, 1, 0, 0, 0] (body Tryd.f61))) (normA [0] [0, 3]) next ⟨[(0, AV.int .i64 t0), (3, AV.str t3)], []⟩ k = (bif decide (t0 > 0) then (bif !decide (10 = 0) then (bif decide ((bytesA ([AV.int .u8 (IntKind.u8.wrap (IntKind.i64.wrap (48 + Int.tmod t0 10)))])).size + t3.size ≤ 4611686018427387904) then (bif !decide (10 = 0) then next ⟨[(0, AV.int .i64 (IntKind.i64.wrap (Int.tdiv t0 10))), (3, AV.str ((bytesA ([AV.int .u8 (IntKind.u8.wrap (IntKind.i64.wrap (48 + Int.tmod t0 10)))])) ++ t3))], []⟩
  else none)
  else none)
  else none)
  else k (.exit 0) ⟨[(3, AV.str t3)], []⟩) := by kernel_rfl
theorem st61_0 (ce : CallE) (k : Kont) (s : (Int × ByteArray)) (next : St → Option AV) : stepA (codeA c61 ce [0] 61 0 (sub [1, 1, 1, 0, 0, 0] (body Tryd.f61))) (normA [0] [0, 3]) next ((fun s : Int × ByteArray => ⟨[(0, AV.int .i64 s.1), (3, AV.str s.2)], []⟩) s) k = (R61_0 s).el none (fun s => next ((fun s : Int × ByteArray => ⟨[(0, AV.int .i64 s.1), (3, AV.str s.2)], []⟩) s)) (fun p : ByteArray => k (.exit 0) ⟨[(3, AV.str p)], []⟩) := (s61_0 ce s.1 s.2 next k).trans (by unfold R61_0; unfold F61_0; simp only [el_cond, el_ro, el_sum, el_fail, el_next, el_stop] <;> rfl)
theorem ok61_0 {ce : CallE} : LoopOK c61 ce [0] 61 0 (sub [1, 1, 1, 0, 0, 0] (body Tryd.f61)) := by
  intro m hm st k r h
  obtain rfl : l61_0 = m := Option.some.inj hm
  unfold l61_0 at h
  split at h
  · rename_i t0 t3
    refine ⟨((t0 - 0).toNat + 1), ?_⟩
    rw [← h]
    exact loop_run (fun s : Int × ByteArray => ⟨[(0, AV.int .i64 s.1), (3, AV.str s.2)], []⟩) (fun p : ByteArray => k (.exit 0) ⟨[(3, AV.str p)], []⟩) (st61_0 ce k) _ (t0, t3)
  · cases h
def q61 (a0 : Int) : Bool := (bif decide (a0 ≤ 0) then true else (ro (runW (R61_0) ((a0 - 0).toNat + 1) (a0, ByteArray.empty)) false (fun p53 => decide ((ByteArray.mk #[109]).size + p53.size ≤ 4611686018427387904))))
def v61_0 (a0 : Int) : ByteArray := (bif decide (a0 ≤ 0) then (ByteArray.mk #[109, 48]) else (ro (runW (R61_0) ((a0 - 0).toNat + 1) (a0, ByteArray.empty)) ByteArray.empty (fun p53 => (ByteArray.mk #[109]) ++ p53)))
theorem e61 (a0 : Int) (K : AV → List Blk → Option AV) : inlA c61 1 61 [AV.int .i64 a0] [0] (canH 1 []) (keepB 0 K) = (bif decide (a0 ≤ 0) then K (AV.str (ByteArray.mk #[109, 48])) []
  else (ro (runW (R61_0) ((a0 - 0).toNat + 1) (a0, ByteArray.empty)) none (fun p53 => (bif decide ((ByteArray.mk #[109]).size + p53.size ≤ 4611686018427387904) then K (AV.str ((ByteArray.mk #[109]) ++ p53)) []
  else none)))) := by kernel_rfl
theorem r61 (a0 : Int) (K : AV → List Blk → Option AV) (h : q61 a0 = true) : inlA c61 1 61 [AV.int .i64 a0] [0] (canH 1 []) (keepB 0 K) = K (AV.str (v61_0 a0)) [] := (e61 a0 K).trans ((br (fun b => K (AV.str (bif b then (ByteArray.mk #[109, 48]) else (ro (runW (R61_0) ((a0 - 0).toNat + 1) (a0, ByteArray.empty)) ByteArray.empty (fun p53 => (ByteArray.mk #[109]) ++ p53)))) []) (fun _ => rfl) (brO (fun o : Option (ByteArray) => K (AV.str (ro o ByteArray.empty (fun p53 => (ByteArray.mk #[109]) ++ p53))) []) (fun p53 => (brL1 (fun _ => rfl))))) h)
def m61 : WModel
  | [.int .i64 a0], [] => some (q61 a0, AV.str (v61_0 a0), [])
  | _, _ => none
theorem k61 : Known Tryd.prog 61 := ⟨Tryd.f61, Tryd.func61, by kernel_rfl, by kernel_rfl⟩
theorem meets61 : MeetsM Tryd.prog 61 m61 := by
  refine meetM (f := Tryd.f61) (l := [(0, sub [1, 1, 1, 0, 0, 0] (body Tryd.f61))]) (hs := [(61, 0, [0, 3]), (61, 999, [2]), (61, 1000, [3]), (61, 1001, [0, 3])]) (ts := []) (ws := []) (is := []) (ls := [(61, 0, l61_0)]) (lvl := 0) mixed k61 Tryd.func61 (by kernel_rfl) (loops_cons ok61_0 noLoop) allT_nil allM_nil noI fun C w xs us bs r bs' hl hv hh h K => ?_
  unfold m61 at h
  split at h
  · rename_i a0
    obtain ⟨h1, rfl, rfl⟩ := trip_inj h
    exact r61 a0 K h1
  · cases h

/-! ### 32 loop.example/g01984/laws.markStringS -/
def F32_0 (t1 : Int) (t5 : Int) (h0 : List AV) : Out ((Int × Int × (List AV))) ((Int × (List AV))) := (bif decide (t5 < (h0.length : Int)) then (bif q61 t1 then (bif (decide (0 ≤ t5) && decide (t5 < (h0.length : Int))) then .next (IntKind.i64.wrap (t1 + 1), IntKind.i64.wrap (t5 + 1), h0.set t5.toNat (AV.agg [AV.str (v61_0 t1)]))
  else .fail)
  else .fail)
  else .stop (t1, h0))
def R32_0 : ((Int × Int × (List AV))) → Out ((Int × Int × (List AV))) ((Int × (List AV))) := fun s : Int × Int × (List AV) => F32_0 s.1 s.2.1 s.2.2
def l32_0 : LModel := fun _ _ st k => match st with
  | ⟨[(0, .own g0), (1, .int .i64 t1), (5, .int .i64 t5)], [(g1, ⟨false, g2, h0⟩)]⟩ => bif nmEq g0 ([1]) && nmEq g1 ([1]) && ctsEq g2 ([.str]) then ro (runW (R32_0) (((h0.length : Int) - t5).toNat + 1) (t1, t5, h0)) none (fun p : Int × (List AV) => k (.exit 0) ⟨[(1, AV.int .i64 p.1)], [([1], ⟨false, [.str], p.2⟩)]⟩) else none
  | _ => none
noncomputable def c32 : Cfg := cfg Tryd.prog [(32, 0, [0, 1, 5]), (32, 999, [4]), (32, 1000, [1]), (32, 1001, [0, 1, 5])] [] [(61, m61)] [] [(32, 0, l32_0)]
theorem s32_0 (ce : CallE) (t1 : Int) (t5 : Int) (h0 : List AV) (next : St → Option AV) (k : Kont) : stepA (codeA c32 ce [0] 32 0 (sub [1, 0, 1, 0, 0] (body Tryd.f32))) (normA [0] [0, 1, 5]) next ⟨[(0, AV.own [1]), (1, AV.int .i64 t1), (5, AV.int .i64 t5)], [([1], ⟨false, [.str], h0⟩)]⟩ k = (bif decide (t5 < (h0.length : Int)) then (bif q61 t1 then (bif (decide (0 ≤ t5) && decide (t5 < (h0.length : Int))) then next ⟨[(0, AV.own [1]), (1, AV.int .i64 (IntKind.i64.wrap (t1 + 1))), (5, AV.int .i64 (IntKind.i64.wrap (t5 + 1)))], [([1], ⟨false, [.str], h0.set t5.toNat (AV.agg [AV.str (v61_0 t1)])⟩)]⟩
  else none)
  else none)
  else k (.exit 0) ⟨[(1, AV.int .i64 t1)], [([1], ⟨false, [.str], h0⟩)]⟩) := by kernel_rfl
theorem st32_0 (ce : CallE) (k : Kont) (s : (Int × Int × (List AV))) (next : St → Option AV) : stepA (codeA c32 ce [0] 32 0 (sub [1, 0, 1, 0, 0] (body Tryd.f32))) (normA [0] [0, 1, 5]) next ((fun s : Int × Int × (List AV) => ⟨[(0, AV.own [1]), (1, AV.int .i64 s.1), (5, AV.int .i64 s.2.1)], [([1], ⟨false, [.str], s.2.2⟩)]⟩) s) k = (R32_0 s).el none (fun s => next ((fun s : Int × Int × (List AV) => ⟨[(0, AV.own [1]), (1, AV.int .i64 s.1), (5, AV.int .i64 s.2.1)], [([1], ⟨false, [.str], s.2.2⟩)]⟩) s)) (fun p : Int × (List AV) => k (.exit 0) ⟨[(1, AV.int .i64 p.1)], [([1], ⟨false, [.str], p.2⟩)]⟩) := (s32_0 ce s.1 s.2.1 s.2.2 next k).trans (by unfold R32_0; unfold F32_0; simp only [el_cond, el_ro, el_sum, el_fail, el_next, el_stop] <;> rfl)
theorem ok32_0 {ce : CallE} : LoopOK c32 ce [0] 32 0 (sub [1, 0, 1, 0, 0] (body Tryd.f32)) := by
  intro m hm st k r h
  obtain rfl : l32_0 = m := Option.some.inj hm
  unfold l32_0 at h
  split at h
  · rename_i g0 t1 t5 g1 g2 h0
    obtain ⟨hg, h⟩ := bif_some h
    simp only [Bool.and_eq_true] at hg
    obtain ⟨⟨q0, q1⟩, q2⟩ := hg
    obtain rfl := (nmEq_iff _ _).1 q0
    obtain rfl := (nmEq_iff _ _).1 q1
    obtain rfl := ctsEq_eq _ _ q2
    refine ⟨(((h0.length : Int) - t5).toNat + 1), ?_⟩
    rw [← h]
    exact loop_run (fun s : Int × Int × (List AV) => ⟨[(0, AV.own [1]), (1, AV.int .i64 s.1), (5, AV.int .i64 s.2.1)], [([1], ⟨false, [.str], s.2.2⟩)]⟩) (fun p : Int × (List AV) => k (.exit 0) ⟨[(1, AV.int .i64 p.1)], [([1], ⟨false, [.str], p.2⟩)]⟩) (st32_0 ce k) _ (t1, t5, h0)
  · cases h
def q32 (a1 : Int) (b0 : List AV) : Bool := (ro (runW (R32_0) (((b0.length : Int) - 0).toNat + 1) (a1, 0, b0)) false (fun p54 => true))
def v32_0 (a1 : Int) (b0 : List AV) : Int := (ro (runW (R32_0) (((b0.length : Int) - 0).toNat + 1) (a1, 0, b0)) 0 (fun p54 => p54.1))
def v32_1 (a1 : Int) (b0 : List AV) : List AV := (ro (runW (R32_0) (((b0.length : Int) - 0).toNat + 1) (a1, 0, b0)) [] (fun p54 => p54.2))
theorem e32 (a1 : Int) (b0 : List AV) (K : AV → List Blk → Option AV) : inlA c32 1 32 [AV.own [1], AV.int .i64 a1] [0] (canH 1 [⟨false, [.str], b0⟩]) (keepB 1 K) = (ro (runW (R32_0) (((b0.length : Int) - 0).toNat + 1) (a1, 0, b0)) none (fun p54 => K (AV.int .i64 p54.1) [⟨false, [.str], p54.2⟩])) := by kernel_rfl
theorem r32 (a1 : Int) (b0 : List AV) (K : AV → List Blk → Option AV) (h : q32 a1 b0 = true) : inlA c32 1 32 [AV.own [1], AV.int .i64 a1] [0] (canH 1 [⟨false, [.str], b0⟩]) (keepB 1 K) = K (AV.int .i64 (v32_0 a1 b0)) [⟨false, [.str], (v32_1 a1 b0)⟩] := (e32 a1 b0 K).trans ((brO (fun o : Option ((Int × (List AV))) => K (AV.int .i64 (ro o 0 (fun p54 => p54.1))) [⟨false, [.str], (ro o [] (fun p54 => p54.2))⟩]) (fun p54 => (fun _ => rfl))) h)
def m32 : WModel
  | [.own g0, .int .i64 a1], [⟨false, g1, b0⟩] => bif nmEq g0 ([1]) && ctsEq g1 ([.str]) then some (q32 a1 b0, AV.int .i64 (v32_0 a1 b0), [⟨false, [.str], (v32_1 a1 b0)⟩]) else none
  | _, _ => none
theorem k32 : Known Tryd.prog 32 := ⟨Tryd.f32, Tryd.func32, by kernel_rfl, by kernel_rfl⟩
theorem meets32 : MeetsM Tryd.prog 32 m32 := by
  refine meetM (f := Tryd.f32) (l := [(0, sub [1, 0, 1, 0, 0] (body Tryd.f32))]) (hs := [(32, 0, [0, 1, 5]), (32, 999, [4]), (32, 1000, [1]), (32, 1001, [0, 1, 5])]) (ts := []) (ws := [(61, m61)]) (is := []) (ls := [(32, 0, l32_0)]) (lvl := 0) mixed k32 Tryd.func32 (by kernel_rfl) (loops_cons ok32_0 noLoop) allT_nil (allM_cons meets61 allM_nil) noI fun C w xs us bs r bs' hl hv hh h K => ?_
  unfold m32 at h
  split at h
  · rename_i g0 a1 g1 b0
    obtain ⟨hg, h⟩ := bif_pair h
    simp only [Bool.and_eq_true] at hg
    obtain ⟨q0, q1⟩ := hg
    obtain rfl := (nmEq_iff _ _).1 q0
    obtain rfl := ctsEq_eq _ _ q1
    obtain ⟨h1, rfl, rfl⟩ := trip_inj h
    exact r32 a1 b0 K h1
  · cases h

/-! ### 33 loop.example/g01984/laws.heldStringS -/
def F33_0 (t0 : List AV) (t1 : Int) (t5 : Int) : Out ((Int × Int)) (Int ⊕ Unit) := (bif decide (t5 < (t0.length : Int)) then (bif (decide (0 ≤ t5) && decide (t5 < (t0.length : Int))) then (bif q61 t1 then (bif !((fS (t0.getD t5.toNat AV.undef) 0).toList == (v61_0 t1).toList) then .stop (.inr ())
  else .next (IntKind.i64.wrap (t1 + 1), IntKind.i64.wrap (t5 + 1)))
  else .fail)
  else .fail)
  else .stop (.inl t1))
def R33_0 (t0 : List AV) : ((Int × Int)) → Out ((Int × Int)) (Int ⊕ Unit) := fun s : Int × Int => F33_0 t0 s.1 s.2
def l33_0 : LModel := fun _ _ st k => match st with
  | ⟨[(0, .sl g0 t0), (1, .int .i64 t1), (5, .int .i64 t5)], []⟩ => bif ctsEq g0 ([.str]) then ro (runW (R33_0 t0) (((t0.length : Int) - t5).toNat + 1) (t1, t5)) none (sumE (fun p : Int => k (.exit 0) ⟨[(1, AV.int .i64 p)], []⟩) (fun _ : Unit => k .ret ⟨[(4, AV.int .i64 (-1))], []⟩)) else none
  | _ => none
noncomputable def c33 : Cfg := cfg Tryd.prog [(33, 0, [0, 1, 5]), (33, 999, [4]), (33, 1000, [1]), (33, 1001, [0, 1, 5])] [] [(61, m61)] [] [(33, 0, l33_0)]
theorem s33_0 (ce : CallE) (t0 : List AV) (t1 : Int) (t5 : Int) (next : St → Option AV) (k : Kont) : stepA (codeA c33 ce [] 33 0 (sub [1, 0, 1, 0, 0] (body Tryd.f33))) (normA [] [0, 1, 5]) next ⟨[(0, AV.sl [.str] t0), (1, AV.int .i64 t1), (5, AV.int .i64 t5)], []⟩ k = (bif decide (t5 < (t0.length : Int)) then (bif (decide (0 ≤ t5) && decide (t5 < (t0.length : Int))) then (bif q61 t1 then (bif !((fS (t0.getD t5.toNat AV.undef) 0).toList == (v61_0 t1).toList) then k .ret ⟨[(4, AV.int .i64 (-1))], []⟩
  else next ⟨[(0, AV.sl [.str] t0), (1, AV.int .i64 (IntKind.i64.wrap (t1 + 1))), (5, AV.int .i64 (IntKind.i64.wrap (t5 + 1)))], []⟩)
  else none)
  else none)
  else k (.exit 0) ⟨[(1, AV.int .i64 t1)], []⟩) := by kernel_rfl
theorem st33_0 (t0 : List AV) (ce : CallE) (k : Kont) (s : (Int × Int)) (next : St → Option AV) : stepA (codeA c33 ce [] 33 0 (sub [1, 0, 1, 0, 0] (body Tryd.f33))) (normA [] [0, 1, 5]) next ((fun s : Int × Int => ⟨[(0, AV.sl [.str] t0), (1, AV.int .i64 s.1), (5, AV.int .i64 s.2)], []⟩) s) k = (R33_0 t0 s).el none (fun s => next ((fun s : Int × Int => ⟨[(0, AV.sl [.str] t0), (1, AV.int .i64 s.1), (5, AV.int .i64 s.2)], []⟩) s)) (sumE (fun p : Int => k (.exit 0) ⟨[(1, AV.int .i64 p)], []⟩) (fun _ : Unit => k .ret ⟨[(4, AV.int .i64 (-1))], []⟩)) := (s33_0 ce t0 s.1 s.2 next k).trans (by unfold R33_0; unfold F33_0; simp only [el_cond, el_ro, el_sum, el_fail, el_next, el_stop] <;> rfl)
theorem ok33_0 {ce : CallE} : LoopOK c33 ce [] 33 0 (sub [1, 0, 1, 0, 0] (body Tryd.f33)) := by
  intro m hm st k r h
  obtain rfl : l33_0 = m := Option.some.inj hm
  unfold l33_0 at h
  split at h
  · rename_i g0 t0 t1 t5
    obtain ⟨hg, h⟩ := bif_some h
    have q0 := hg
    obtain rfl := ctsEq_eq _ _ q0
    refine ⟨(((t0.length : Int) - t5).toNat + 1), ?_⟩
    rw [← h]
    exact loop_run (fun s : Int × Int => ⟨[(0, AV.sl [.str] t0), (1, AV.int .i64 s.1), (5, AV.int .i64 s.2)], []⟩) (sumE (fun p : Int => k (.exit 0) ⟨[(1, AV.int .i64 p)], []⟩) (fun _ : Unit => k .ret ⟨[(4, AV.int .i64 (-1))], []⟩)) (st33_0 t0 ce k) _ (t1, t5)
  · cases h
def q33 (a0 : List AV) (a1 : Int) : Bool := (ro (runW (R33_0 a0) (((a0.length : Int) - 0).toNat + 1) (a1, 0)) false (sumE (fun p55 => true) (fun _ => true)))
def v33_0 (a0 : List AV) (a1 : Int) : Int := (ro (runW (R33_0 a0) (((a0.length : Int) - 0).toNat + 1) (a1, 0)) 0 (sumE (fun p55 => p55) (fun _ => (-1))))
theorem e33 (a0 : List AV) (a1 : Int) : funA c33 0 33 [AV.sl [.str] a0, AV.int .i64 a1] = (ro (runW (R33_0 a0) (((a0.length : Int) - 0).toNat + 1) (a1, 0)) none (sumE (fun p55 => some (AV.int .i64 p55)) (fun _ => some (AV.int .i64 (-1))))) := by kernel_rfl
theorem r33 (a0 : List AV) (a1 : Int) (h : q33 a0 a1 = true) : funA c33 0 33 [AV.sl [.str] a0, AV.int .i64 a1] = some (AV.int .i64 (v33_0 a0 a1)) := (e33 a0 a1).trans ((brO (fun o : Option (Int ⊕ Unit) => some (AV.int .i64 (ro o 0 (sumE (fun p55 => p55) (fun _ => (-1)))))) (brS (fun o : Int ⊕ Unit => some (AV.int .i64 ((sumE (fun p55 => p55) (fun _ => (-1))) o))) (fun p55 => (fun _ => rfl)) (fun _ => (fun _ => rfl)))) h)
def m33 : TModel
  | [.sl g0 a0, .int .i64 a1] => bif ctsEq g0 ([.str]) then some (q33 a0 a1, AV.int .i64 (v33_0 a0 a1)) else none
  | _ => none
theorem k33 : Known Tryd.prog 33 := ⟨Tryd.f33, Tryd.func33, by kernel_rfl, by kernel_rfl⟩
theorem meets33 : Meets Tryd.prog 33 m33 := by
  refine meet (f := Tryd.f33) (l := [(0, sub [1, 0, 1, 0, 0] (body Tryd.f33))]) (hs := [(33, 0, [0, 1, 5]), (33, 999, [4]), (33, 1000, [1]), (33, 1001, [0, 1, 5])]) (ts := []) (ws := [(61, m61)]) (is := []) (ls := [(33, 0, l33_0)]) (lvl := 0) mixed k33 Tryd.func33 (by kernel_rfl) (loops_cons ok33_0 noLoop) allT_nil (allM_cons meets61 allM_nil) noI fun w xs us r hl hv h => ?_
  unfold m33 at h
  split at h
  · rename_i g0 a0 a1
    obtain ⟨hg, h⟩ := bif_pair h
    have q0 := hg
    obtain rfl := ctsEq_eq _ _ q0
    obtain ⟨h1, rfl⟩ := pair_inj h
    exact r33 a0 a1 h1
  · cases h

/-! ### 9 loop.example/g01984/laws.FnExactPieceLines -/
noncomputable def c9 : Cfg := cfg Tryd.prog [(9, 999, [2])] [(29, m29), (33, m33), (34, m34), (36, m36), (38, m38), (39, m39), (40, m40)] [(32, m32), (41, m41)] [] []
def raw9 (a0_0 : List AV) (a0_1 : List AV) (a0_2 : List AV) : Option AV := (bif decide ((v34_0 a0_0 a0_1 a0_2 1048576) < 0) then some (AV.bool true)
  else (bif q36 a0_0 a0_1 a0_2 then (bif q39 (v36_0 a0_0 a0_1 a0_2) (v36_1 a0_0 a0_1 a0_2) (v36_2 a0_0 a0_1 a0_2) then (bif q36 a0_0 a0_1 a0_2 then (bif q40 (v36_0 a0_0 a0_1 a0_2) (v36_1 a0_0 a0_1 a0_2) (v36_2 a0_0 a0_1 a0_2) then (bif q29 (v40_0 (v36_0 a0_0 a0_1 a0_2) (v36_1 a0_0 a0_1 a0_2) (v36_2 a0_0 a0_1 a0_2)) (v39_0 (v36_0 a0_0 a0_1 a0_2) (v36_1 a0_0 a0_1 a0_2) (v36_2 a0_0 a0_1 a0_2)) then (bif !(v29_0 (v40_0 (v36_0 a0_0 a0_1 a0_2) (v36_1 a0_0 a0_1 a0_2) (v36_2 a0_0 a0_1 a0_2)) (v39_0 (v36_0 a0_0 a0_1 a0_2) (v36_1 a0_0 a0_1 a0_2) (v36_2 a0_0 a0_1 a0_2))) then some (AV.bool false)
  else (bif q36 a0_0 a0_1 a0_2 then (bif q38 (v36_0 a0_0 a0_1 a0_2) (v36_1 a0_0 a0_1 a0_2) (v36_2 a0_0 a0_1 a0_2) (v36_0 a0_0 a0_1 a0_2) (v36_1 a0_0 a0_1 a0_2) (v36_2 a0_0 a0_1 a0_2) then (bif !(v38_0 (v36_0 a0_0 a0_1 a0_2) (v36_1 a0_0 a0_1 a0_2) (v36_2 a0_0 a0_1 a0_2) (v36_0 a0_0 a0_1 a0_2) (v36_1 a0_0 a0_1 a0_2) (v36_2 a0_0 a0_1 a0_2)) then some (AV.bool false)
  else (bif q41 1 (v36_0 a0_0 a0_1 a0_2) (v36_1 a0_0 a0_1 a0_2) (v36_2 a0_0 a0_1 a0_2) then (bif decide ((v41_0 1 (v36_0 a0_0 a0_1 a0_2) (v36_1 a0_0 a0_1 a0_2) (v36_2 a0_0 a0_1 a0_2)) < 0) then some (AV.bool false)
  else (bif q29 (v40_0 (v36_0 a0_0 a0_1 a0_2) (v36_1 a0_0 a0_1 a0_2) (v36_2 a0_0 a0_1 a0_2)) (v39_0 (v36_0 a0_0 a0_1 a0_2) (v36_1 a0_0 a0_1 a0_2) (v36_2 a0_0 a0_1 a0_2)) then (bif !(v29_0 (v40_0 (v36_0 a0_0 a0_1 a0_2) (v36_1 a0_0 a0_1 a0_2) (v36_2 a0_0 a0_1 a0_2)) (v39_0 (v36_0 a0_0 a0_1 a0_2) (v36_1 a0_0 a0_1 a0_2) (v36_2 a0_0 a0_1 a0_2))) then some (AV.bool false)
  else (bif q32 1 (v40_0 (v36_0 a0_0 a0_1 a0_2) (v36_1 a0_0 a0_1 a0_2) (v36_2 a0_0 a0_1 a0_2)) then (bif q33 (v32_1 1 (v40_0 (v36_0 a0_0 a0_1 a0_2) (v36_1 a0_0 a0_1 a0_2) (v36_2 a0_0 a0_1 a0_2))) 1 then (bif decide ((v33_0 (v32_1 1 (v40_0 (v36_0 a0_0 a0_1 a0_2) (v36_1 a0_0 a0_1 a0_2) (v36_2 a0_0 a0_1 a0_2))) 1) < 0) then some (AV.bool false)
  else (bif !decide ((v33_0 (v32_1 1 (v40_0 (v36_0 a0_0 a0_1 a0_2) (v36_1 a0_0 a0_1 a0_2) (v36_2 a0_0 a0_1 a0_2))) 1) = (v32_0 1 (v40_0 (v36_0 a0_0 a0_1 a0_2) (v36_1 a0_0 a0_1 a0_2) (v36_2 a0_0 a0_1 a0_2)))) then some (AV.bool false)
  else (bif q36 a0_0 a0_1 a0_2 then (bif q40 (v36_0 a0_0 a0_1 a0_2) (v36_1 a0_0 a0_1 a0_2) (v36_2 a0_0 a0_1 a0_2) then (bif q29 (v40_0 (v36_0 a0_0 a0_1 a0_2) (v36_1 a0_0 a0_1 a0_2) (v36_2 a0_0 a0_1 a0_2)) (v39_0 (v36_0 a0_0 a0_1 a0_2) (v36_1 a0_0 a0_1 a0_2) (v36_2 a0_0 a0_1 a0_2)) then (bif !(v29_0 (v40_0 (v36_0 a0_0 a0_1 a0_2) (v36_1 a0_0 a0_1 a0_2) (v36_2 a0_0 a0_1 a0_2)) (v39_0 (v36_0 a0_0 a0_1 a0_2) (v36_1 a0_0 a0_1 a0_2) (v36_2 a0_0 a0_1 a0_2))) then some (AV.bool false)
  else (bif q33 (v32_1 1 (v40_0 (v36_0 a0_0 a0_1 a0_2) (v36_1 a0_0 a0_1 a0_2) (v36_2 a0_0 a0_1 a0_2))) 1 then (bif decide ((v33_0 (v32_1 1 (v40_0 (v36_0 a0_0 a0_1 a0_2) (v36_1 a0_0 a0_1 a0_2) (v36_2 a0_0 a0_1 a0_2))) 1) < 0) then some (AV.bool false)
  else (bif !decide ((v33_0 (v32_1 1 (v40_0 (v36_0 a0_0 a0_1 a0_2) (v36_1 a0_0 a0_1 a0_2) (v36_2 a0_0 a0_1 a0_2))) 1) = (v32_0 1 (v40_0 (v36_0 a0_0 a0_1 a0_2) (v36_1 a0_0 a0_1 a0_2) (v36_2 a0_0 a0_1 a0_2)))) then some (AV.bool false)
  else some (AV.bool true)))
  else none))
  else none)
  else none)
  else none)))
  else none)
  else none))
  else none))
  else none))
  else none)
  else none))
  else none)
  else none)
  else none)
  else none)
  else none))
theorem e9 (a0_0 : List AV) (a0_1 : List AV) (a0_2 : List AV) : funA c9 0 9 [AV.agg [AV.sl [.int .i64] a0_0, AV.sl [.int .i64] a0_1, AV.sl [.int .i64, .int .i64] a0_2]] = raw9 a0_0 a0_1 a0_2 := by kernel_rfl
def m9 : TModel
  | [.agg [.sl g0 a0_0, .sl g1 a0_1, .sl g2 a0_2]] => bif ctsEq g0 ([.int .i64]) && ctsEq g1 ([.int .i64]) && ctsEq g2 ([.int .i64, .int .i64]) then (raw9 a0_0 a0_1 a0_2).map fun r => (true, r) else none
  | _ => none
theorem k9 : Known Tryd.prog 9 := ⟨Tryd.f9, Tryd.func9, by kernel_rfl, by kernel_rfl⟩
theorem meets9 : Meets Tryd.prog 9 m9 := by
  refine meet (f := Tryd.f9) (l := []) (hs := [(9, 999, [2])]) (ts := [(29, m29), (33, m33), (34, m34), (36, m36), (38, m38), (39, m39), (40, m40)]) (ws := [(32, m32), (41, m41)]) (is := []) (ls := []) (lvl := 0) mixed k9 Tryd.func9 (by kernel_rfl) noLoop (allT_cons meets29 (allT_cons meets33 (allT_cons meets34 (allT_cons meets36 (allT_cons meets38 (allT_cons meets39 (allT_cons meets40 allT_nil))))))) (allM_cons meets32 (allM_cons meets41 allM_nil)) noI fun w xs us r hl hv h => ?_
  unfold m9 at h
  split at h
  · rename_i g0 a0_0 g1 a0_1 g2 a0_2
    obtain ⟨hg, h⟩ := bif_pair h
    simp only [Bool.and_eq_true] at hg
    obtain ⟨⟨q0, q1⟩, q2⟩ := hg
    obtain rfl := ctsEq_eq _ _ q0
    obtain rfl := ctsEq_eq _ _ q1
    obtain rfl := ctsEq_eq _ _ q2
    obtain ⟨r', h1, h2⟩ := Option.map_eq_some_iff.1 h
    obtain ⟨_, rfl⟩ := Prod.mk.inj h2
    exact (e9 a0_0 a0_1 a0_2).trans h1
  · cases h
end Go.Proofs.YtiokajbmckcklaaDoor
