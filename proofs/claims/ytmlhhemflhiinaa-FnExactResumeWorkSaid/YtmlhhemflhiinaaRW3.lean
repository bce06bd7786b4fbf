/- The walk of what this claim reaches: printed by a program, each equation checked by the kernel. -/
import Derived.Test.YtmlhhemflhiinaaRW2
import Derived.Test.YtmlhhemflhiinaaProg
import Derived.KernelRfl
namespace Go.Proofs.Ytmlhhemflhiinaa
open Go Go.Proofs.VE
set_option linter.unusedVariables false
set_option linter.unusedSimpArgs false
set_option maxRecDepth 100000
set_option maxHeartbeats 4000000
/-! ### 77 slices.Index[[]int,int] -/
def F77_0 (t0 : List AV) (t1 : Int) (t7 : Int) (t8 : Int) : Out (Int) (Unit ⊕ Int) := (bif decide (t8 < t7) then (bif (decide (0 ≤ t8) && decide (t8 < (t0.length : Int))) then (bif decide (t1 = fI (t0.getD t8.toNat .undef) 0) then .stop (.inr t8)
  else .next (IntKind.i64.wrap (t8 + 1)))
  else .fail)
  else .stop (.inl ()))
def R77_0 (t0 : List AV) (t1 : Int) (t7 : Int) : (Int) → Out (Int) (Unit ⊕ Int) := fun s : Int => F77_0 t0 t1 t7 s
def l77_0 : LModel := fun _ _ st k => match st with
  | ⟨[(0, .sl g0 t0), (1, .int .i64 t1), (7, .int .i64 t7), (8, .int .i64 t8)], []⟩ => bif ctsEq g0 ([.int .i64]) then ro (runW (R77_0 t0 t1 t7) ((t7 - t8).toNat + 1) t8) none (sumE (fun _ : Unit => k (.exit 0) ⟨[], []⟩) (fun p : Int => k .ret ⟨[(4, AV.int .i64 p)], []⟩)) else none
  | _ => none
noncomputable def c77 : Cfg := cfg Try.prog [(77, 0, [0, 1, 7, 8]), (77, 999, [4]), (77, 1000, []), (77, 1001, [0, 1, 7, 8])] [] [] [] [(77, 0, l77_0)]
theorem s77_0 (ce : CallE) (t0 : List AV) (t1 : Int) (t7 : Int) (t8 : Int) (next : St → Option AV) (k : Kont) : stepA (codeA c77 ce [] 77 0 (sub [1, 0, 1, 0, 0] (body Try.f77))) (normA [] [0, 1, 7, 8]) next ⟨[(0, AV.sl [.int .i64] t0), (1, AV.int .i64 t1), (7, AV.int .i64 t7), (8, AV.int .i64 t8)], []⟩ k = (bif decide (t8 < t7) then (bif (decide (0 ≤ t8) && decide (t8 < (t0.length : Int))) then (bif decide (t1 = fI (t0.getD t8.toNat .undef) 0) then k .ret ⟨[(4, AV.int .i64 t8)], []⟩
  else next ⟨[(0, AV.sl [.int .i64] t0), (1, AV.int .i64 t1), (7, AV.int .i64 t7), (8, AV.int .i64 (IntKind.i64.wrap (t8 + 1)))], []⟩)
  else none)
  else k (.exit 0) ⟨[], []⟩) := by kernel_rfl
theorem st77_0 (t0 : List AV) (t1 : Int) (t7 : Int) (ce : CallE) (k : Kont) (s : Int) (next : St → Option AV) : stepA (codeA c77 ce [] 77 0 (sub [1, 0, 1, 0, 0] (body Try.f77))) (normA [] [0, 1, 7, 8]) next ((fun s : Int => ⟨[(0, AV.sl [.int .i64] t0), (1, AV.int .i64 t1), (7, AV.int .i64 t7), (8, AV.int .i64 s)], []⟩) s) k = (R77_0 t0 t1 t7 s).el none (fun s => next ((fun s : Int => ⟨[(0, AV.sl [.int .i64] t0), (1, AV.int .i64 t1), (7, AV.int .i64 t7), (8, AV.int .i64 s)], []⟩) s)) (sumE (fun _ : Unit => k (.exit 0) ⟨[], []⟩) (fun p : Int => k .ret ⟨[(4, AV.int .i64 p)], []⟩)) := (s77_0 ce t0 t1 t7 s next k).trans (by unfold R77_0; unfold F77_0; simp only [el_cond, el_ro, el_sum, el_fail, el_next, el_stop] <;> rfl)
theorem ok77_0 {ce : CallE} : LoopOK c77 ce [] 77 0 (sub [1, 0, 1, 0, 0] (body Try.f77)) := by
  intro m hm st k r h
  obtain rfl : l77_0 = m := Option.some.inj hm
  unfold l77_0 at h
  split at h
  · rename_i g0 t0 t1 t7 t8
    obtain ⟨hg, h⟩ := bif_some h
    have q0 := hg
    obtain rfl := ctsEq_eq _ _ q0
    refine ⟨((t7 - t8).toNat + 1), ?_⟩
    rw [← h]
    exact loop_run (fun s : Int => ⟨[(0, AV.sl [.int .i64] t0), (1, AV.int .i64 t1), (7, AV.int .i64 t7), (8, AV.int .i64 s)], []⟩) (sumE (fun _ : Unit => k (.exit 0) ⟨[], []⟩) (fun p : Int => k .ret ⟨[(4, AV.int .i64 p)], []⟩)) (st77_0 t0 t1 t7 ce k) _ t8
  · cases h
def q77 (a0 : List AV) (a1 : Int) : Bool := (ro (runW (R77_0 a0 a1 (a0.length : Int)) (((a0.length : Int) - 0).toNat + 1) 0) false (sumE (fun _ => true) (fun p48 => true)))
def v77_0 (a0 : List AV) (a1 : Int) : Int := (ro (runW (R77_0 a0 a1 (a0.length : Int)) (((a0.length : Int) - 0).toNat + 1) 0) 0 (sumE (fun _ => (-1)) (fun p48 => p48)))
theorem e77 (a0 : List AV) (a1 : Int) : funA c77 0 77 [AV.sl [.int .i64] a0, AV.int .i64 a1] = (ro (runW (R77_0 a0 a1 (a0.length : Int)) (((a0.length : Int) - 0).toNat + 1) 0) none (sumE (fun _ => some (AV.int .i64 (-1))) (fun p48 => some (AV.int .i64 p48)))) := by kernel_rfl
theorem r77 (a0 : List AV) (a1 : Int) (h : q77 a0 a1 = true) : funA c77 0 77 [AV.sl [.int .i64] a0, AV.int .i64 a1] = some (AV.int .i64 (v77_0 a0 a1)) := (e77 a0 a1).trans ((brO (fun o : Option (Unit ⊕ Int) => some (AV.int .i64 (ro o 0 (sumE (fun _ => (-1)) (fun p48 => p48))))) (brS (fun o : Unit ⊕ Int => some (AV.int .i64 ((sumE (fun _ => (-1)) (fun p48 => p48)) o))) (fun _ => (fun _ => rfl)) (fun p48 => (fun _ => rfl)))) h)
def m77 : TModel
  | [.sl g0 a0, .int .i64 a1] => bif ctsEq g0 ([.int .i64]) then some (q77 a0 a1, AV.int .i64 (v77_0 a0 a1)) else none
  | _ => none
theorem k77 : Known Try.prog 77 := ⟨Try.f77, Try.func77, by kernel_rfl, by kernel_rfl⟩
theorem meets77 : Meets Try.prog 77 m77 := by
  refine meet (f := Try.f77) (l := [(0, sub [1, 0, 1, 0, 0] (body Try.f77))]) (hs := [(77, 0, [0, 1, 7, 8]), (77, 999, [4]), (77, 1000, []), (77, 1001, [0, 1, 7, 8])]) (ts := []) (ws := []) (is := []) (ls := [(77, 0, l77_0)]) (lvl := 0) mixed k77 Try.func77 (by kernel_rfl) (loops_cons ok77_0 noLoop) allT_nil allM_nil noI fun w xs us r hl hv h => ?_
  unfold m77 at h
  split at h
  · rename_i g0 a0 a1
    obtain ⟨hg, h⟩ := bif_pair h
    have q0 := hg
    obtain rfl := ctsEq_eq _ _ q0
    obtain ⟨h1, rfl⟩ := pair_inj h
    exact r77 a0 a1 h1
  · cases h

/-! ### 75 slices.Contains[[]int,int] -/
noncomputable def c75 : Cfg := cfg Try.prog [(75, 999, [4])] [(77, m77)] [] [] []
def q75 (a0 : List AV) (a1 : Int) : Bool := q77 a0 a1
def v75_0 (a0 : List AV) (a1 : Int) : Bool := decide ((v77_0 a0 a1) ≥ 0)
theorem e75 (a0 : List AV) (a1 : Int) : funA c75 0 75 [AV.sl [.int .i64] a0, AV.int .i64 a1] = (bif q77 a0 a1 then some (AV.bool (decide ((v77_0 a0 a1) ≥ 0)))
  else none) := by kernel_rfl
theorem r75 (a0 : List AV) (a1 : Int) (h : q75 a0 a1 = true) : funA c75 0 75 [AV.sl [.int .i64] a0, AV.int .i64 a1] = some (AV.bool (v75_0 a0 a1)) := (e75 a0 a1).trans ((brL1 (fun _ => rfl)) h)
def m75 : TModel
  | [.sl g0 a0, .int .i64 a1] => bif ctsEq g0 ([.int .i64]) then some (q75 a0 a1, AV.bool (v75_0 a0 a1)) else none
  | _ => none
theorem k75 : Known Try.prog 75 := ⟨Try.f75, Try.func75, by kernel_rfl, by kernel_rfl⟩
theorem meets75 : Meets Try.prog 75 m75 := by
  refine meet (f := Try.f75) (l := []) (hs := [(75, 999, [4])]) (ts := [(77, m77)]) (ws := []) (is := []) (ls := []) (lvl := 0) mixed k75 Try.func75 (by kernel_rfl) noLoop (allT_cons meets77 allT_nil) allM_nil noI fun w xs us r hl hv h => ?_
  unfold m75 at h
  split at h
  · rename_i g0 a0 a1
    obtain ⟨hg, h⟩ := bif_pair h
    have q0 := hg
    obtain rfl := ctsEq_eq _ _ q0
    obtain ⟨h1, rfl⟩ := pair_inj h
    exact r75 a0 a1 h1
  · cases h

/-! ### 73 loop.example/g01984/impl.IsCracker -/
def F73_4 (t50 : List AV) (t51 : Int) (t52 : Int) (t103 : List AV) (t104 : Int) (h0_0 : List AV) (h0_1 : List AV) (h0_2 : List AV) (h1_0 : Int) (h1_1 : Int) (t105 : Int) : Out (Int) (Unit ⊕ Unit) := (bif decide (t105 < t104) then (bif (decide (0 ≤ t105) && decide (t105 < (t103.length : Int))) then (bif !(decide (fI (t103.getD t105.toNat .undef) 0 < h1_0) == decide (t105 < h1_1)) then .stop (.inr ())
  else .next (IntKind.i64.wrap (t105 + 1)))
  else .fail)
  else .stop (.inl ()))
def R73_4 (t50 : List AV) (t51 : Int) (t52 : Int) (t103 : List AV) (t104 : Int) (h0_0 : List AV) (h0_1 : List AV) (h0_2 : List AV) (h1_0 : Int) (h1_1 : Int) : (Int) → Out (Int) (Unit ⊕ Unit) := fun s : Int => F73_4 t50 t51 t52 t103 t104 h0_0 h0_1 h0_2 h1_0 h1_1 s
def l73_4 : LModel := fun _ _ st k => match st with
  | ⟨[(1, .ptr g0 g1 g2), (6, .ptr g3 g4 g5), (50, .sl g6 t50), (51, .int .i64 t51), (52, .int .i64 t52), (103, .sl g7 t103), (104, .int .i64 t104), (105, .int .i64 t105)], [(g8, ⟨true, [], [.agg [.sl g9 h0_0, .sl g10 h0_1, .sl g11 h0_2]]⟩), (g12, ⟨true, [], [.agg [.int .i64 h1_0, .int .i64 h1_1]]⟩)]⟩ => bif nmEq g0 ([0, 1]) && Nat.beq g1 0 && Nat.beq g2 0 && nmEq g3 ([0, 6]) && Nat.beq g4 0 && Nat.beq g5 0 && ctsEq g6 ([.int .i64, .int .i64]) && ctsEq g7 ([.int .i64]) && nmEq g8 ([0, 1]) && ctsEq g9 ([.int .i64]) && ctsEq g10 ([.int .i64]) && ctsEq g11 ([.int .i64, .int .i64]) && nmEq g12 ([0, 6]) then ro (runW (R73_4 t50 t51 t52 t103 t104 h0_0 h0_1 h0_2 h1_0 h1_1) ((t104 - t105).toNat + 1) t105) none (sumE (fun _ : Unit => k (.exit 4) ⟨[(1, AV.ptr [0, 1] 0 0), (50, AV.sl [.int .i64, .int .i64] t50), (51, AV.int .i64 t51), (52, AV.int .i64 t52)], [([0, 1], ⟨true, [], [AV.agg [AV.sl [.int .i64] h0_0, AV.sl [.int .i64] h0_1, AV.sl [.int .i64, .int .i64] h0_2]]⟩), ([0, 6], ⟨true, [], [AV.agg [AV.int .i64 h1_0, AV.int .i64 h1_1]]⟩)]⟩) (fun _ : Unit => k .ret ⟨[(2, AV.bool false)], [([0, 1], ⟨true, [], [AV.agg [AV.sl [.int .i64] h0_0, AV.sl [.int .i64] h0_1, AV.sl [.int .i64, .int .i64] h0_2]]⟩), ([0, 6], ⟨true, [], [AV.agg [AV.int .i64 h1_0, AV.int .i64 h1_1]]⟩)]⟩)) else none
  | _ => none
def F73_2 (t50 : List AV) (t51 : Int) (h0_0 : List AV) (h0_1 : List AV) (h0_2 : List AV) (t52 : Int) : Out (Int) (Unit ⊕ (Int × Int) ⊕ (Int × Int)) := (bif decide (t52 < t51) then (bif (decide (0 ≤ t52) && decide (t52 < (t50.length : Int))) then (bif !(v66_0 (fI (t50.getD t52.toNat .undef) 0)) then .stop (.inr (.inl (fI (t50.getD t52.toNat .undef) 0, fI (t50.getD t52.toNat .undef) 1)))
  else (bif decide (fI (t50.getD t52.toNat .undef) 1 < 0) then .stop (.inr (.inl (fI (t50.getD t52.toNat .undef) 0, fI (t50.getD t52.toNat .undef) 1)))
  else (bif decide (fI (t50.getD t52.toNat .undef) 1 > (h0_0.length : Int)) then .stop (.inr (.inl (fI (t50.getD t52.toNat .undef) 0, fI (t50.getD t52.toNat .undef) 1)))
  else (bif decide (t52 > 0) then (bif (decide (0 ≤ IntKind.i64.wrap (t52 - 1)) && decide (IntKind.i64.wrap (t52 - 1) < (h0_2.length : Int))) then (bif decide (fI (t50.getD t52.toNat .undef) 0 ≤ fI (h0_2.getD (IntKind.i64.wrap (t52 - 1)).toNat .undef) 0) then .stop (.inr (.inl (fI (t50.getD t52.toNat .undef) 0, fI (t50.getD t52.toNat .undef) 1)))
  else (bif (decide (0 ≤ IntKind.i64.wrap (t52 - 1)) && decide (IntKind.i64.wrap (t52 - 1) < (h0_2.length : Int))) then (bif decide (fI (t50.getD t52.toNat .undef) 1 < fI (h0_2.getD (IntKind.i64.wrap (t52 - 1)).toNat .undef) 1) then .stop (.inr (.inl (fI (t50.getD t52.toNat .undef) 0, fI (t50.getD t52.toNat .undef) 1)))
  else (ro (runW (R73_4 t50 t51 t52 h0_0 (h0_0.length : Int) h0_0 h0_1 h0_2 (fI (t50.getD t52.toNat .undef) 0) (fI (t50.getD t52.toNat .undef) 1)) (((h0_0.length : Int) - 0).toNat + 1) 0) .fail (sumE (fun _ => .next (IntKind.i64.wrap (t52 + 1))) (fun _ => .stop (.inr (.inr (fI (t50.getD t52.toNat .undef) 0, fI (t50.getD t52.toNat .undef) 1)))))))
  else .fail))
  else .fail)
  else (ro (runW (R73_4 t50 t51 t52 h0_0 (h0_0.length : Int) h0_0 h0_1 h0_2 (fI (t50.getD t52.toNat .undef) 0) (fI (t50.getD t52.toNat .undef) 1)) (((h0_0.length : Int) - 0).toNat + 1) 0) .fail (sumE (fun _ => .next (IntKind.i64.wrap (t52 + 1))) (fun _ => .stop (.inr (.inr (fI (t50.getD t52.toNat .undef) 0, fI (t50.getD t52.toNat .undef) 1))))))))))
  else .fail)
  else .stop (.inl ()))
def R73_2 (t50 : List AV) (t51 : Int) (h0_0 : List AV) (h0_1 : List AV) (h0_2 : List AV) : (Int) → Out (Int) (Unit ⊕ (Int × Int) ⊕ (Int × Int)) := fun s : Int => F73_2 t50 t51 h0_0 h0_1 h0_2 s
def l73_2 : LModel := fun _ _ st k => match st with
  | ⟨[(1, .ptr g0 g1 g2), (50, .sl g3 t50), (51, .int .i64 t51), (52, .int .i64 t52)], [(g4, ⟨true, [], [.agg [.sl g5 h0_0, .sl g6 h0_1, .sl g7 h0_2]]⟩)]⟩ => bif nmEq g0 ([0, 1]) && Nat.beq g1 0 && Nat.beq g2 0 && ctsEq g3 ([.int .i64, .int .i64]) && nmEq g4 ([0, 1]) && ctsEq g5 ([.int .i64]) && ctsEq g6 ([.int .i64]) && ctsEq g7 ([.int .i64, .int .i64]) then ro (runW (R73_2 t50 t51 h0_0 h0_1 h0_2) ((t51 - t52).toNat + 1) t52) none (sumE (fun _ : Unit => k (.exit 2) ⟨[], [([0, 1], ⟨true, [], [AV.agg [AV.sl [.int .i64] h0_0, AV.sl [.int .i64] h0_1, AV.sl [.int .i64, .int .i64] h0_2]]⟩)]⟩) (sumE (fun p : Int × Int => k .ret ⟨[(2, AV.bool false)], [([0, 1], ⟨true, [], [AV.agg [AV.sl [.int .i64] h0_0, AV.sl [.int .i64] h0_1, AV.sl [.int .i64, .int .i64] h0_2]]⟩), ([1, 6], ⟨true, [], [AV.agg [AV.int .i64 p.1, AV.int .i64 p.2]]⟩)]⟩) (fun p : Int × Int => k .ret ⟨[(2, AV.bool false)], [([0, 1], ⟨true, [], [AV.agg [AV.sl [.int .i64] h0_0, AV.sl [.int .i64] h0_1, AV.sl [.int .i64, .int .i64] h0_2]]⟩), ([0, 6], ⟨true, [], [AV.agg [AV.int .i64 p.1, AV.int .i64 p.2]]⟩)]⟩))) else none
  | _ => none
def F73_0 (t35 : List AV) (t36 : Int) (h0_0 : List AV) (h0_1 : List AV) (h0_2 : List AV) (t37 : Int) : Out (Int) (Unit ⊕ Unit) := (bif decide (t37 < t36) then (bif (decide (0 ≤ t37) && decide (t37 < (t35.length : Int))) then (bif (decide (0 ≤ 0) && decide (0 ≤ t37) && decide (t37 ≤ (h0_1.length : Int))) then (bif q75 ((h0_1.take (Int.toNat t37)).drop (Int.toNat 0)) (fI (t35.getD t37.toNat .undef) 0) then (bif (v75_0 ((h0_1.take (Int.toNat t37)).drop (Int.toNat 0)) (fI (t35.getD t37.toNat .undef) 0)) then .stop (.inr ())
  else .next (IntKind.i64.wrap (t37 + 1)))
  else .fail)
  else .fail)
  else .fail)
  else .stop (.inl ()))
def R73_0 (t35 : List AV) (t36 : Int) (h0_0 : List AV) (h0_1 : List AV) (h0_2 : List AV) : (Int) → Out (Int) (Unit ⊕ Unit) := fun s : Int => F73_0 t35 t36 h0_0 h0_1 h0_2 s
def l73_0 : LModel := fun _ _ st k => match st with
  | ⟨[(1, .ptr g0 g1 g2), (35, .sl g3 t35), (36, .int .i64 t36), (37, .int .i64 t37)], [(g4, ⟨true, [], [.agg [.sl g5 h0_0, .sl g6 h0_1, .sl g7 h0_2]]⟩)]⟩ => bif nmEq g0 ([0, 1]) && Nat.beq g1 0 && Nat.beq g2 0 && ctsEq g3 ([.int .i64]) && nmEq g4 ([0, 1]) && ctsEq g5 ([.int .i64]) && ctsEq g6 ([.int .i64]) && ctsEq g7 ([.int .i64, .int .i64]) then ro (runW (R73_0 t35 t36 h0_0 h0_1 h0_2) ((t36 - t37).toNat + 1) t37) none (sumE (fun _ : Unit => k (.exit 0) ⟨[(1, AV.ptr [0, 1] 0 0)], [([0, 1], ⟨true, [], [AV.agg [AV.sl [.int .i64] h0_0, AV.sl [.int .i64] h0_1, AV.sl [.int .i64, .int .i64] h0_2]]⟩)]⟩) (fun _ : Unit => k .ret ⟨[(2, AV.bool false)], [([0, 1], ⟨true, [], [AV.agg [AV.sl [.int .i64] h0_0, AV.sl [.int .i64] h0_1, AV.sl [.int .i64, .int .i64] h0_2]]⟩)]⟩)) else none
  | _ => none
noncomputable def c73 : Cfg := cfg Try.prog [(73, 0, [1, 35, 36, 37]), (73, 2, [1, 50, 51, 52]), (73, 4, [1, 6, 50, 51, 52, 103, 104, 105]), (73, 999, [2]), (73, 1000, [1]), (73, 1001, [1, 35, 36, 37]), (73, 1002, []), (73, 1003, [1, 50, 51, 52]), (73, 1004, [1, 50, 51, 52]), (73, 1005, [1, 6, 50, 51, 52, 103, 104, 105])] [(38, m38), (53, m53), (66, m66), (75, m75)] [] [] [(73, 0, l73_0), (73, 2, l73_2), (73, 4, l73_4)]
theorem s73_4 (ce : CallE) (t50 : List AV) (t51 : Int) (t52 : Int) (t103 : List AV) (t104 : Int) (t105 : Int) (h0_0 : List AV) (h0_1 : List AV) (h0_2 : List AV) (h1_0 : Int) (h1_1 : Int) (next : St → Option AV) (k : Kont) : stepA (codeA c73 ce [] 73 4 (sub [1, 1, 1, 0, 1, 0, 0, 1, 1, 0, 0, 1, 1, 1, 0, 0] (body Try.f73))) (normA [] [1, 6, 50, 51, 52, 103, 104, 105]) next ⟨[(1, AV.ptr [0, 1] 0 0), (6, AV.ptr [0, 6] 0 0), (50, AV.sl [.int .i64, .int .i64] t50), (51, AV.int .i64 t51), (52, AV.int .i64 t52), (103, AV.sl [.int .i64] t103), (104, AV.int .i64 t104), (105, AV.int .i64 t105)], [([0, 1], ⟨true, [], [AV.agg [AV.sl [.int .i64] h0_0, AV.sl [.int .i64] h0_1, AV.sl [.int .i64, .int .i64] h0_2]]⟩), ([0, 6], ⟨true, [], [AV.agg [AV.int .i64 h1_0, AV.int .i64 h1_1]]⟩)]⟩ k = (bif decide (t105 < t104) then (bif (decide (0 ≤ t105) && decide (t105 < (t103.length : Int))) then (bif !(decide (fI (t103.getD t105.toNat .undef) 0 < h1_0) == decide (t105 < h1_1)) then k .ret ⟨[(2, AV.bool false)], [([0, 1], ⟨true, [], [AV.agg [AV.sl [.int .i64] h0_0, AV.sl [.int .i64] h0_1, AV.sl [.int .i64, .int .i64] h0_2]]⟩), ([0, 6], ⟨true, [], [AV.agg [AV.int .i64 h1_0, AV.int .i64 h1_1]]⟩)]⟩
  else next ⟨[(1, AV.ptr [0, 1] 0 0), (6, AV.ptr [0, 6] 0 0), (50, AV.sl [.int .i64, .int .i64] t50), (51, AV.int .i64 t51), (52, AV.int .i64 t52), (103, AV.sl [.int .i64] t103), (104, AV.int .i64 t104), (105, AV.int .i64 (IntKind.i64.wrap (t105 + 1)))], [([0, 1], ⟨true, [], [AV.agg [AV.sl [.int .i64] h0_0, AV.sl [.int .i64] h0_1, AV.sl [.int .i64, .int .i64] h0_2]]⟩), ([0, 6], ⟨true, [], [AV.agg [AV.int .i64 h1_0, AV.int .i64 h1_1]]⟩)]⟩)
  else none)
  else k (.exit 4) ⟨[(1, AV.ptr [0, 1] 0 0), (50, AV.sl [.int .i64, .int .i64] t50), (51, AV.int .i64 t51), (52, AV.int .i64 t52)], [([0, 1], ⟨true, [], [AV.agg [AV.sl [.int .i64] h0_0, AV.sl [.int .i64] h0_1, AV.sl [.int .i64, .int .i64] h0_2]]⟩), ([0, 6], ⟨true, [], [AV.agg [AV.int .i64 h1_0, AV.int .i64 h1_1]]⟩)]⟩) := by kernel_rfl
theorem st73_4 (t50 : List AV) (t51 : Int) (t52 : Int) (t103 : List AV) (t104 : Int) (h0_0 : List AV) (h0_1 : List AV) (h0_2 : List AV) (h1_0 : Int) (h1_1 : Int) (ce : CallE) (k : Kont) (s : Int) (next : St → Option AV) : stepA (codeA c73 ce [] 73 4 (sub [1, 1, 1, 0, 1, 0, 0, 1, 1, 0, 0, 1, 1, 1, 0, 0] (body Try.f73))) (normA [] [1, 6, 50, 51, 52, 103, 104, 105]) next ((fun s : Int => ⟨[(1, AV.ptr [0, 1] 0 0), (6, AV.ptr [0, 6] 0 0), (50, AV.sl [.int .i64, .int .i64] t50), (51, AV.int .i64 t51), (52, AV.int .i64 t52), (103, AV.sl [.int .i64] t103), (104, AV.int .i64 t104), (105, AV.int .i64 s)], [([0, 1], ⟨true, [], [AV.agg [AV.sl [.int .i64] h0_0, AV.sl [.int .i64] h0_1, AV.sl [.int .i64, .int .i64] h0_2]]⟩), ([0, 6], ⟨true, [], [AV.agg [AV.int .i64 h1_0, AV.int .i64 h1_1]]⟩)]⟩) s) k = (R73_4 t50 t51 t52 t103 t104 h0_0 h0_1 h0_2 h1_0 h1_1 s).el none (fun s => next ((fun s : Int => ⟨[(1, AV.ptr [0, 1] 0 0), (6, AV.ptr [0, 6] 0 0), (50, AV.sl [.int .i64, .int .i64] t50), (51, AV.int .i64 t51), (52, AV.int .i64 t52), (103, AV.sl [.int .i64] t103), (104, AV.int .i64 t104), (105, AV.int .i64 s)], [([0, 1], ⟨true, [], [AV.agg [AV.sl [.int .i64] h0_0, AV.sl [.int .i64] h0_1, AV.sl [.int .i64, .int .i64] h0_2]]⟩), ([0, 6], ⟨true, [], [AV.agg [AV.int .i64 h1_0, AV.int .i64 h1_1]]⟩)]⟩) s)) (sumE (fun _ : Unit => k (.exit 4) ⟨[(1, AV.ptr [0, 1] 0 0), (50, AV.sl [.int .i64, .int .i64] t50), (51, AV.int .i64 t51), (52, AV.int .i64 t52)], [([0, 1], ⟨true, [], [AV.agg [AV.sl [.int .i64] h0_0, AV.sl [.int .i64] h0_1, AV.sl [.int .i64, .int .i64] h0_2]]⟩), ([0, 6], ⟨true, [], [AV.agg [AV.int .i64 h1_0, AV.int .i64 h1_1]]⟩)]⟩) (fun _ : Unit => k .ret ⟨[(2, AV.bool false)], [([0, 1], ⟨true, [], [AV.agg [AV.sl [.int .i64] h0_0, AV.sl [.int .i64] h0_1, AV.sl [.int .i64, .int .i64] h0_2]]⟩), ([0, 6], ⟨true, [], [AV.agg [AV.int .i64 h1_0, AV.int .i64 h1_1]]⟩)]⟩)) := (s73_4 ce t50 t51 t52 t103 t104 s h0_0 h0_1 h0_2 h1_0 h1_1 next k).trans (by unfold R73_4; unfold F73_4; simp only [el_cond, el_ro, el_sum, el_fail, el_next, el_stop] <;> rfl)
theorem ok73_4 {ce : CallE} : LoopOK c73 ce [] 73 4 (sub [1, 1, 1, 0, 1, 0, 0, 1, 1, 0, 0, 1, 1, 1, 0, 0] (body Try.f73)) := by
  intro m hm st k r h
  obtain rfl : l73_4 = m := Option.some.inj hm
  unfold l73_4 at h
  split at h
  · rename_i g0 g1 g2 g3 g4 g5 g6 t50 t51 t52 g7 t103 t104 t105 g8 g9 h0_0 g10 h0_1 g11 h0_2 g12 h1_0 h1_1
    obtain ⟨hg, h⟩ := bif_some h
    simp only [Bool.and_eq_true] at hg
    obtain ⟨⟨⟨⟨⟨⟨⟨⟨⟨⟨⟨⟨q0, q1⟩, q2⟩, q3⟩, q4⟩, q5⟩, q6⟩, q7⟩, q8⟩, q9⟩, q10⟩, q11⟩, q12⟩ := hg
    obtain rfl := (nmEq_iff _ _).1 q0
    obtain rfl := Nat.eq_of_beq_eq_true q1
    obtain rfl := Nat.eq_of_beq_eq_true q2
    obtain rfl := (nmEq_iff _ _).1 q3
    obtain rfl := Nat.eq_of_beq_eq_true q4
    obtain rfl := Nat.eq_of_beq_eq_true q5
    obtain rfl := ctsEq_eq _ _ q6
    obtain rfl := ctsEq_eq _ _ q7
    obtain rfl := (nmEq_iff _ _).1 q8
    obtain rfl := ctsEq_eq _ _ q9
    obtain rfl := ctsEq_eq _ _ q10
    obtain rfl := ctsEq_eq _ _ q11
    obtain rfl := (nmEq_iff _ _).1 q12
    refine ⟨((t104 - t105).toNat + 1), ?_⟩
    rw [← h]
    exact loop_run (fun s : Int => ⟨[(1, AV.ptr [0, 1] 0 0), (6, AV.ptr [0, 6] 0 0), (50, AV.sl [.int .i64, .int .i64] t50), (51, AV.int .i64 t51), (52, AV.int .i64 t52), (103, AV.sl [.int .i64] t103), (104, AV.int .i64 t104), (105, AV.int .i64 s)], [([0, 1], ⟨true, [], [AV.agg [AV.sl [.int .i64] h0_0, AV.sl [.int .i64] h0_1, AV.sl [.int .i64, .int .i64] h0_2]]⟩), ([0, 6], ⟨true, [], [AV.agg [AV.int .i64 h1_0, AV.int .i64 h1_1]]⟩)]⟩) (sumE (fun _ : Unit => k (.exit 4) ⟨[(1, AV.ptr [0, 1] 0 0), (50, AV.sl [.int .i64, .int .i64] t50), (51, AV.int .i64 t51), (52, AV.int .i64 t52)], [([0, 1], ⟨true, [], [AV.agg [AV.sl [.int .i64] h0_0, AV.sl [.int .i64] h0_1, AV.sl [.int .i64, .int .i64] h0_2]]⟩), ([0, 6], ⟨true, [], [AV.agg [AV.int .i64 h1_0, AV.int .i64 h1_1]]⟩)]⟩) (fun _ : Unit => k .ret ⟨[(2, AV.bool false)], [([0, 1], ⟨true, [], [AV.agg [AV.sl [.int .i64] h0_0, AV.sl [.int .i64] h0_1, AV.sl [.int .i64, .int .i64] h0_2]]⟩), ([0, 6], ⟨true, [], [AV.agg [AV.int .i64 h1_0, AV.int .i64 h1_1]]⟩)]⟩)) (st73_4 t50 t51 t52 t103 t104 h0_0 h0_1 h0_2 h1_0 h1_1 ce k) _ t105
  · cases h
theorem s73_2 (ce : CallE) (t50 : List AV) (t51 : Int) (t52 : Int) (h0_0 : List AV) (h0_1 : List AV) (h0_2 : List AV) (next : St → Option AV) (k : Kont) : stepA (codeA c73 ce [] 73 2 (sub [1, 1, 1, 0, 1, 0, 0] (body Try.f73))) (normA [] [1, 50, 51, 52]) next ⟨[(1, AV.ptr [0, 1] 0 0), (50, AV.sl [.int .i64, .int .i64] t50), (51, AV.int .i64 t51), (52, AV.int .i64 t52)], [([0, 1], ⟨true, [], [AV.agg [AV.sl [.int .i64] h0_0, AV.sl [.int .i64] h0_1, AV.sl [.int .i64, .int .i64] h0_2]]⟩)]⟩ k = (bif decide (t52 < t51) then (bif (decide (0 ≤ t52) && decide (t52 < (t50.length : Int))) then (bif !(v66_0 (fI (t50.getD t52.toNat .undef) 0)) then k .ret ⟨[(2, AV.bool false)], [([0, 1], ⟨true, [], [AV.agg [AV.sl [.int .i64] h0_0, AV.sl [.int .i64] h0_1, AV.sl [.int .i64, .int .i64] h0_2]]⟩), ([1, 6], ⟨true, [], [AV.agg [AV.int .i64 (fI (t50.getD t52.toNat .undef) 0), AV.int .i64 (fI (t50.getD t52.toNat .undef) 1)]]⟩)]⟩
  else (bif decide (fI (t50.getD t52.toNat .undef) 1 < 0) then k .ret ⟨[(2, AV.bool false)], [([0, 1], ⟨true, [], [AV.agg [AV.sl [.int .i64] h0_0, AV.sl [.int .i64] h0_1, AV.sl [.int .i64, .int .i64] h0_2]]⟩), ([1, 6], ⟨true, [], [AV.agg [AV.int .i64 (fI (t50.getD t52.toNat .undef) 0), AV.int .i64 (fI (t50.getD t52.toNat .undef) 1)]]⟩)]⟩
  else (bif decide (fI (t50.getD t52.toNat .undef) 1 > (h0_0.length : Int)) then k .ret ⟨[(2, AV.bool false)], [([0, 1], ⟨true, [], [AV.agg [AV.sl [.int .i64] h0_0, AV.sl [.int .i64] h0_1, AV.sl [.int .i64, .int .i64] h0_2]]⟩), ([1, 6], ⟨true, [], [AV.agg [AV.int .i64 (fI (t50.getD t52.toNat .undef) 0), AV.int .i64 (fI (t50.getD t52.toNat .undef) 1)]]⟩)]⟩
  else (bif decide (t52 > 0) then (bif (decide (0 ≤ IntKind.i64.wrap (t52 - 1)) && decide (IntKind.i64.wrap (t52 - 1) < (h0_2.length : Int))) then (bif decide (fI (t50.getD t52.toNat .undef) 0 ≤ fI (h0_2.getD (IntKind.i64.wrap (t52 - 1)).toNat .undef) 0) then k .ret ⟨[(2, AV.bool false)], [([0, 1], ⟨true, [], [AV.agg [AV.sl [.int .i64] h0_0, AV.sl [.int .i64] h0_1, AV.sl [.int .i64, .int .i64] h0_2]]⟩), ([1, 6], ⟨true, [], [AV.agg [AV.int .i64 (fI (t50.getD t52.toNat .undef) 0), AV.int .i64 (fI (t50.getD t52.toNat .undef) 1)]]⟩)]⟩
  else (bif (decide (0 ≤ IntKind.i64.wrap (t52 - 1)) && decide (IntKind.i64.wrap (t52 - 1) < (h0_2.length : Int))) then (bif decide (fI (t50.getD t52.toNat .undef) 1 < fI (h0_2.getD (IntKind.i64.wrap (t52 - 1)).toNat .undef) 1) then k .ret ⟨[(2, AV.bool false)], [([0, 1], ⟨true, [], [AV.agg [AV.sl [.int .i64] h0_0, AV.sl [.int .i64] h0_1, AV.sl [.int .i64, .int .i64] h0_2]]⟩), ([1, 6], ⟨true, [], [AV.agg [AV.int .i64 (fI (t50.getD t52.toNat .undef) 0), AV.int .i64 (fI (t50.getD t52.toNat .undef) 1)]]⟩)]⟩
  else (ro (runW (R73_4 t50 t51 t52 h0_0 (h0_0.length : Int) h0_0 h0_1 h0_2 (fI (t50.getD t52.toNat .undef) 0) (fI (t50.getD t52.toNat .undef) 1)) (((h0_0.length : Int) - 0).toNat + 1) 0) none (sumE (fun _ => next ⟨[(1, AV.ptr [0, 1] 0 0), (50, AV.sl [.int .i64, .int .i64] t50), (51, AV.int .i64 t51), (52, AV.int .i64 (IntKind.i64.wrap (t52 + 1)))], [([0, 1], ⟨true, [], [AV.agg [AV.sl [.int .i64] h0_0, AV.sl [.int .i64] h0_1, AV.sl [.int .i64, .int .i64] h0_2]]⟩)]⟩) (fun _ => k .ret ⟨[(2, AV.bool false)], [([0, 1], ⟨true, [], [AV.agg [AV.sl [.int .i64] h0_0, AV.sl [.int .i64] h0_1, AV.sl [.int .i64, .int .i64] h0_2]]⟩), ([0, 6], ⟨true, [], [AV.agg [AV.int .i64 (fI (t50.getD t52.toNat .undef) 0), AV.int .i64 (fI (t50.getD t52.toNat .undef) 1)]]⟩)]⟩))))
  else none))
  else none)
  else (ro (runW (R73_4 t50 t51 t52 h0_0 (h0_0.length : Int) h0_0 h0_1 h0_2 (fI (t50.getD t52.toNat .undef) 0) (fI (t50.getD t52.toNat .undef) 1)) (((h0_0.length : Int) - 0).toNat + 1) 0) none (sumE (fun _ => next ⟨[(1, AV.ptr [0, 1] 0 0), (50, AV.sl [.int .i64, .int .i64] t50), (51, AV.int .i64 t51), (52, AV.int .i64 (IntKind.i64.wrap (t52 + 1)))], [([0, 1], ⟨true, [], [AV.agg [AV.sl [.int .i64] h0_0, AV.sl [.int .i64] h0_1, AV.sl [.int .i64, .int .i64] h0_2]]⟩)]⟩) (fun _ => k .ret ⟨[(2, AV.bool false)], [([0, 1], ⟨true, [], [AV.agg [AV.sl [.int .i64] h0_0, AV.sl [.int .i64] h0_1, AV.sl [.int .i64, .int .i64] h0_2]]⟩), ([0, 6], ⟨true, [], [AV.agg [AV.int .i64 (fI (t50.getD t52.toNat .undef) 0), AV.int .i64 (fI (t50.getD t52.toNat .undef) 1)]]⟩)]⟩)))))))
  else none)
  else k (.exit 2) ⟨[], [([0, 1], ⟨true, [], [AV.agg [AV.sl [.int .i64] h0_0, AV.sl [.int .i64] h0_1, AV.sl [.int .i64, .int .i64] h0_2]]⟩)]⟩) := by kernel_rfl
theorem st73_2 (t50 : List AV) (t51 : Int) (h0_0 : List AV) (h0_1 : List AV) (h0_2 : List AV) (ce : CallE) (k : Kont) (s : Int) (next : St → Option AV) : stepA (codeA c73 ce [] 73 2 (sub [1, 1, 1, 0, 1, 0, 0] (body Try.f73))) (normA [] [1, 50, 51, 52]) next ((fun s : Int => ⟨[(1, AV.ptr [0, 1] 0 0), (50, AV.sl [.int .i64, .int .i64] t50), (51, AV.int .i64 t51), (52, AV.int .i64 s)], [([0, 1], ⟨true, [], [AV.agg [AV.sl [.int .i64] h0_0, AV.sl [.int .i64] h0_1, AV.sl [.int .i64, .int .i64] h0_2]]⟩)]⟩) s) k = (R73_2 t50 t51 h0_0 h0_1 h0_2 s).el none (fun s => next ((fun s : Int => ⟨[(1, AV.ptr [0, 1] 0 0), (50, AV.sl [.int .i64, .int .i64] t50), (51, AV.int .i64 t51), (52, AV.int .i64 s)], [([0, 1], ⟨true, [], [AV.agg [AV.sl [.int .i64] h0_0, AV.sl [.int .i64] h0_1, AV.sl [.int .i64, .int .i64] h0_2]]⟩)]⟩) s)) (sumE (fun _ : Unit => k (.exit 2) ⟨[], [([0, 1], ⟨true, [], [AV.agg [AV.sl [.int .i64] h0_0, AV.sl [.int .i64] h0_1, AV.sl [.int .i64, .int .i64] h0_2]]⟩)]⟩) (sumE (fun p : Int × Int => k .ret ⟨[(2, AV.bool false)], [([0, 1], ⟨true, [], [AV.agg [AV.sl [.int .i64] h0_0, AV.sl [.int .i64] h0_1, AV.sl [.int .i64, .int .i64] h0_2]]⟩), ([1, 6], ⟨true, [], [AV.agg [AV.int .i64 p.1, AV.int .i64 p.2]]⟩)]⟩) (fun p : Int × Int => k .ret ⟨[(2, AV.bool false)], [([0, 1], ⟨true, [], [AV.agg [AV.sl [.int .i64] h0_0, AV.sl [.int .i64] h0_1, AV.sl [.int .i64, .int .i64] h0_2]]⟩), ([0, 6], ⟨true, [], [AV.agg [AV.int .i64 p.1, AV.int .i64 p.2]]⟩)]⟩))) := (s73_2 ce t50 t51 s h0_0 h0_1 h0_2 next k).trans (by unfold R73_2; unfold F73_2; simp only [el_cond, el_ro, el_sum, el_fail, el_next, el_stop] <;> rfl)
theorem ok73_2 {ce : CallE} : LoopOK c73 ce [] 73 2 (sub [1, 1, 1, 0, 1, 0, 0] (body Try.f73)) := by
  intro m hm st k r h
  obtain rfl : l73_2 = m := Option.some.inj hm
  unfold l73_2 at h
  split at h
  · rename_i g0 g1 g2 g3 t50 t51 t52 g4 g5 h0_0 g6 h0_1 g7 h0_2
    obtain ⟨hg, h⟩ := bif_some h
    simp only [Bool.and_eq_true] at hg
    obtain ⟨⟨⟨⟨⟨⟨⟨q0, q1⟩, q2⟩, q3⟩, q4⟩, q5⟩, q6⟩, q7⟩ := hg
    obtain rfl := (nmEq_iff _ _).1 q0
    obtain rfl := Nat.eq_of_beq_eq_true q1
    obtain rfl := Nat.eq_of_beq_eq_true q2
    obtain rfl := ctsEq_eq _ _ q3
    obtain rfl := (nmEq_iff _ _).1 q4
    obtain rfl := ctsEq_eq _ _ q5
    obtain rfl := ctsEq_eq _ _ q6
    obtain rfl := ctsEq_eq _ _ q7
    refine ⟨((t51 - t52).toNat + 1), ?_⟩
    rw [← h]
    exact loop_run (fun s : Int => ⟨[(1, AV.ptr [0, 1] 0 0), (50, AV.sl [.int .i64, .int .i64] t50), (51, AV.int .i64 t51), (52, AV.int .i64 s)], [([0, 1], ⟨true, [], [AV.agg [AV.sl [.int .i64] h0_0, AV.sl [.int .i64] h0_1, AV.sl [.int .i64, .int .i64] h0_2]]⟩)]⟩) (sumE (fun _ : Unit => k (.exit 2) ⟨[], [([0, 1], ⟨true, [], [AV.agg [AV.sl [.int .i64] h0_0, AV.sl [.int .i64] h0_1, AV.sl [.int .i64, .int .i64] h0_2]]⟩)]⟩) (sumE (fun p : Int × Int => k .ret ⟨[(2, AV.bool false)], [([0, 1], ⟨true, [], [AV.agg [AV.sl [.int .i64] h0_0, AV.sl [.int .i64] h0_1, AV.sl [.int .i64, .int .i64] h0_2]]⟩), ([1, 6], ⟨true, [], [AV.agg [AV.int .i64 p.1, AV.int .i64 p.2]]⟩)]⟩) (fun p : Int × Int => k .ret ⟨[(2, AV.bool false)], [([0, 1], ⟨true, [], [AV.agg [AV.sl [.int .i64] h0_0, AV.sl [.int .i64] h0_1, AV.sl [.int .i64, .int .i64] h0_2]]⟩), ([0, 6], ⟨true, [], [AV.agg [AV.int .i64 p.1, AV.int .i64 p.2]]⟩)]⟩))) (st73_2 t50 t51 h0_0 h0_1 h0_2 ce k) _ t52
  · cases h
theorem s73_0 (ce : CallE) (t35 : List AV) (t36 : Int) (t37 : Int) (h0_0 : List AV) (h0_1 : List AV) (h0_2 : List AV) (next : St → Option AV) (k : Kont) : stepA (codeA c73 ce [] 73 0 (sub [1, 1, 0, 1, 0, 0] (body Try.f73))) (normA [] [1, 35, 36, 37]) next ⟨[(1, AV.ptr [0, 1] 0 0), (35, AV.sl [.int .i64] t35), (36, AV.int .i64 t36), (37, AV.int .i64 t37)], [([0, 1], ⟨true, [], [AV.agg [AV.sl [.int .i64] h0_0, AV.sl [.int .i64] h0_1, AV.sl [.int .i64, .int .i64] h0_2]]⟩)]⟩ k = (bif decide (t37 < t36) then (bif (decide (0 ≤ t37) && decide (t37 < (t35.length : Int))) then (bif (decide (0 ≤ 0) && decide (0 ≤ t37) && decide (t37 ≤ (h0_1.length : Int))) then (bif q75 ((h0_1.take (Int.toNat t37)).drop (Int.toNat 0)) (fI (t35.getD t37.toNat .undef) 0) then (bif (v75_0 ((h0_1.take (Int.toNat t37)).drop (Int.toNat 0)) (fI (t35.getD t37.toNat .undef) 0)) then k .ret ⟨[(2, AV.bool false)], [([0, 1], ⟨true, [], [AV.agg [AV.sl [.int .i64] h0_0, AV.sl [.int .i64] h0_1, AV.sl [.int .i64, .int .i64] h0_2]]⟩)]⟩
  else next ⟨[(1, AV.ptr [0, 1] 0 0), (35, AV.sl [.int .i64] t35), (36, AV.int .i64 t36), (37, AV.int .i64 (IntKind.i64.wrap (t37 + 1)))], [([0, 1], ⟨true, [], [AV.agg [AV.sl [.int .i64] h0_0, AV.sl [.int .i64] h0_1, AV.sl [.int .i64, .int .i64] h0_2]]⟩)]⟩)
  else none)
  else none)
  else none)
  else k (.exit 0) ⟨[(1, AV.ptr [0, 1] 0 0)], [([0, 1], ⟨true, [], [AV.agg [AV.sl [.int .i64] h0_0, AV.sl [.int .i64] h0_1, AV.sl [.int .i64, .int .i64] h0_2]]⟩)]⟩) := by kernel_rfl
theorem st73_0 (t35 : List AV) (t36 : Int) (h0_0 : List AV) (h0_1 : List AV) (h0_2 : List AV) (ce : CallE) (k : Kont) (s : Int) (next : St → Option AV) : stepA (codeA c73 ce [] 73 0 (sub [1, 1, 0, 1, 0, 0] (body Try.f73))) (normA [] [1, 35, 36, 37]) next ((fun s : Int => ⟨[(1, AV.ptr [0, 1] 0 0), (35, AV.sl [.int .i64] t35), (36, AV.int .i64 t36), (37, AV.int .i64 s)], [([0, 1], ⟨true, [], [AV.agg [AV.sl [.int .i64] h0_0, AV.sl [.int .i64] h0_1, AV.sl [.int .i64, .int .i64] h0_2]]⟩)]⟩) s) k = (R73_0 t35 t36 h0_0 h0_1 h0_2 s).el none (fun s => next ((fun s : Int => ⟨[(1, AV.ptr [0, 1] 0 0), (35, AV.sl [.int .i64] t35), (36, AV.int .i64 t36), (37, AV.int .i64 s)], [([0, 1], ⟨true, [], [AV.agg [AV.sl [.int .i64] h0_0, AV.sl [.int .i64] h0_1, AV.sl [.int .i64, .int .i64] h0_2]]⟩)]⟩) s)) (sumE (fun _ : Unit => k (.exit 0) ⟨[(1, AV.ptr [0, 1] 0 0)], [([0, 1], ⟨true, [], [AV.agg [AV.sl [.int .i64] h0_0, AV.sl [.int .i64] h0_1, AV.sl [.int .i64, .int .i64] h0_2]]⟩)]⟩) (fun _ : Unit => k .ret ⟨[(2, AV.bool false)], [([0, 1], ⟨true, [], [AV.agg [AV.sl [.int .i64] h0_0, AV.sl [.int .i64] h0_1, AV.sl [.int .i64, .int .i64] h0_2]]⟩)]⟩)) := (s73_0 ce t35 t36 s h0_0 h0_1 h0_2 next k).trans (by unfold R73_0; unfold F73_0; simp only [el_cond, el_ro, el_sum, el_fail, el_next, el_stop] <;> rfl)
theorem ok73_0 {ce : CallE} : LoopOK c73 ce [] 73 0 (sub [1, 1, 0, 1, 0, 0] (body Try.f73)) := by
  intro m hm st k r h
  obtain rfl : l73_0 = m := Option.some.inj hm
  unfold l73_0 at h
  split at h
  · rename_i g0 g1 g2 g3 t35 t36 t37 g4 g5 h0_0 g6 h0_1 g7 h0_2
    obtain ⟨hg, h⟩ := bif_some h
    simp only [Bool.and_eq_true] at hg
    obtain ⟨⟨⟨⟨⟨⟨⟨q0, q1⟩, q2⟩, q3⟩, q4⟩, q5⟩, q6⟩, q7⟩ := hg
    obtain rfl := (nmEq_iff _ _).1 q0
    obtain rfl := Nat.eq_of_beq_eq_true q1
    obtain rfl := Nat.eq_of_beq_eq_true q2
    obtain rfl := ctsEq_eq _ _ q3
    obtain rfl := (nmEq_iff _ _).1 q4
    obtain rfl := ctsEq_eq _ _ q5
    obtain rfl := ctsEq_eq _ _ q6
    obtain rfl := ctsEq_eq _ _ q7
    refine ⟨((t36 - t37).toNat + 1), ?_⟩
    rw [← h]
    exact loop_run (fun s : Int => ⟨[(1, AV.ptr [0, 1] 0 0), (35, AV.sl [.int .i64] t35), (36, AV.int .i64 t36), (37, AV.int .i64 s)], [([0, 1], ⟨true, [], [AV.agg [AV.sl [.int .i64] h0_0, AV.sl [.int .i64] h0_1, AV.sl [.int .i64, .int .i64] h0_2]]⟩)]⟩) (sumE (fun _ : Unit => k (.exit 0) ⟨[(1, AV.ptr [0, 1] 0 0)], [([0, 1], ⟨true, [], [AV.agg [AV.sl [.int .i64] h0_0, AV.sl [.int .i64] h0_1, AV.sl [.int .i64, .int .i64] h0_2]]⟩)]⟩) (fun _ : Unit => k .ret ⟨[(2, AV.bool false)], [([0, 1], ⟨true, [], [AV.agg [AV.sl [.int .i64] h0_0, AV.sl [.int .i64] h0_1, AV.sl [.int .i64, .int .i64] h0_2]]⟩)]⟩)) (st73_0 t35 t36 h0_0 h0_1 h0_2 ce k) _ t37
  · cases h
def q73 (xa : List AV) (xb : List AV) (xc : List AV) : Bool := (q53 xa && (bif !(v53_0 xa) then true else (bif !decide ((xb.length : Int) = (xa.length : Int)) then true else (q38 xb 0 999 && (bif !(v38_0 xb 0 999) then true else (bif decide ((xc.length : Int) > 2001) then true else (ro (runW (R73_0 xb (xb.length : Int) xa xb xc) (((xb.length : Int) - 0).toNat + 1) 0) false (sumE (fun _ => (ro (runW (R73_2 xc (xc.length : Int) xa xb xc) (((xc.length : Int) - 0).toNat + 1) 0) false (sumE (fun _ => true) (sumE (fun p55 => true) (fun p56 => true))))) (fun _ => true)))))))))
def v73_0 (xa : List AV) (xb : List AV) (xc : List AV) : Bool := (bif !(v53_0 xa) then false else (bif !decide ((xb.length : Int) = (xa.length : Int)) then false else (bif !(v38_0 xb 0 999) then false else (bif decide ((xc.length : Int) > 2001) then false else (ro (runW (R73_0 xb (xb.length : Int) xa xb xc) (((xb.length : Int) - 0).toNat + 1) 0) false (sumE (fun _ => (ro (runW (R73_2 xc (xc.length : Int) xa xb xc) (((xc.length : Int) - 0).toNat + 1) 0) false (sumE (fun _ => true) (sumE (fun p55 => false) (fun p56 => false))))) (fun _ => false)))))))
theorem e73 (xa : List AV) (xb : List AV) (xc : List AV) : funA c73 0 73 [AV.agg [AV.sl [.int .i64] xa, AV.sl [.int .i64] xb, AV.sl [.int .i64, .int .i64] xc]] = (bif q53 xa then (bif !(v53_0 xa) then some (AV.bool false)
  else (bif !decide ((xb.length : Int) = (xa.length : Int)) then some (AV.bool false)
  else (bif q38 xb 0 999 then (bif !(v38_0 xb 0 999) then some (AV.bool false)
  else (bif decide ((xc.length : Int) > 2001) then some (AV.bool false)
  else (ro (runW (R73_0 xb (xb.length : Int) xa xb xc) (((xb.length : Int) - 0).toNat + 1) 0) none (sumE (fun _ => (ro (runW (R73_2 xc (xc.length : Int) xa xb xc) (((xc.length : Int) - 0).toNat + 1) 0) none (sumE (fun _ => some (AV.bool true)) (sumE (fun p55 => some (AV.bool false)) (fun p56 => some (AV.bool false)))))) (fun _ => some (AV.bool false))))))
  else none)))
  else none) := by kernel_rfl
theorem r73 (xa : List AV) (xb : List AV) (xc : List AV) (h : q73 xa xb xc = true) : funA c73 0 73 [AV.agg [AV.sl [.int .i64] xa, AV.sl [.int .i64] xb, AV.sl [.int .i64, .int .i64] xc]] = some (AV.bool (v73_0 xa xb xc)) := (e73 xa xb xc).trans ((brL (br (fun b => some (AV.bool (bif b then false else (bif !decide ((xb.length : Int) = (xa.length : Int)) then false else (bif !(v38_0 xb 0 999) then false else (bif decide ((xc.length : Int) > 2001) then false else (ro (runW (R73_0 xb (xb.length : Int) xa xb xc) (((xb.length : Int) - 0).toNat + 1) 0) false (sumE (fun _ => (ro (runW (R73_2 xc (xc.length : Int) xa xb xc) (((xc.length : Int) - 0).toNat + 1) 0) false (sumE (fun _ => true) (sumE (fun p55 => false) (fun p56 => false))))) (fun _ => false))))))))) (fun _ => rfl) (br (fun b => some (AV.bool (bif b then false else (bif !(v38_0 xb 0 999) then false else (bif decide ((xc.length : Int) > 2001) then false else (ro (runW (R73_0 xb (xb.length : Int) xa xb xc) (((xb.length : Int) - 0).toNat + 1) 0) false (sumE (fun _ => (ro (runW (R73_2 xc (xc.length : Int) xa xb xc) (((xc.length : Int) - 0).toNat + 1) 0) false (sumE (fun _ => true) (sumE (fun p55 => false) (fun p56 => false))))) (fun _ => false)))))))) (fun _ => rfl) (brL (br (fun b => some (AV.bool (bif b then false else (bif decide ((xc.length : Int) > 2001) then false else (ro (runW (R73_0 xb (xb.length : Int) xa xb xc) (((xb.length : Int) - 0).toNat + 1) 0) false (sumE (fun _ => (ro (runW (R73_2 xc (xc.length : Int) xa xb xc) (((xc.length : Int) - 0).toNat + 1) 0) false (sumE (fun _ => true) (sumE (fun p55 => false) (fun p56 => false))))) (fun _ => false))))))) (fun _ => rfl) (br (fun b => some (AV.bool (bif b then false else (ro (runW (R73_0 xb (xb.length : Int) xa xb xc) (((xb.length : Int) - 0).toNat + 1) 0) false (sumE (fun _ => (ro (runW (R73_2 xc (xc.length : Int) xa xb xc) (((xc.length : Int) - 0).toNat + 1) 0) false (sumE (fun _ => true) (sumE (fun p55 => false) (fun p56 => false))))) (fun _ => false)))))) (fun _ => rfl) (brO (fun o : Option (Unit ⊕ Unit) => some (AV.bool (ro o false (sumE (fun _ => (ro (runW (R73_2 xc (xc.length : Int) xa xb xc) (((xc.length : Int) - 0).toNat + 1) 0) false (sumE (fun _ => true) (sumE (fun p55 => false) (fun p56 => false))))) (fun _ => false))))) (brS (fun o : Unit ⊕ Unit => some (AV.bool ((sumE (fun _ => (ro (runW (R73_2 xc (xc.length : Int) xa xb xc) (((xc.length : Int) - 0).toNat + 1) 0) false (sumE (fun _ => true) (sumE (fun p55 => false) (fun p56 => false))))) (fun _ => false)) o))) (fun _ => (brO (fun o : Option (Unit ⊕ (Int × Int) ⊕ (Int × Int)) => some (AV.bool (ro o false (sumE (fun _ => true) (sumE (fun p55 => false) (fun p56 => false)))))) (brS (fun o : Unit ⊕ (Int × Int) ⊕ (Int × Int) => some (AV.bool ((sumE (fun _ => true) (sumE (fun p55 => false) (fun p56 => false))) o))) (fun _ => (fun _ => rfl)) (brS (fun o : (Int × Int) ⊕ (Int × Int) => some (AV.bool ((sumE (fun p55 => false) (fun p56 => false)) o))) (fun p55 => (fun _ => rfl)) (fun p56 => (fun _ => rfl)))))) (fun _ => (fun _ => rfl)))))))))) h)
def m73 : TModel
  | [.agg [.sl g0 xa, .sl g1 xb, .sl g2 xc]] => bif ctsEq g0 ([.int .i64]) && ctsEq g1 ([.int .i64]) && ctsEq g2 ([.int .i64, .int .i64]) then some (q73 xa xb xc, AV.bool (v73_0 xa xb xc)) else none
  | _ => none
theorem k73 : Known Try.prog 73 := ⟨Try.f73, Try.func73, by kernel_rfl, by kernel_rfl⟩
theorem meets73 : Meets Try.prog 73 m73 := by
  refine meet (f := Try.f73) (l := [(0, sub [1, 1, 0, 1, 0, 0] (body Try.f73)), (2, sub [1, 1, 1, 0, 1, 0, 0] (body Try.f73)), (4, sub [1, 1, 1, 0, 1, 0, 0, 1, 1, 0, 0, 1, 1, 1, 0, 0] (body Try.f73))]) (hs := [(73, 0, [1, 35, 36, 37]), (73, 2, [1, 50, 51, 52]), (73, 4, [1, 6, 50, 51, 52, 103, 104, 105]), (73, 999, [2]), (73, 1000, [1]), (73, 1001, [1, 35, 36, 37]), (73, 1002, []), (73, 1003, [1, 50, 51, 52]), (73, 1004, [1, 50, 51, 52]), (73, 1005, [1, 6, 50, 51, 52, 103, 104, 105])]) (ts := [(38, m38), (53, m53), (66, m66), (75, m75)]) (ws := []) (is := []) (ls := [(73, 0, l73_0), (73, 2, l73_2), (73, 4, l73_4)]) (lvl := 0) mixed k73 Try.func73 (by kernel_rfl) (loops_cons ok73_0 (loops_cons ok73_2 (loops_cons ok73_4 noLoop))) (allT_cons meets38 (allT_cons meets53 (allT_cons meets66 (allT_cons meets75 allT_nil)))) allM_nil noI fun w xs us r hl hv h => ?_
  unfold m73 at h
  split at h
  · rename_i g0 xa g1 xb g2 xc
    obtain ⟨hg, h⟩ := bif_pair h
    simp only [Bool.and_eq_true] at hg
    obtain ⟨⟨q0, q1⟩, q2⟩ := hg
    obtain rfl := ctsEq_eq _ _ q0
    obtain rfl := ctsEq_eq _ _ q1
    obtain rfl := ctsEq_eq _ _ q2
    obtain ⟨h1, rfl⟩ := pair_inj h
    exact r73 xa xb xc h1
  · cases h

/-! ### 67 loop.example/g01984/impl.AddPivot -/
noncomputable def c67 : Cfg := cfg Try.prog [(67, 999, [4, 5])] [(40, m40), (44, m44), (73, m73)] [] [] []
def q67 (xa : List AV) (xb : List AV) (xc : List AV) (ya : Int) (yb : Int) : Bool := (q44 xa xb xc ya yb && (q73 xa xb xc && (bif !(v73_0 xa xb xc) then q40 xa xb xc else (q73 (v44_0 xa xb xc ya yb) (v44_1 xa xb xc ya yb) (v44_2 xa xb xc ya yb) && (bif !(v73_0 (v44_0 xa xb xc ya yb) (v44_1 xa xb xc ya yb) (v44_2 xa xb xc ya yb)) then q40 xa xb xc else true)))))
def v67_0 (xa : List AV) (xb : List AV) (xc : List AV) (ya : Int) (yb : Int) : List AV := (bif !(v73_0 xa xb xc) then (v40_0 xa xb xc) else (bif !(v73_0 (v44_0 xa xb xc ya yb) (v44_1 xa xb xc ya yb) (v44_2 xa xb xc ya yb)) then (v40_0 xa xb xc) else (v44_0 xa xb xc ya yb)))
def v67_1 (xa : List AV) (xb : List AV) (xc : List AV) (ya : Int) (yb : Int) : List AV := (bif !(v73_0 xa xb xc) then (v40_1 xa xb xc) else (bif !(v73_0 (v44_0 xa xb xc ya yb) (v44_1 xa xb xc ya yb) (v44_2 xa xb xc ya yb)) then (v40_1 xa xb xc) else (v44_1 xa xb xc ya yb)))
def v67_2 (xa : List AV) (xb : List AV) (xc : List AV) (ya : Int) (yb : Int) : List AV := (bif !(v73_0 xa xb xc) then (v40_2 xa xb xc) else (bif !(v73_0 (v44_0 xa xb xc ya yb) (v44_1 xa xb xc ya yb) (v44_2 xa xb xc ya yb)) then (v40_2 xa xb xc) else (v44_2 xa xb xc ya yb)))
def v67_3 (xa : List AV) (xb : List AV) (xc : List AV) (ya : Int) (yb : Int) : Bool := (bif !(v73_0 xa xb xc) then false else (bif !(v73_0 (v44_0 xa xb xc ya yb) (v44_1 xa xb xc ya yb) (v44_2 xa xb xc ya yb)) then false else true))
theorem e67 (xa : List AV) (xb : List AV) (xc : List AV) (ya : Int) (yb : Int) : funA c67 0 67 [AV.agg [AV.sl [.int .i64] xa, AV.sl [.int .i64] xb, AV.sl [.int .i64, .int .i64] xc], AV.agg [AV.int .i64 ya, AV.int .i64 yb]] = (bif q44 xa xb xc ya yb then (bif q73 xa xb xc then (bif !(v73_0 xa xb xc) then (bif q40 xa xb xc then some (AV.tup [AV.agg [AV.fl [.int .i64] (v40_0 xa xb xc), AV.fl [.int .i64] (v40_1 xa xb xc), AV.fl [.int .i64, .int .i64] (v40_2 xa xb xc)], AV.bool false])
  else none)
  else (bif q73 (v44_0 xa xb xc ya yb) (v44_1 xa xb xc ya yb) (v44_2 xa xb xc ya yb) then (bif !(v73_0 (v44_0 xa xb xc ya yb) (v44_1 xa xb xc ya yb) (v44_2 xa xb xc ya yb)) then (bif q40 xa xb xc then some (AV.tup [AV.agg [AV.fl [.int .i64] (v40_0 xa xb xc), AV.fl [.int .i64] (v40_1 xa xb xc), AV.fl [.int .i64, .int .i64] (v40_2 xa xb xc)], AV.bool false])
  else none)
  else some (AV.tup [AV.agg [AV.fl [.int .i64] (v44_0 xa xb xc ya yb), AV.fl [.int .i64] (v44_1 xa xb xc ya yb), AV.fl [.int .i64, .int .i64] (v44_2 xa xb xc ya yb)], AV.bool true]))
  else none))
  else none)
  else none) := by kernel_rfl
theorem r67 (xa : List AV) (xb : List AV) (xc : List AV) (ya : Int) (yb : Int) (h : q67 xa xb xc ya yb = true) : funA c67 0 67 [AV.agg [AV.sl [.int .i64] xa, AV.sl [.int .i64] xb, AV.sl [.int .i64, .int .i64] xc], AV.agg [AV.int .i64 ya, AV.int .i64 yb]] = some (AV.tup [AV.agg [AV.fl [.int .i64] (v67_0 xa xb xc ya yb), AV.fl [.int .i64] (v67_1 xa xb xc ya yb), AV.fl [.int .i64, .int .i64] (v67_2 xa xb xc ya yb)], AV.bool (v67_3 xa xb xc ya yb)]) := (e67 xa xb xc ya yb).trans ((brL (brL (br (fun b => some (AV.tup [AV.agg [AV.fl [.int .i64] (bif b then (v40_0 xa xb xc) else (bif !(v73_0 (v44_0 xa xb xc ya yb) (v44_1 xa xb xc ya yb) (v44_2 xa xb xc ya yb)) then (v40_0 xa xb xc) else (v44_0 xa xb xc ya yb))), AV.fl [.int .i64] (bif b then (v40_1 xa xb xc) else (bif !(v73_0 (v44_0 xa xb xc ya yb) (v44_1 xa xb xc ya yb) (v44_2 xa xb xc ya yb)) then (v40_1 xa xb xc) else (v44_1 xa xb xc ya yb))), AV.fl [.int .i64, .int .i64] (bif b then (v40_2 xa xb xc) else (bif !(v73_0 (v44_0 xa xb xc ya yb) (v44_1 xa xb xc ya yb) (v44_2 xa xb xc ya yb)) then (v40_2 xa xb xc) else (v44_2 xa xb xc ya yb)))], AV.bool (bif b then false else (bif !(v73_0 (v44_0 xa xb xc ya yb) (v44_1 xa xb xc ya yb) (v44_2 xa xb xc ya yb)) then false else true))])) (brL1 (fun _ => rfl)) (brL (br (fun b => some (AV.tup [AV.agg [AV.fl [.int .i64] (bif b then (v40_0 xa xb xc) else (v44_0 xa xb xc ya yb)), AV.fl [.int .i64] (bif b then (v40_1 xa xb xc) else (v44_1 xa xb xc ya yb)), AV.fl [.int .i64, .int .i64] (bif b then (v40_2 xa xb xc) else (v44_2 xa xb xc ya yb))], AV.bool (bif b then false else true)])) (brL1 (fun _ => rfl)) (fun _ => rfl)))))) h)
def m67 : TModel
  | [.agg [.sl g0 xa, .sl g1 xb, .sl g2 xc], .agg [.int .i64 ya, .int .i64 yb]] => bif ctsEq g0 ([.int .i64]) && ctsEq g1 ([.int .i64]) && ctsEq g2 ([.int .i64, .int .i64]) then some (q67 xa xb xc ya yb, AV.tup [AV.agg [AV.fl [.int .i64] (v67_0 xa xb xc ya yb), AV.fl [.int .i64] (v67_1 xa xb xc ya yb), AV.fl [.int .i64, .int .i64] (v67_2 xa xb xc ya yb)], AV.bool (v67_3 xa xb xc ya yb)]) else none
  | _ => none
theorem k67 : Known Try.prog 67 := ⟨Try.f67, Try.func67, by kernel_rfl, by kernel_rfl⟩
theorem meets67 : Meets Try.prog 67 m67 := by
  refine meet (f := Try.f67) (l := []) (hs := [(67, 999, [4, 5])]) (ts := [(40, m40), (44, m44), (73, m73)]) (ws := []) (is := []) (ls := []) (lvl := 0) mixed k67 Try.func67 (by kernel_rfl) noLoop (allT_cons meets40 (allT_cons meets44 (allT_cons meets73 allT_nil))) allM_nil noI fun w xs us r hl hv h => ?_
  unfold m67 at h
  split at h
  · rename_i g0 xa g1 xb g2 xc ya yb
    obtain ⟨hg, h⟩ := bif_pair h
    simp only [Bool.and_eq_true] at hg
    obtain ⟨⟨q0, q1⟩, q2⟩ := hg
    obtain rfl := ctsEq_eq _ _ q0
    obtain rfl := ctsEq_eq _ _ q1
    obtain rfl := ctsEq_eq _ _ q2
    obtain ⟨h1, rfl⟩ := pair_inj h
    exact r67 xa xb xc ya yb h1
  · cases h

/-! ### 68 slices.Clone[[]loop.example/g01984/impl.Swap,loop.example/g01984/impl.Swap] -/
noncomputable def c68 : Cfg := cfg Try.prog [(68, 999, [2])] [] [] [] []
def q68 (a0 : List AV) : Bool := decide (a0.length * 16 ≤ 140737488355328) && decide (a0.length ≤ 140737488355328)
def v68_0 (a0 : List AV) : List AV := a0
theorem e68 (a0 : List AV) : funA c68 0 68 [AV.sl [.int .i64, .int .i64] a0] = (bif decide (0 < a0.length) then (bif (decide ((([] : List AV).length + a0.length) * 16 ≤ 140737488355328) && decide ((([] : List AV).length + a0.length) ≤ 140737488355328)) then some (AV.fl [.int .i64, .int .i64] (([] : List AV) ++ a0))
  else none)
  else none) := by kernel_rfl
theorem e68n (b : Bool) : funA c68 0 68 [AV.sle b [.int .i64, .int .i64]] = some (AV.fl [.int .i64, .int .i64] []) := by cases b <;> kernel_rfl
def m68 : TModel
  | [.sl g0 a0] => bif ctsEq g0 [.int .i64, .int .i64] then some (q68 a0, AV.fl [.int .i64, .int .i64] (v68_0 a0)) else none
  | _ => none
theorem k68 : Known Try.prog 68 := ⟨Try.f68, Try.func68, by kernel_rfl, by kernel_rfl⟩
theorem meets68 : Meets Try.prog 68 m68 := by
  refine meet_nil (f := Try.f68) (l := []) (hs := [(68, 999, [2])]) (ts := []) (ws := []) (is := []) (ls := []) (lvl := 0) (tys := [.int .i64, .int .i64]) mixed k68 Try.func68 (by kernel_rfl) noLoop allT_nil allM_nil noI (fun xs r h => ?_) (fun b r h => ?_) (fun ys r h0 h => ?_)
  · unfold m68 at h
    split at h
    · rename_i g0 a0
      obtain ⟨hg, h⟩ := bif_pair h
      obtain rfl := ctsEq_eq _ _ hg
      exact ⟨a0, rfl⟩
    · cases h
  · obtain ⟨hg, h⟩ := bif_pair (g := ctsEq [.int .i64, .int .i64] [.int .i64, .int .i64]) h
    obtain ⟨_, rfl⟩ := pair_inj h
    exact e68n b
  · obtain ⟨hg, h⟩ := bif_pair (g := ctsEq [.int .i64, .int .i64] [.int .i64, .int .i64]) h
    obtain ⟨hq, rfl⟩ := pair_inj h
    refine (e68 ys).trans ?_
    unfold q68 at hq
    have e : ([] : List AV).length + ys.length = ys.length := by simp
    rw [e, hq, decide_eq_true h0]
    rfl

/-! ### 69 slices.Reverse[[]loop.example/g01984/impl.Swap,loop.example/g01984/impl.Swap] -/
def F69_0 (t2 : Int) (t3 : Int) (h0 : List AV) : Out ((Int × Int × (List AV))) (((List AV))) := (bif decide (t2 < t3) then (bif (decide (0 ≤ t3) && decide (t3 < (h0.length : Int))) then (bif (decide (0 ≤ t2) && decide (t2 < (h0.length : Int))) then (bif (decide (0 ≤ t2) && decide (t2 < (h0.length : Int))) then (bif (decide (0 ≤ t3) && decide (t3 < ((h0.set t2.toNat (AV.agg [AV.int .i64 (fI (h0.getD t3.toNat .undef) 0), AV.int .i64 (fI (h0.getD t3.toNat .undef) 1)])).length : Int))) then .next (IntKind.i64.wrap (t2 + 1), IntKind.i64.wrap (t3 - 1), (h0.set t2.toNat (AV.agg [AV.int .i64 (fI (h0.getD t3.toNat .undef) 0), AV.int .i64 (fI (h0.getD t3.toNat .undef) 1)])).set t3.toNat (AV.agg [AV.int .i64 (fI (h0.getD t2.toNat .undef) 0), AV.int .i64 (fI (h0.getD t2.toNat .undef) 1)]))
  else .fail)
  else .fail)
  else .fail)
  else .fail)
  else .stop h0)
def R69_0 : ((Int × Int × (List AV))) → Out ((Int × Int × (List AV))) (((List AV))) := fun s : Int × Int × (List AV) => F69_0 s.1 s.2.1 s.2.2
def l69_0 : LModel := fun _ _ st k => match st with
  | ⟨[(0, .own g0), (2, .int .i64 t2), (3, .int .i64 t3)], [(g1, ⟨false, g2, h0⟩)]⟩ => bif nmEq g0 ([1]) && nmEq g1 ([1]) && ctsEq g2 ([.int .i64, .int .i64]) then ro (runW (R69_0) ((t3 - t2).toNat + 1) (t2, t3, h0)) none (fun p : (List AV) => k (.exit 0) ⟨[], [([1], ⟨false, [.int .i64, .int .i64], p⟩)]⟩) else none
  | _ => none
noncomputable def c69 : Cfg := cfg Try.prog [(69, 0, [0, 2, 3]), (69, 999, []), (69, 1000, []), (69, 1001, [0, 2, 3])] [] [] [] [(69, 0, l69_0)]
theorem s69_0 (ce : CallE) (t2 : Int) (t3 : Int) (h0 : List AV) (next : St → Option AV) (k : Kont) : stepA (codeA c69 ce [0] 69 0 (sub [1, 0, 0] (body Try.f69))) (normA [0] [0, 2, 3]) next ⟨[(0, AV.own [1]), (2, AV.int .i64 t2), (3, AV.int .i64 t3)], [([1], ⟨false, [.int .i64, .int .i64], h0⟩)]⟩ k = (bif decide (t2 < t3) then (bif (decide (0 ≤ t3) && decide (t3 < (h0.length : Int))) then (bif (decide (0 ≤ t2) && decide (t2 < (h0.length : Int))) then (bif (decide (0 ≤ t2) && decide (t2 < (h0.length : Int))) then (bif (decide (0 ≤ t3) && decide (t3 < ((h0.set t2.toNat (AV.agg [AV.int .i64 (fI (h0.getD t3.toNat .undef) 0), AV.int .i64 (fI (h0.getD t3.toNat .undef) 1)])).length : Int))) then next ⟨[(0, AV.own [1]), (2, AV.int .i64 (IntKind.i64.wrap (t2 + 1))), (3, AV.int .i64 (IntKind.i64.wrap (t3 - 1)))], [([1], ⟨false, [.int .i64, .int .i64], (h0.set t2.toNat (AV.agg [AV.int .i64 (fI (h0.getD t3.toNat .undef) 0), AV.int .i64 (fI (h0.getD t3.toNat .undef) 1)])).set t3.toNat (AV.agg [AV.int .i64 (fI (h0.getD t2.toNat .undef) 0), AV.int .i64 (fI (h0.getD t2.toNat .undef) 1)])⟩)]⟩
  else none)
  else none)
  else none)
  else none)
  else k (.exit 0) ⟨[], [([1], ⟨false, [.int .i64, .int .i64], h0⟩)]⟩) := by kernel_rfl
theorem st69_0 (ce : CallE) (k : Kont) (s : (Int × Int × (List AV))) (next : St → Option AV) : stepA (codeA c69 ce [0] 69 0 (sub [1, 0, 0] (body Try.f69))) (normA [0] [0, 2, 3]) next ((fun s : Int × Int × (List AV) => ⟨[(0, AV.own [1]), (2, AV.int .i64 s.1), (3, AV.int .i64 s.2.1)], [([1], ⟨false, [.int .i64, .int .i64], s.2.2⟩)]⟩) s) k = (R69_0 s).el none (fun s => next ((fun s : Int × Int × (List AV) => ⟨[(0, AV.own [1]), (2, AV.int .i64 s.1), (3, AV.int .i64 s.2.1)], [([1], ⟨false, [.int .i64, .int .i64], s.2.2⟩)]⟩) s)) (fun p : (List AV) => k (.exit 0) ⟨[], [([1], ⟨false, [.int .i64, .int .i64], p⟩)]⟩) := (s69_0 ce s.1 s.2.1 s.2.2 next k).trans (by unfold R69_0; unfold F69_0; simp only [el_cond, el_ro, el_sum, el_fail, el_next, el_stop] <;> rfl)
theorem ok69_0 {ce : CallE} : LoopOK c69 ce [0] 69 0 (sub [1, 0, 0] (body Try.f69)) := by
  intro m hm st k r h
  obtain rfl : l69_0 = m := Option.some.inj hm
  unfold l69_0 at h
  split at h
  · rename_i g0 t2 t3 g1 g2 h0
    obtain ⟨hg, h⟩ := bif_some h
    simp only [Bool.and_eq_true] at hg
    obtain ⟨⟨q0, q1⟩, q2⟩ := hg
    obtain rfl := (nmEq_iff _ _).1 q0
    obtain rfl := (nmEq_iff _ _).1 q1
    obtain rfl := ctsEq_eq _ _ q2
    refine ⟨((t3 - t2).toNat + 1), ?_⟩
    rw [← h]
    exact loop_run (fun s : Int × Int × (List AV) => ⟨[(0, AV.own [1]), (2, AV.int .i64 s.1), (3, AV.int .i64 s.2.1)], [([1], ⟨false, [.int .i64, .int .i64], s.2.2⟩)]⟩) (fun p : (List AV) => k (.exit 0) ⟨[], [([1], ⟨false, [.int .i64, .int .i64], p⟩)]⟩) (st69_0 ce k) _ (t2, t3, h0)
  · cases h
def q69 (b0 : List AV) : Bool := (ro (runW (R69_0) (((IntKind.i64.wrap ((b0.length : Int) - 1)) - 0).toNat + 1) (0, IntKind.i64.wrap ((b0.length : Int) - 1), b0)) false (fun p59 => true))
def v69_0 (b0 : List AV) : List AV := (ro (runW (R69_0) (((IntKind.i64.wrap ((b0.length : Int) - 1)) - 0).toNat + 1) (0, IntKind.i64.wrap ((b0.length : Int) - 1), b0)) [] (fun p59 => p59))
theorem e69 (b0 : List AV) (K : AV → List Blk → Option AV) : inlA c69 1 69 [AV.own [1]] [0] (canH 1 [⟨false, [.int .i64, .int .i64], b0⟩]) (keepB 1 K) = (ro (runW (R69_0) (((IntKind.i64.wrap ((b0.length : Int) - 1)) - 0).toNat + 1) (0, IntKind.i64.wrap ((b0.length : Int) - 1), b0)) none (fun p59 => K (AV.tup []) [⟨false, [.int .i64, .int .i64], p59⟩])) := by kernel_rfl
theorem r69 (b0 : List AV) (K : AV → List Blk → Option AV) (h : q69 b0 = true) : inlA c69 1 69 [AV.own [1]] [0] (canH 1 [⟨false, [.int .i64, .int .i64], b0⟩]) (keepB 1 K) = K (AV.tup []) [⟨false, [.int .i64, .int .i64], (v69_0 b0)⟩] := (e69 b0 K).trans ((brO (fun o : Option (((List AV))) => K (AV.tup []) [⟨false, [.int .i64, .int .i64], (ro o [] (fun p59 => p59))⟩]) (fun p59 => (fun _ => rfl))) h)
def m69 : WModel
  | [.own g0], [⟨false, g1, b0⟩] => bif nmEq g0 ([1]) && ctsEq g1 ([.int .i64, .int .i64]) then some (q69 b0, AV.tup [], [⟨false, [.int .i64, .int .i64], (v69_0 b0)⟩]) else none
  | _, _ => none
theorem k69 : Known Try.prog 69 := ⟨Try.f69, Try.func69, by kernel_rfl, by kernel_rfl⟩
theorem meets69 : MeetsM Try.prog 69 m69 := by
  refine meetM (f := Try.f69) (l := [(0, sub [1, 0, 0] (body Try.f69))]) (hs := [(69, 0, [0, 2, 3]), (69, 999, []), (69, 1000, []), (69, 1001, [0, 2, 3])]) (ts := []) (ws := []) (is := []) (ls := [(69, 0, l69_0)]) (lvl := 0) mixed k69 Try.func69 (by kernel_rfl) (loops_cons ok69_0 noLoop) allT_nil allM_nil noI fun C w xs us bs r bs' hl hv hh h K => ?_
  unfold m69 at h
  split at h
  · rename_i g0 g1 b0
    obtain ⟨hg, h⟩ := bif_pair h
    simp only [Bool.and_eq_true] at hg
    obtain ⟨q0, q1⟩ := hg
    obtain rfl := (nmEq_iff _ _).1 q0
    obtain rfl := ctsEq_eq _ _ q1
    obtain ⟨h1, rfl, rfl⟩ := trip_inj h
    exact r69 b0 K h1
  · cases h

/-! ### 56 loop.example/g01984/impl.UndoSwaps -/
noncomputable def c56 : Cfg := cfg Try.prog [(56, 999, [4, 5])] [(43, m43), (68, m68)] [(69, m69)] [] []
def q56 (xa : List AV) (xb : List AV) (xc : List AV) (a1 : List AV) : Bool := (q68 a1 && (q69 (v68_0 a1) && q43 xa xb xc (v69_0 (v68_0 a1))))
def v56_0 (xa : List AV) (xb : List AV) (xc : List AV) (a1 : List AV) : List AV := (v43_0 xa xb xc (v69_0 (v68_0 a1)))
def v56_1 (xa : List AV) (xb : List AV) (xc : List AV) (a1 : List AV) : List AV := (v43_1 xa xb xc (v69_0 (v68_0 a1)))
def v56_2 (xa : List AV) (xb : List AV) (xc : List AV) (a1 : List AV) : List AV := (v43_2 xa xb xc (v69_0 (v68_0 a1)))
def v56_3 (xa : List AV) (xb : List AV) (xc : List AV) (a1 : List AV) : Bool := (v43_3 xa xb xc (v69_0 (v68_0 a1)))
theorem e56 (xa : List AV) (xb : List AV) (xc : List AV) (a1 : List AV) : funA c56 0 56 [AV.agg [AV.sl [.int .i64] xa, AV.sl [.int .i64] xb, AV.sl [.int .i64, .int .i64] xc], AV.sl [.int .i64, .int .i64] a1] = (bif q68 a1 then (bif q69 (v68_0 a1) then (bif q43 xa xb xc (v69_0 (v68_0 a1)) then some (AV.tup [AV.agg [AV.fl [.int .i64] (v43_0 xa xb xc (v69_0 (v68_0 a1))), AV.fl [.int .i64] (v43_1 xa xb xc (v69_0 (v68_0 a1))), AV.fl [.int .i64, .int .i64] (v43_2 xa xb xc (v69_0 (v68_0 a1)))], AV.bool (v43_3 xa xb xc (v69_0 (v68_0 a1)))])
  else none)
  else none)
  else none) := by kernel_rfl
theorem r56 (xa : List AV) (xb : List AV) (xc : List AV) (a1 : List AV) (h : q56 xa xb xc a1 = true) : funA c56 0 56 [AV.agg [AV.sl [.int .i64] xa, AV.sl [.int .i64] xb, AV.sl [.int .i64, .int .i64] xc], AV.sl [.int .i64, .int .i64] a1] = some (AV.tup [AV.agg [AV.fl [.int .i64] (v56_0 xa xb xc a1), AV.fl [.int .i64] (v56_1 xa xb xc a1), AV.fl [.int .i64, .int .i64] (v56_2 xa xb xc a1)], AV.bool (v56_3 xa xb xc a1)]) := (e56 xa xb xc a1).trans ((brL (brL (brL1 (fun _ => rfl)))) h)
def m56 : TModel
  | [.agg [.sl g0 xa, .sl g1 xb, .sl g2 xc], .sl g3 a1] => bif ctsEq g0 ([.int .i64]) && ctsEq g1 ([.int .i64]) && ctsEq g2 ([.int .i64, .int .i64]) && ctsEq g3 ([.int .i64, .int .i64]) then some (q56 xa xb xc a1, AV.tup [AV.agg [AV.fl [.int .i64] (v56_0 xa xb xc a1), AV.fl [.int .i64] (v56_1 xa xb xc a1), AV.fl [.int .i64, .int .i64] (v56_2 xa xb xc a1)], AV.bool (v56_3 xa xb xc a1)]) else none
  | _ => none
theorem k56 : Known Try.prog 56 := ⟨Try.f56, Try.func56, by kernel_rfl, by kernel_rfl⟩
theorem meets56 : Meets Try.prog 56 m56 := by
  refine meet (f := Try.f56) (l := []) (hs := [(56, 999, [4, 5])]) (ts := [(43, m43), (68, m68)]) (ws := [(69, m69)]) (is := []) (ls := []) (lvl := 0) mixed k56 Try.func56 (by kernel_rfl) noLoop (allT_cons meets43 (allT_cons meets68 allT_nil)) (allM_cons meets69 allM_nil) noI fun w xs us r hl hv h => ?_
  unfold m56 at h
  split at h
  · rename_i g0 xa g1 xb g2 xc g3 a1
    obtain ⟨hg, h⟩ := bif_pair h
    simp only [Bool.and_eq_true] at hg
    obtain ⟨⟨⟨q0, q1⟩, q2⟩, q3⟩ := hg
    obtain rfl := ctsEq_eq _ _ q0
    obtain rfl := ctsEq_eq _ _ q1
    obtain rfl := ctsEq_eq _ _ q2
    obtain rfl := ctsEq_eq _ _ q3
    obtain ⟨h1, rfl⟩ := pair_inj h
    exact r56 xa xb xc a1 h1
  · cases h
end Go.Proofs.Ytmlhhemflhiinaa
