/- The walk of what this claim reaches: printed by a program, each equation checked by the kernel. -/
import Derived.Test.YtdhhceamknidmaaBL1
import Derived.Test.YtdhhceamknidmaaProg
import Derived.KernelRfl
namespace Go.Proofs.Ytdhhceamknidmaa
open Go Go.Proofs.VE
set_option linter.unusedVariables false
set_option linter.unusedSimpArgs false
set_option maxRecDepth 100000
set_option maxHeartbeats 4000000
/-! ### 84 loop.example/g01984/impl.AreValues -/
noncomputable def c84 : Cfg := cfg Try.prog [(84, 999, [2])] [(112, m112)] [] [] []
def q84 (a0 : List AV) : Bool := (bif decide ((a0.length : Int) ≤ 64) then q112 a0 (-999) 999 else true)
def v84_0 (a0 : List AV) : Bool := (bif decide ((a0.length : Int) ≤ 64) then (v112_0 a0 (-999) 999) else false)
theorem e84 (a0 : List AV) : funA c84 0 84 [AV.sl [.int .i64] a0] = (bif decide ((a0.length : Int) ≤ 64) then (bif q112 a0 (-999) 999 then some (AV.bool (v112_0 a0 (-999) 999))
  else none)
  else some (AV.bool false)) := by kernel_rfl
theorem r84 (a0 : List AV) (h : q84 a0 = true) : funA c84 0 84 [AV.sl [.int .i64] a0] = some (AV.bool (v84_0 a0)) := (e84 a0).trans ((br (fun b => some (AV.bool (bif b then (v112_0 a0 (-999) 999) else false))) (brL1 (fun _ => rfl)) (fun _ => rfl)) h)
def m84 : TModel
  | [.sl g0 a0] => bif ctsEq g0 ([.int .i64]) then some (q84 a0, AV.bool (v84_0 a0)) else none
  | _ => none
theorem k84 : Known Try.prog 84 := ⟨Try.f84, Try.func84, by kernel_rfl, by kernel_rfl⟩
theorem meets84 : Meets Try.prog 84 m84 := by
  refine meet (f := Try.f84) (l := []) (hs := [(84, 999, [2])]) (ts := [(112, m112)]) (ws := []) (is := []) (ls := []) (lvl := 0) mixed k84 Try.func84 (by kernel_rfl) noLoop (allT_cons meets112 allT_nil) allM_nil noI fun w xs us r hl hv h => ?_
  unfold m84 at h
  split at h
  · rename_i g0 a0
    obtain ⟨hg, h⟩ := bif_pair h
    have q0 := hg
    obtain rfl := ctsEq_eq _ _ q0
    obtain ⟨h1, rfl⟩ := pair_inj h
    exact r84 a0 h1
  · cases h

/-! ### 143 slices.Index[[]int,int] -/
def F143_0 (t0 : List AV) (t1 : Int) (t7 : Int) (t8 : Int) : Out (Int) (Unit ⊕ Int) := (bif decide (t8 < t7) then (bif (decide (0 ≤ t8) && decide (t8 < (t0.length : Int))) then (bif decide (t1 = fI (t0.getD t8.toNat AV.undef) 0) then .stop (.inr t8)
  else .next (IntKind.i64.wrap (t8 + 1)))
  else .fail)
  else .stop (.inl ()))
def R143_0 (t0 : List AV) (t1 : Int) (t7 : Int) : (Int) → Out (Int) (Unit ⊕ Int) := fun s : Int => F143_0 t0 t1 t7 s
def l143_0 : LModel := fun _ _ st k => match st with
  | ⟨[(0, .sl g0 t0), (1, .int .i64 t1), (7, .int .i64 t7), (8, .int .i64 t8)], []⟩ => bif ctsEq g0 ([.int .i64]) then ro (runW (R143_0 t0 t1 t7) ((t7 - t8).toNat + 1) t8) none (sumE (fun _ : Unit => k (.exit 0) ⟨[], []⟩) (fun p : Int => k .ret ⟨[(4, AV.int .i64 p)], []⟩)) else none
  | _ => none
noncomputable def c143 : Cfg := cfg Try.prog [(143, 0, [0, 1, 7, 8]), (143, 999, [4]), (143, 1000, []), (143, 1001, [0, 1, 7, 8])] [] [] [] [(143, 0, l143_0)]
theorem s143_0 (ce : CallE) (t0 : List AV) (t1 : Int) (t7 : Int) (t8 : Int) (next : St → Option AV) (k : Kont) : stepA (codeA c143 ce [] 143 0 (sub [1, 0, 1, 0, 0] (body Try.f143))) (normA [] [0, 1, 7, 8]) next ⟨[(0, AV.sl [.int .i64] t0), (1, AV.int .i64 t1), (7, AV.int .i64 t7), (8, AV.int .i64 t8)], []⟩ k = (bif decide (t8 < t7) then (bif (decide (0 ≤ t8) && decide (t8 < (t0.length : Int))) then (bif decide (t1 = fI (t0.getD t8.toNat AV.undef) 0) then k .ret ⟨[(4, AV.int .i64 t8)], []⟩
  else next ⟨[(0, AV.sl [.int .i64] t0), (1, AV.int .i64 t1), (7, AV.int .i64 t7), (8, AV.int .i64 (IntKind.i64.wrap (t8 + 1)))], []⟩)
  else none)
  else k (.exit 0) ⟨[], []⟩) := by kernel_rfl
theorem st143_0 (t0 : List AV) (t1 : Int) (t7 : Int) (ce : CallE) (k : Kont) (s : Int) (next : St → Option AV) : stepA (codeA c143 ce [] 143 0 (sub [1, 0, 1, 0, 0] (body Try.f143))) (normA [] [0, 1, 7, 8]) next ((fun s : Int => ⟨[(0, AV.sl [.int .i64] t0), (1, AV.int .i64 t1), (7, AV.int .i64 t7), (8, AV.int .i64 s)], []⟩) s) k = (R143_0 t0 t1 t7 s).el none (fun s => next ((fun s : Int => ⟨[(0, AV.sl [.int .i64] t0), (1, AV.int .i64 t1), (7, AV.int .i64 t7), (8, AV.int .i64 s)], []⟩) s)) (sumE (fun _ : Unit => k (.exit 0) ⟨[], []⟩) (fun p : Int => k .ret ⟨[(4, AV.int .i64 p)], []⟩)) := (s143_0 ce t0 t1 t7 s next k).trans (by unfold R143_0; unfold F143_0; simp only [el_cond, el_ro, el_sum, el_fail, el_next, el_stop] <;> rfl)
theorem ok143_0 {ce : CallE} : LoopOK c143 ce [] 143 0 (sub [1, 0, 1, 0, 0] (body Try.f143)) := by
  intro m hm st k r h
  obtain rfl : l143_0 = m := Option.some.inj hm
  unfold l143_0 at h
  split at h
  · rename_i g0 t0 t1 t7 t8
    obtain ⟨hg, h⟩ := bif_some h
    have q0 := hg
    obtain rfl := ctsEq_eq _ _ q0
    refine ⟨((t7 - t8).toNat + 1), ?_⟩
    rw [← h]
    exact loop_run (fun s : Int => ⟨[(0, AV.sl [.int .i64] t0), (1, AV.int .i64 t1), (7, AV.int .i64 t7), (8, AV.int .i64 s)], []⟩) (sumE (fun _ : Unit => k (.exit 0) ⟨[], []⟩) (fun p : Int => k .ret ⟨[(4, AV.int .i64 p)], []⟩)) (st143_0 t0 t1 t7 ce k) _ t8
  · cases h
def q143 (a0 : List AV) (a1 : Int) : Bool := (ro (runW (R143_0 a0 a1 (a0.length : Int)) (((a0.length : Int) - 0).toNat + 1) 0) false (sumE (fun _ => true) (fun p37 => true)))
def v143_0 (a0 : List AV) (a1 : Int) : Int := (ro (runW (R143_0 a0 a1 (a0.length : Int)) (((a0.length : Int) - 0).toNat + 1) 0) 0 (sumE (fun _ => (-1)) (fun p37 => p37)))
theorem e143 (a0 : List AV) (a1 : Int) : funA c143 0 143 [AV.sl [.int .i64] a0, AV.int .i64 a1] = (ro (runW (R143_0 a0 a1 (a0.length : Int)) (((a0.length : Int) - 0).toNat + 1) 0) none (sumE (fun _ => some (AV.int .i64 (-1))) (fun p37 => some (AV.int .i64 p37)))) := by kernel_rfl
theorem r143 (a0 : List AV) (a1 : Int) (h : q143 a0 a1 = true) : funA c143 0 143 [AV.sl [.int .i64] a0, AV.int .i64 a1] = some (AV.int .i64 (v143_0 a0 a1)) := (e143 a0 a1).trans ((brO (fun o : Option (Unit ⊕ Int) => some (AV.int .i64 (ro o 0 (sumE (fun _ => (-1)) (fun p37 => p37))))) (brS (fun o : Unit ⊕ Int => some (AV.int .i64 ((sumE (fun _ => (-1)) (fun p37 => p37)) o))) (fun _ => (fun _ => rfl)) (fun p37 => (fun _ => rfl)))) h)
def m143 : TModel
  | [.sl g0 a0, .int .i64 a1] => bif ctsEq g0 ([.int .i64]) then some (q143 a0 a1, AV.int .i64 (v143_0 a0 a1)) else none
  | _ => none
theorem k143 : Known Try.prog 143 := ⟨Try.f143, Try.func143, by kernel_rfl, by kernel_rfl⟩
theorem meets143 : Meets Try.prog 143 m143 := by
  refine meet (f := Try.f143) (l := [(0, sub [1, 0, 1, 0, 0] (body Try.f143))]) (hs := [(143, 0, [0, 1, 7, 8]), (143, 999, [4]), (143, 1000, []), (143, 1001, [0, 1, 7, 8])]) (ts := []) (ws := []) (is := []) (ls := [(143, 0, l143_0)]) (lvl := 0) mixed k143 Try.func143 (by kernel_rfl) (loops_cons ok143_0 noLoop) allT_nil allM_nil noI fun w xs us r hl hv h => ?_
  unfold m143 at h
  split at h
  · rename_i g0 a0 a1
    obtain ⟨hg, h⟩ := bif_pair h
    have q0 := hg
    obtain rfl := ctsEq_eq _ _ q0
    obtain ⟨h1, rfl⟩ := pair_inj h
    exact r143 a0 a1 h1
  · cases h

/-! ### 113 slices.Contains[[]int,int] -/
noncomputable def c113 : Cfg := cfg Try.prog [(113, 999, [4])] [(143, m143)] [] [] []
def q113 (a0 : List AV) (a1 : Int) : Bool := q143 a0 a1
def v113_0 (a0 : List AV) (a1 : Int) : Bool := decide ((v143_0 a0 a1) ≥ 0)
theorem e113 (a0 : List AV) (a1 : Int) : funA c113 0 113 [AV.sl [.int .i64] a0, AV.int .i64 a1] = (bif q143 a0 a1 then some (AV.bool (decide ((v143_0 a0 a1) ≥ 0)))
  else none) := by kernel_rfl
theorem r113 (a0 : List AV) (a1 : Int) (h : q113 a0 a1 = true) : funA c113 0 113 [AV.sl [.int .i64] a0, AV.int .i64 a1] = some (AV.bool (v113_0 a0 a1)) := (e113 a0 a1).trans ((brL1 (fun _ => rfl)) h)
def m113 : TModel
  | [.sl g0 a0, .int .i64 a1] => bif ctsEq g0 ([.int .i64]) then some (q113 a0 a1, AV.bool (v113_0 a0 a1)) else none
  | _ => none
theorem k113 : Known Try.prog 113 := ⟨Try.f113, Try.func113, by kernel_rfl, by kernel_rfl⟩
theorem meets113 : Meets Try.prog 113 m113 := by
  refine meet (f := Try.f113) (l := []) (hs := [(113, 999, [4])]) (ts := [(143, m143)]) (ws := []) (is := []) (ls := []) (lvl := 0) mixed k113 Try.func113 (by kernel_rfl) noLoop (allT_cons meets143 allT_nil) allM_nil noI fun w xs us r hl hv h => ?_
  unfold m113 at h
  split at h
  · rename_i g0 a0 a1
    obtain ⟨hg, h⟩ := bif_pair h
    have q0 := hg
    obtain rfl := ctsEq_eq _ _ q0
    obtain ⟨h1, rfl⟩ := pair_inj h
    exact r113 a0 a1 h1
  · cases h

/-! ### 114 loop.example/g01984/impl.bound -/
noncomputable def c114 : Cfg := cfg Try.prog [(114, 999, [2])] [] [] [] []
def q114 (a0 : Int) : Bool := true
def v114_0 (a0 : Int) : Bool := (bif decide (a0 ≥ (-1000)) then decide (a0 ≤ 1000) else false)
theorem e114 (a0 : Int) : funA c114 0 114 [AV.int .i64 a0] = (bif decide (a0 ≥ (-1000)) then some (AV.bool (decide (a0 ≤ 1000)))
  else some (AV.bool false)) := by kernel_rfl
theorem r114 (a0 : Int) : funA c114 0 114 [AV.int .i64 a0] = some (AV.bool (v114_0 a0)) := (e114 a0).trans (of_tt (brT (fun b => some (AV.bool (bif b then decide (a0 ≤ 1000) else false))) (fun _ => rfl) (fun _ => rfl)))
def m114 : TModel
  | [.int .i64 a0] => some (true, AV.bool (v114_0 a0))
  | _ => none
theorem k114 : Known Try.prog 114 := ⟨Try.f114, Try.func114, by kernel_rfl, by kernel_rfl⟩
theorem meets114 : Meets Try.prog 114 m114 := by
  refine meet (f := Try.f114) (l := []) (hs := [(114, 999, [2])]) (ts := []) (ws := []) (is := []) (ls := []) (lvl := 0) mixed k114 Try.func114 (by kernel_rfl) noLoop allT_nil allM_nil noI fun w xs us r hl hv h => ?_
  unfold m114 at h
  split at h
  · rename_i a0
    obtain ⟨h1, rfl⟩ := pair_inj h
    exact r114 a0
  · cases h

/-! ### 70 loop.example/g01984/impl.IsCracker -/
def F70_4 (t50 : List AV) (t51 : Int) (t52 : Int) (t103 : List AV) (t104 : Int) (h0_0 : List AV) (h0_1 : List AV) (h0_2 : List AV) (h1_0 : Int) (h1_1 : Int) (t105 : Int) : Out (Int) (Unit ⊕ Unit) := (bif decide (t105 < t104) then (bif (decide (0 ≤ t105) && decide (t105 < (t103.length : Int))) then (bif !(decide (fI (t103.getD t105.toNat AV.undef) 0 < h1_0) == decide (t105 < h1_1)) then .stop (.inr ())
  else .next (IntKind.i64.wrap (t105 + 1)))
  else .fail)
  else .stop (.inl ()))
def R70_4 (t50 : List AV) (t51 : Int) (t52 : Int) (t103 : List AV) (t104 : Int) (h0_0 : List AV) (h0_1 : List AV) (h0_2 : List AV) (h1_0 : Int) (h1_1 : Int) : (Int) → Out (Int) (Unit ⊕ Unit) := fun s : Int => F70_4 t50 t51 t52 t103 t104 h0_0 h0_1 h0_2 h1_0 h1_1 s
def l70_4 : LModel := fun _ _ st k => match st with
  | ⟨[(1, .ptr g0 g1 g2), (6, .ptr g3 g4 g5), (50, .sl g6 t50), (51, .int .i64 t51), (52, .int .i64 t52), (103, .sl g7 t103), (104, .int .i64 t104), (105, .int .i64 t105)], [(g8, ⟨true, [], [.agg [.sl g9 h0_0, .sl g10 h0_1, .sl g11 h0_2]]⟩), (g12, ⟨true, [], [.agg [.int .i64 h1_0, .int .i64 h1_1]]⟩)]⟩ => bif nmEq g0 ([0, 1]) && Nat.beq g1 0 && Nat.beq g2 0 && nmEq g3 ([0, 6]) && Nat.beq g4 0 && Nat.beq g5 0 && ctsEq g6 ([.int .i64, .int .i64]) && ctsEq g7 ([.int .i64]) && nmEq g8 ([0, 1]) && ctsEq g9 ([.int .i64]) && ctsEq g10 ([.int .i64]) && ctsEq g11 ([.int .i64, .int .i64]) && nmEq g12 ([0, 6]) then ro (runW (R70_4 t50 t51 t52 t103 t104 h0_0 h0_1 h0_2 h1_0 h1_1) ((t104 - t105).toNat + 1) t105) none (sumE (fun _ : Unit => k (.exit 4) ⟨[(1, AV.ptr [0, 1] 0 0), (50, AV.sl [.int .i64, .int .i64] t50), (51, AV.int .i64 t51), (52, AV.int .i64 t52)], [([0, 1], ⟨true, [], [AV.agg [AV.sl [.int .i64] h0_0, AV.sl [.int .i64] h0_1, AV.sl [.int .i64, .int .i64] h0_2]]⟩), ([0, 6], ⟨true, [], [AV.agg [AV.int .i64 h1_0, AV.int .i64 h1_1]]⟩)]⟩) (fun _ : Unit => k .ret ⟨[(2, AV.bool false)], [([0, 1], ⟨true, [], [AV.agg [AV.sl [.int .i64] h0_0, AV.sl [.int .i64] h0_1, AV.sl [.int .i64, .int .i64] h0_2]]⟩), ([0, 6], ⟨true, [], [AV.agg [AV.int .i64 h1_0, AV.int .i64 h1_1]]⟩)]⟩)) else none
  | _ => none
def F70_2 (t50 : List AV) (t51 : Int) (h0_0 : List AV) (h0_1 : List AV) (h0_2 : List AV) (t52 : Int) : Out (Int) (Unit ⊕ (Int × Int) ⊕ (Int × Int)) := (bif decide (t52 < t51) then (bif (decide (0 ≤ t52) && decide (t52 < (t50.length : Int))) then (bif !(v114_0 (fI (t50.getD t52.toNat AV.undef) 0)) then .stop (.inr (.inl (fI (t50.getD t52.toNat AV.undef) 0, fI (t50.getD t52.toNat AV.undef) 1)))
  else (bif decide (fI (t50.getD t52.toNat AV.undef) 1 < 0) then .stop (.inr (.inl (fI (t50.getD t52.toNat AV.undef) 0, fI (t50.getD t52.toNat AV.undef) 1)))
  else (bif decide (fI (t50.getD t52.toNat AV.undef) 1 > (h0_0.length : Int)) then .stop (.inr (.inl (fI (t50.getD t52.toNat AV.undef) 0, fI (t50.getD t52.toNat AV.undef) 1)))
  else (bif decide (t52 > 0) then (bif (decide (0 ≤ IntKind.i64.wrap (t52 - 1)) && decide (IntKind.i64.wrap (t52 - 1) < (h0_2.length : Int))) then (bif decide (fI (t50.getD t52.toNat AV.undef) 0 ≤ fI (h0_2.getD (IntKind.i64.wrap (t52 - 1)).toNat AV.undef) 0) then .stop (.inr (.inl (fI (t50.getD t52.toNat AV.undef) 0, fI (t50.getD t52.toNat AV.undef) 1)))
  else (bif (decide (0 ≤ IntKind.i64.wrap (t52 - 1)) && decide (IntKind.i64.wrap (t52 - 1) < (h0_2.length : Int))) then (bif decide (fI (t50.getD t52.toNat AV.undef) 1 < fI (h0_2.getD (IntKind.i64.wrap (t52 - 1)).toNat AV.undef) 1) then .stop (.inr (.inl (fI (t50.getD t52.toNat AV.undef) 0, fI (t50.getD t52.toNat AV.undef) 1)))
  else (ro (runW (R70_4 t50 t51 t52 h0_0 (h0_0.length : Int) h0_0 h0_1 h0_2 (fI (t50.getD t52.toNat AV.undef) 0) (fI (t50.getD t52.toNat AV.undef) 1)) (((h0_0.length : Int) - 0).toNat + 1) 0) .fail (sumE (fun _ => .next (IntKind.i64.wrap (t52 + 1))) (fun _ => .stop (.inr (.inr (fI (t50.getD t52.toNat AV.undef) 0, fI (t50.getD t52.toNat AV.undef) 1)))))))
  else .fail))
  else .fail)
  else (ro (runW (R70_4 t50 t51 t52 h0_0 (h0_0.length : Int) h0_0 h0_1 h0_2 (fI (t50.getD t52.toNat AV.undef) 0) (fI (t50.getD t52.toNat AV.undef) 1)) (((h0_0.length : Int) - 0).toNat + 1) 0) .fail (sumE (fun _ => .next (IntKind.i64.wrap (t52 + 1))) (fun _ => .stop (.inr (.inr (fI (t50.getD t52.toNat AV.undef) 0, fI (t50.getD t52.toNat AV.undef) 1))))))))))
  else .fail)
  else .stop (.inl ()))
def R70_2 (t50 : List AV) (t51 : Int) (h0_0 : List AV) (h0_1 : List AV) (h0_2 : List AV) : (Int) → Out (Int) (Unit ⊕ (Int × Int) ⊕ (Int × Int)) := fun s : Int => F70_2 t50 t51 h0_0 h0_1 h0_2 s
def l70_2 : LModel := fun _ _ st k => match st with
  | ⟨[(1, .ptr g0 g1 g2), (50, .sl g3 t50), (51, .int .i64 t51), (52, .int .i64 t52)], [(g4, ⟨true, [], [.agg [.sl g5 h0_0, .sl g6 h0_1, .sl g7 h0_2]]⟩)]⟩ => bif nmEq g0 ([0, 1]) && Nat.beq g1 0 && Nat.beq g2 0 && ctsEq g3 ([.int .i64, .int .i64]) && nmEq g4 ([0, 1]) && ctsEq g5 ([.int .i64]) && ctsEq g6 ([.int .i64]) && ctsEq g7 ([.int .i64, .int .i64]) then ro (runW (R70_2 t50 t51 h0_0 h0_1 h0_2) ((t51 - t52).toNat + 1) t52) none (sumE (fun _ : Unit => k (.exit 2) ⟨[], [([0, 1], ⟨true, [], [AV.agg [AV.sl [.int .i64] h0_0, AV.sl [.int .i64] h0_1, AV.sl [.int .i64, .int .i64] h0_2]]⟩)]⟩) (sumE (fun p : Int × Int => k .ret ⟨[(2, AV.bool false)], [([0, 1], ⟨true, [], [AV.agg [AV.sl [.int .i64] h0_0, AV.sl [.int .i64] h0_1, AV.sl [.int .i64, .int .i64] h0_2]]⟩), ([1, 6], ⟨true, [], [AV.agg [AV.int .i64 p.1, AV.int .i64 p.2]]⟩)]⟩) (fun p : Int × Int => k .ret ⟨[(2, AV.bool false)], [([0, 1], ⟨true, [], [AV.agg [AV.sl [.int .i64] h0_0, AV.sl [.int .i64] h0_1, AV.sl [.int .i64, .int .i64] h0_2]]⟩), ([0, 6], ⟨true, [], [AV.agg [AV.int .i64 p.1, AV.int .i64 p.2]]⟩)]⟩))) else none
  | _ => none
def F70_0 (t35 : List AV) (t36 : Int) (h0_0 : List AV) (h0_1 : List AV) (h0_2 : List AV) (t37 : Int) : Out (Int) (Unit ⊕ Unit) := (bif decide (t37 < t36) then (bif (decide (0 ≤ t37) && decide (t37 < (t35.length : Int))) then (bif (decide (0 ≤ 0) && decide (0 ≤ t37) && decide (t37 ≤ (h0_1.length : Int))) then (bif q113 ((h0_1.take (Int.toNat t37)).drop (Int.toNat 0)) (fI (t35.getD t37.toNat AV.undef) 0) then (bif (v113_0 ((h0_1.take (Int.toNat t37)).drop (Int.toNat 0)) (fI (t35.getD t37.toNat AV.undef) 0)) then .stop (.inr ())
  else .next (IntKind.i64.wrap (t37 + 1)))
  else .fail)
  else .fail)
  else .fail)
  else .stop (.inl ()))
def R70_0 (t35 : List AV) (t36 : Int) (h0_0 : List AV) (h0_1 : List AV) (h0_2 : List AV) : (Int) → Out (Int) (Unit ⊕ Unit) := fun s : Int => F70_0 t35 t36 h0_0 h0_1 h0_2 s
def l70_0 : LModel := fun _ _ st k => match st with
  | ⟨[(1, .ptr g0 g1 g2), (35, .sl g3 t35), (36, .int .i64 t36), (37, .int .i64 t37)], [(g4, ⟨true, [], [.agg [.sl g5 h0_0, .sl g6 h0_1, .sl g7 h0_2]]⟩)]⟩ => bif nmEq g0 ([0, 1]) && Nat.beq g1 0 && Nat.beq g2 0 && ctsEq g3 ([.int .i64]) && nmEq g4 ([0, 1]) && ctsEq g5 ([.int .i64]) && ctsEq g6 ([.int .i64]) && ctsEq g7 ([.int .i64, .int .i64]) then ro (runW (R70_0 t35 t36 h0_0 h0_1 h0_2) ((t36 - t37).toNat + 1) t37) none (sumE (fun _ : Unit => k (.exit 0) ⟨[(1, AV.ptr [0, 1] 0 0)], [([0, 1], ⟨true, [], [AV.agg [AV.sl [.int .i64] h0_0, AV.sl [.int .i64] h0_1, AV.sl [.int .i64, .int .i64] h0_2]]⟩)]⟩) (fun _ : Unit => k .ret ⟨[(2, AV.bool false)], [([0, 1], ⟨true, [], [AV.agg [AV.sl [.int .i64] h0_0, AV.sl [.int .i64] h0_1, AV.sl [.int .i64, .int .i64] h0_2]]⟩)]⟩)) else none
  | _ => none
noncomputable def c70 : Cfg := cfg Try.prog [(70, 0, [1, 35, 36, 37]), (70, 2, [1, 50, 51, 52]), (70, 4, [1, 6, 50, 51, 52, 103, 104, 105]), (70, 999, [2]), (70, 1000, [1]), (70, 1001, [1, 35, 36, 37]), (70, 1002, []), (70, 1003, [1, 50, 51, 52]), (70, 1004, [1, 50, 51, 52]), (70, 1005, [1, 6, 50, 51, 52, 103, 104, 105])] [(84, m84), (112, m112), (113, m113), (114, m114)] [] [] [(70, 0, l70_0), (70, 2, l70_2), (70, 4, l70_4)]
theorem s70_4 (ce : CallE) (t50 : List AV) (t51 : Int) (t52 : Int) (t103 : List AV) (t104 : Int) (t105 : Int) (h0_0 : List AV) (h0_1 : List AV) (h0_2 : List AV) (h1_0 : Int) (h1_1 : Int) (next : St → Option AV) (k : Kont) : stepA (codeA c70 ce [] 70 4 (sub [1, 1, 1, 0, 1, 0, 0, 1, 1, 0, 0, 1, 1, 1, 0, 0] (body Try.f70))) (normA [] [1, 6, 50, 51, 52, 103, 104, 105]) next ⟨[(1, AV.ptr [0, 1] 0 0), (6, AV.ptr [0, 6] 0 0), (50, AV.sl [.int .i64, .int .i64] t50), (51, AV.int .i64 t51), (52, AV.int .i64 t52), (103, AV.sl [.int .i64] t103), (104, AV.int .i64 t104), (105, AV.int .i64 t105)], [([0, 1], ⟨true, [], [AV.agg [AV.sl [.int .i64] h0_0, AV.sl [.int .i64] h0_1, AV.sl [.int .i64, .int .i64] h0_2]]⟩), ([0, 6], ⟨true, [], [AV.agg [AV.int .i64 h1_0, AV.int .i64 h1_1]]⟩)]⟩ k = (bif decide (t105 < t104) then (bif (decide (0 ≤ t105) && decide (t105 < (t103.length : Int))) then (bif !(decide (fI (t103.getD t105.toNat AV.undef) 0 < h1_0) == decide (t105 < h1_1)) then k .ret ⟨[(2, AV.bool false)], [([0, 1], ⟨true, [], [AV.agg [AV.sl [.int .i64] h0_0, AV.sl [.int .i64] h0_1, AV.sl [.int .i64, .int .i64] h0_2]]⟩), ([0, 6], ⟨true, [], [AV.agg [AV.int .i64 h1_0, AV.int .i64 h1_1]]⟩)]⟩
  else next ⟨[(1, AV.ptr [0, 1] 0 0), (6, AV.ptr [0, 6] 0 0), (50, AV.sl [.int .i64, .int .i64] t50), (51, AV.int .i64 t51), (52, AV.int .i64 t52), (103, AV.sl [.int .i64] t103), (104, AV.int .i64 t104), (105, AV.int .i64 (IntKind.i64.wrap (t105 + 1)))], [([0, 1], ⟨true, [], [AV.agg [AV.sl [.int .i64] h0_0, AV.sl [.int .i64] h0_1, AV.sl [.int .i64, .int .i64] h0_2]]⟩), ([0, 6], ⟨true, [], [AV.agg [AV.int .i64 h1_0, AV.int .i64 h1_1]]⟩)]⟩)
  else none)
  else k (.exit 4) ⟨[(1, AV.ptr [0, 1] 0 0), (50, AV.sl [.int .i64, .int .i64] t50), (51, AV.int .i64 t51), (52, AV.int .i64 t52)], [([0, 1], ⟨true, [], [AV.agg [AV.sl [.int .i64] h0_0, AV.sl [.int .i64] h0_1, AV.sl [.int .i64, .int .i64] h0_2]]⟩), ([0, 6], ⟨true, [], [AV.agg [AV.int .i64 h1_0, AV.int .i64 h1_1]]⟩)]⟩) := by kernel_rfl
theorem st70_4 (t50 : List AV) (t51 : Int) (t52 : Int) (t103 : List AV) (t104 : Int) (h0_0 : List AV) (h0_1 : List AV) (h0_2 : List AV) (h1_0 : Int) (h1_1 : Int) (ce : CallE) (k : Kont) (s : Int) (next : St → Option AV) : stepA (codeA c70 ce [] 70 4 (sub [1, 1, 1, 0, 1, 0, 0, 1, 1, 0, 0, 1, 1, 1, 0, 0] (body Try.f70))) (normA [] [1, 6, 50, 51, 52, 103, 104, 105]) next ((fun s : Int => ⟨[(1, AV.ptr [0, 1] 0 0), (6, AV.ptr [0, 6] 0 0), (50, AV.sl [.int .i64, .int .i64] t50), (51, AV.int .i64 t51), (52, AV.int .i64 t52), (103, AV.sl [.int .i64] t103), (104, AV.int .i64 t104), (105, AV.int .i64 s)], [([0, 1], ⟨true, [], [AV.agg [AV.sl [.int .i64] h0_0, AV.sl [.int .i64] h0_1, AV.sl [.int .i64, .int .i64] h0_2]]⟩), ([0, 6], ⟨true, [], [AV.agg [AV.int .i64 h1_0, AV.int .i64 h1_1]]⟩)]⟩) s) k = (R70_4 t50 t51 t52 t103 t104 h0_0 h0_1 h0_2 h1_0 h1_1 s).el none (fun s => next ((fun s : Int => ⟨[(1, AV.ptr [0, 1] 0 0), (6, AV.ptr [0, 6] 0 0), (50, AV.sl [.int .i64, .int .i64] t50), (51, AV.int .i64 t51), (52, AV.int .i64 t52), (103, AV.sl [.int .i64] t103), (104, AV.int .i64 t104), (105, AV.int .i64 s)], [([0, 1], ⟨true, [], [AV.agg [AV.sl [.int .i64] h0_0, AV.sl [.int .i64] h0_1, AV.sl [.int .i64, .int .i64] h0_2]]⟩), ([0, 6], ⟨true, [], [AV.agg [AV.int .i64 h1_0, AV.int .i64 h1_1]]⟩)]⟩) s)) (sumE (fun _ : Unit => k (.exit 4) ⟨[(1, AV.ptr [0, 1] 0 0), (50, AV.sl [.int .i64, .int .i64] t50), (51, AV.int .i64 t51), (52, AV.int .i64 t52)], [([0, 1], ⟨true, [], [AV.agg [AV.sl [.int .i64] h0_0, AV.sl [.int .i64] h0_1, AV.sl [.int .i64, .int .i64] h0_2]]⟩), ([0, 6], ⟨true, [], [AV.agg [AV.int .i64 h1_0, AV.int .i64 h1_1]]⟩)]⟩) (fun _ : Unit => k .ret ⟨[(2, AV.bool false)], [([0, 1], ⟨true, [], [AV.agg [AV.sl [.int .i64] h0_0, AV.sl [.int .i64] h0_1, AV.sl [.int .i64, .int .i64] h0_2]]⟩), ([0, 6], ⟨true, [], [AV.agg [AV.int .i64 h1_0, AV.int .i64 h1_1]]⟩)]⟩)) := (s70_4 ce t50 t51 t52 t103 t104 s h0_0 h0_1 h0_2 h1_0 h1_1 next k).trans (by unfold R70_4; unfold F70_4; simp only [el_cond, el_ro, el_sum, el_fail, el_next, el_stop] <;> rfl)
theorem ok70_4 {ce : CallE} : LoopOK c70 ce [] 70 4 (sub [1, 1, 1, 0, 1, 0, 0, 1, 1, 0, 0, 1, 1, 1, 0, 0] (body Try.f70)) := by
  intro m hm st k r h
  obtain rfl : l70_4 = m := Option.some.inj hm
  unfold l70_4 at h
  split at h
  · rename_i g0 g1 g2 g3 g4 g5 g6 t50 t51 t52 g7 t103 t104 t105 g8 g9 h0_0 g10 h0_1 g11 h0_2 g12 h1_0 h1_1
    obtain ⟨hg, h⟩ := bif_some h
    simp only [Bool.and_eq_true] at hg
    obtain ⟨⟨⟨⟨⟨⟨⟨⟨⟨⟨⟨⟨q0, q1⟩, q2⟩, q3⟩, q4⟩, q5⟩, q6⟩, q7⟩, q8⟩, q9⟩, q10⟩, q11⟩, q12⟩ := hg
    obtain rfl := (nmEq_iff _ _).1 q0
    obtain rfl := Nat.eq_of_beq_eq_true q1
    obtain rfl := Nat.eq_of_beq_eq_true q2
    obtain rfl := (nmEq_iff _ _).1 q3
    obtain rfl := Nat.eq_of_beq_eq_true q4
    obtain rfl := Nat.eq_of_beq_eq_true q5
    obtain rfl := ctsEq_eq _ _ q6
    obtain rfl := ctsEq_eq _ _ q7
    obtain rfl := (nmEq_iff _ _).1 q8
    obtain rfl := ctsEq_eq _ _ q9
    obtain rfl := ctsEq_eq _ _ q10
    obtain rfl := ctsEq_eq _ _ q11
    obtain rfl := (nmEq_iff _ _).1 q12
    refine ⟨((t104 - t105).toNat + 1), ?_⟩
    rw [← h]
    exact loop_run (fun s : Int => ⟨[(1, AV.ptr [0, 1] 0 0), (6, AV.ptr [0, 6] 0 0), (50, AV.sl [.int .i64, .int .i64] t50), (51, AV.int .i64 t51), (52, AV.int .i64 t52), (103, AV.sl [.int .i64] t103), (104, AV.int .i64 t104), (105, AV.int .i64 s)], [([0, 1], ⟨true, [], [AV.agg [AV.sl [.int .i64] h0_0, AV.sl [.int .i64] h0_1, AV.sl [.int .i64, .int .i64] h0_2]]⟩), ([0, 6], ⟨true, [], [AV.agg [AV.int .i64 h1_0, AV.int .i64 h1_1]]⟩)]⟩) (sumE (fun _ : Unit => k (.exit 4) ⟨[(1, AV.ptr [0, 1] 0 0), (50, AV.sl [.int .i64, .int .i64] t50), (51, AV.int .i64 t51), (52, AV.int .i64 t52)], [([0, 1], ⟨true, [], [AV.agg [AV.sl [.int .i64] h0_0, AV.sl [.int .i64] h0_1, AV.sl [.int .i64, .int .i64] h0_2]]⟩), ([0, 6], ⟨true, [], [AV.agg [AV.int .i64 h1_0, AV.int .i64 h1_1]]⟩)]⟩) (fun _ : Unit => k .ret ⟨[(2, AV.bool false)], [([0, 1], ⟨true, [], [AV.agg [AV.sl [.int .i64] h0_0, AV.sl [.int .i64] h0_1, AV.sl [.int .i64, .int .i64] h0_2]]⟩), ([0, 6], ⟨true, [], [AV.agg [AV.int .i64 h1_0, AV.int .i64 h1_1]]⟩)]⟩)) (st70_4 t50 t51 t52 t103 t104 h0_0 h0_1 h0_2 h1_0 h1_1 ce k) _ t105
  · cases h
theorem s70_2 (ce : CallE) (t50 : List AV) (t51 : Int) (t52 : Int) (h0_0 : List AV) (h0_1 : List AV) (h0_2 : List AV) (next : St → Option AV) (k : Kont) : stepA (codeA c70 ce [] 70 2 (sub [1, 1, 1, 0, 1, 0, 0] (body Try.f70))) (normA [] [1, 50, 51, 52]) next ⟨[(1, AV.ptr [0, 1] 0 0), (50, AV.sl [.int .i64, .int .i64] t50), (51, AV.int .i64 t51), (52, AV.int .i64 t52)], [([0, 1], ⟨true, [], [AV.agg [AV.sl [.int .i64] h0_0, AV.sl [.int .i64] h0_1, AV.sl [.int .i64, .int .i64] h0_2]]⟩)]⟩ k = (bif decide (t52 < t51) then (bif (decide (0 ≤ t52) && decide (t52 < (t50.length : Int))) then (bif !(v114_0 (fI (t50.getD t52.toNat AV.undef) 0)) then k .ret ⟨[(2, AV.bool false)], [([0, 1], ⟨true, [], [AV.agg [AV.sl [.int .i64] h0_0, AV.sl [.int .i64] h0_1, AV.sl [.int .i64, .int .i64] h0_2]]⟩), ([1, 6], ⟨true, [], [AV.agg [AV.int .i64 (fI (t50.getD t52.toNat AV.undef) 0), AV.int .i64 (fI (t50.getD t52.toNat AV.undef) 1)]]⟩)]⟩
  else (bif decide (fI (t50.getD t52.toNat AV.undef) 1 < 0) then k .ret ⟨[(2, AV.bool false)], [([0, 1], ⟨true, [], [AV.agg [AV.sl [.int .i64] h0_0, AV.sl [.int .i64] h0_1, AV.sl [.int .i64, .int .i64] h0_2]]⟩), ([1, 6], ⟨true, [], [AV.agg [AV.int .i64 (fI (t50.getD t52.toNat AV.undef) 0), AV.int .i64 (fI (t50.getD t52.toNat AV.undef) 1)]]⟩)]⟩
  else (bif decide (fI (t50.getD t52.toNat AV.undef) 1 > (h0_0.length : Int)) then k .ret ⟨[(2, AV.bool false)], [([0, 1], ⟨true, [], [AV.agg [AV.sl [.int .i64] h0_0, AV.sl [.int .i64] h0_1, AV.sl [.int .i64, .int .i64] h0_2]]⟩), ([1, 6], ⟨true, [], [AV.agg [AV.int .i64 (fI (t50.getD t52.toNat AV.undef) 0), AV.int .i64 (fI (t50.getD t52.toNat AV.undef) 1)]]⟩)]⟩
  else (bif decide (t52 > 0) then (bif (decide (0 ≤ IntKind.i64.wrap (t52 - 1)) && decide (IntKind.i64.wrap (t52 - 1) < (h0_2.length : Int))) then (bif decide (fI (t50.getD t52.toNat AV.undef) 0 ≤ fI (h0_2.getD (IntKind.i64.wrap (t52 - 1)).toNat AV.undef) 0) then k .ret ⟨[(2, AV.bool false)], [([0, 1], ⟨true, [], [AV.agg [AV.sl [.int .i64] h0_0, AV.sl [.int .i64] h0_1, AV.sl [.int .i64, .int .i64] h0_2]]⟩), ([1, 6], ⟨true, [], [AV.agg [AV.int .i64 (fI (t50.getD t52.toNat AV.undef) 0), AV.int .i64 (fI (t50.getD t52.toNat AV.undef) 1)]]⟩)]⟩
  else (bif (decide (0 ≤ IntKind.i64.wrap (t52 - 1)) && decide (IntKind.i64.wrap (t52 - 1) < (h0_2.length : Int))) then (bif decide (fI (t50.getD t52.toNat AV.undef) 1 < fI (h0_2.getD (IntKind.i64.wrap (t52 - 1)).toNat AV.undef) 1) then k .ret ⟨[(2, AV.bool false)], [([0, 1], ⟨true, [], [AV.agg [AV.sl [.int .i64] h0_0, AV.sl [.int .i64] h0_1, AV.sl [.int .i64, .int .i64] h0_2]]⟩), ([1, 6], ⟨true, [], [AV.agg [AV.int .i64 (fI (t50.getD t52.toNat AV.undef) 0), AV.int .i64 (fI (t50.getD t52.toNat AV.undef) 1)]]⟩)]⟩
  else (ro (runW (R70_4 t50 t51 t52 h0_0 (h0_0.length : Int) h0_0 h0_1 h0_2 (fI (t50.getD t52.toNat AV.undef) 0) (fI (t50.getD t52.toNat AV.undef) 1)) (((h0_0.length : Int) - 0).toNat + 1) 0) none (sumE (fun _ => next ⟨[(1, AV.ptr [0, 1] 0 0), (50, AV.sl [.int .i64, .int .i64] t50), (51, AV.int .i64 t51), (52, AV.int .i64 (IntKind.i64.wrap (t52 + 1)))], [([0, 1], ⟨true, [], [AV.agg [AV.sl [.int .i64] h0_0, AV.sl [.int .i64] h0_1, AV.sl [.int .i64, .int .i64] h0_2]]⟩)]⟩) (fun _ => k .ret ⟨[(2, AV.bool false)], [([0, 1], ⟨true, [], [AV.agg [AV.sl [.int .i64] h0_0, AV.sl [.int .i64] h0_1, AV.sl [.int .i64, .int .i64] h0_2]]⟩), ([0, 6], ⟨true, [], [AV.agg [AV.int .i64 (fI (t50.getD t52.toNat AV.undef) 0), AV.int .i64 (fI (t50.getD t52.toNat AV.undef) 1)]]⟩)]⟩))))
  else none))
  else none)
  else (ro (runW (R70_4 t50 t51 t52 h0_0 (h0_0.length : Int) h0_0 h0_1 h0_2 (fI (t50.getD t52.toNat AV.undef) 0) (fI (t50.getD t52.toNat AV.undef) 1)) (((h0_0.length : Int) - 0).toNat + 1) 0) none (sumE (fun _ => next ⟨[(1, AV.ptr [0, 1] 0 0), (50, AV.sl [.int .i64, .int .i64] t50), (51, AV.int .i64 t51), (52, AV.int .i64 (IntKind.i64.wrap (t52 + 1)))], [([0, 1], ⟨true, [], [AV.agg [AV.sl [.int .i64] h0_0, AV.sl [.int .i64] h0_1, AV.sl [.int .i64, .int .i64] h0_2]]⟩)]⟩) (fun _ => k .ret ⟨[(2, AV.bool false)], [([0, 1], ⟨true, [], [AV.agg [AV.sl [.int .i64] h0_0, AV.sl [.int .i64] h0_1, AV.sl [.int .i64, .int .i64] h0_2]]⟩), ([0, 6], ⟨true, [], [AV.agg [AV.int .i64 (fI (t50.getD t52.toNat AV.undef) 0), AV.int .i64 (fI (t50.getD t52.toNat AV.undef) 1)]]⟩)]⟩)))))))
  else none)
  else k (.exit 2) ⟨[], [([0, 1], ⟨true, [], [AV.agg [AV.sl [.int .i64] h0_0, AV.sl [.int .i64] h0_1, AV.sl [.int .i64, .int .i64] h0_2]]⟩)]⟩) := by kernel_rfl
theorem st70_2 (t50 : List AV) (t51 : Int) (h0_0 : List AV) (h0_1 : List AV) (h0_2 : List AV) (ce : CallE) (k : Kont) (s : Int) (next : St → Option AV) : stepA (codeA c70 ce [] 70 2 (sub [1, 1, 1, 0, 1, 0, 0] (body Try.f70))) (normA [] [1, 50, 51, 52]) next ((fun s : Int => ⟨[(1, AV.ptr [0, 1] 0 0), (50, AV.sl [.int .i64, .int .i64] t50), (51, AV.int .i64 t51), (52, AV.int .i64 s)], [([0, 1], ⟨true, [], [AV.agg [AV.sl [.int .i64] h0_0, AV.sl [.int .i64] h0_1, AV.sl [.int .i64, .int .i64] h0_2]]⟩)]⟩) s) k = (R70_2 t50 t51 h0_0 h0_1 h0_2 s).el none (fun s => next ((fun s : Int => ⟨[(1, AV.ptr [0, 1] 0 0), (50, AV.sl [.int .i64, .int .i64] t50), (51, AV.int .i64 t51), (52, AV.int .i64 s)], [([0, 1], ⟨true, [], [AV.agg [AV.sl [.int .i64] h0_0, AV.sl [.int .i64] h0_1, AV.sl [.int .i64, .int .i64] h0_2]]⟩)]⟩) s)) (sumE (fun _ : Unit => k (.exit 2) ⟨[], [([0, 1], ⟨true, [], [AV.agg [AV.sl [.int .i64] h0_0, AV.sl [.int .i64] h0_1, AV.sl [.int .i64, .int .i64] h0_2]]⟩)]⟩) (sumE (fun p : Int × Int => k .ret ⟨[(2, AV.bool false)], [([0, 1], ⟨true, [], [AV.agg [AV.sl [.int .i64] h0_0, AV.sl [.int .i64] h0_1, AV.sl [.int .i64, .int .i64] h0_2]]⟩), ([1, 6], ⟨true, [], [AV.agg [AV.int .i64 p.1, AV.int .i64 p.2]]⟩)]⟩) (fun p : Int × Int => k .ret ⟨[(2, AV.bool false)], [([0, 1], ⟨true, [], [AV.agg [AV.sl [.int .i64] h0_0, AV.sl [.int .i64] h0_1, AV.sl [.int .i64, .int .i64] h0_2]]⟩), ([0, 6], ⟨true, [], [AV.agg [AV.int .i64 p.1, AV.int .i64 p.2]]⟩)]⟩))) := (s70_2 ce t50 t51 s h0_0 h0_1 h0_2 next k).trans (by unfold R70_2; unfold F70_2; simp only [el_cond, el_ro, el_sum, el_fail, el_next, el_stop] <;> rfl)
theorem ok70_2 {ce : CallE} : LoopOK c70 ce [] 70 2 (sub [1, 1, 1, 0, 1, 0, 0] (body Try.f70)) := by
  intro m hm st k r h
  obtain rfl : l70_2 = m := Option.some.inj hm
  unfold l70_2 at h
  split at h
  · rename_i g0 g1 g2 g3 t50 t51 t52 g4 g5 h0_0 g6 h0_1 g7 h0_2
    obtain ⟨hg, h⟩ := bif_some h
    simp only [Bool.and_eq_true] at hg
    obtain ⟨⟨⟨⟨⟨⟨⟨q0, q1⟩, q2⟩, q3⟩, q4⟩, q5⟩, q6⟩, q7⟩ := hg
    obtain rfl := (nmEq_iff _ _).1 q0
    obtain rfl := Nat.eq_of_beq_eq_true q1
    obtain rfl := Nat.eq_of_beq_eq_true q2
    obtain rfl := ctsEq_eq _ _ q3
    obtain rfl := (nmEq_iff _ _).1 q4
    obtain rfl := ctsEq_eq _ _ q5
    obtain rfl := ctsEq_eq _ _ q6
    obtain rfl := ctsEq_eq _ _ q7
    refine ⟨((t51 - t52).toNat + 1), ?_⟩
    rw [← h]
    exact loop_run (fun s : Int => ⟨[(1, AV.ptr [0, 1] 0 0), (50, AV.sl [.int .i64, .int .i64] t50), (51, AV.int .i64 t51), (52, AV.int .i64 s)], [([0, 1], ⟨true, [], [AV.agg [AV.sl [.int .i64] h0_0, AV.sl [.int .i64] h0_1, AV.sl [.int .i64, .int .i64] h0_2]]⟩)]⟩) (sumE (fun _ : Unit => k (.exit 2) ⟨[], [([0, 1], ⟨true, [], [AV.agg [AV.sl [.int .i64] h0_0, AV.sl [.int .i64] h0_1, AV.sl [.int .i64, .int .i64] h0_2]]⟩)]⟩) (sumE (fun p : Int × Int => k .ret ⟨[(2, AV.bool false)], [([0, 1], ⟨true, [], [AV.agg [AV.sl [.int .i64] h0_0, AV.sl [.int .i64] h0_1, AV.sl [.int .i64, .int .i64] h0_2]]⟩), ([1, 6], ⟨true, [], [AV.agg [AV.int .i64 p.1, AV.int .i64 p.2]]⟩)]⟩) (fun p : Int × Int => k .ret ⟨[(2, AV.bool false)], [([0, 1], ⟨true, [], [AV.agg [AV.sl [.int .i64] h0_0, AV.sl [.int .i64] h0_1, AV.sl [.int .i64, .int .i64] h0_2]]⟩), ([0, 6], ⟨true, [], [AV.agg [AV.int .i64 p.1, AV.int .i64 p.2]]⟩)]⟩))) (st70_2 t50 t51 h0_0 h0_1 h0_2 ce k) _ t52
  · cases h
theorem s70_0 (ce : CallE) (t35 : List AV) (t36 : Int) (t37 : Int) (h0_0 : List AV) (h0_1 : List AV) (h0_2 : List AV) (next : St → Option AV) (k : Kont) : stepA (codeA c70 ce [] 70 0 (sub [1, 1, 0, 1, 0, 0] (body Try.f70))) (normA [] [1, 35, 36, 37]) next ⟨[(1, AV.ptr [0, 1] 0 0), (35, AV.sl [.int .i64] t35), (36, AV.int .i64 t36), (37, AV.int .i64 t37)], [([0, 1], ⟨true, [], [AV.agg [AV.sl [.int .i64] h0_0, AV.sl [.int .i64] h0_1, AV.sl [.int .i64, .int .i64] h0_2]]⟩)]⟩ k = (bif decide (t37 < t36) then (bif (decide (0 ≤ t37) && decide (t37 < (t35.length : Int))) then (bif (decide (0 ≤ 0) && decide (0 ≤ t37) && decide (t37 ≤ (h0_1.length : Int))) then (bif q113 ((h0_1.take (Int.toNat t37)).drop (Int.toNat 0)) (fI (t35.getD t37.toNat AV.undef) 0) then (bif (v113_0 ((h0_1.take (Int.toNat t37)).drop (Int.toNat 0)) (fI (t35.getD t37.toNat AV.undef) 0)) then k .ret ⟨[(2, AV.bool false)], [([0, 1], ⟨true, [], [AV.agg [AV.sl [.int .i64] h0_0, AV.sl [.int .i64] h0_1, AV.sl [.int .i64, .int .i64] h0_2]]⟩)]⟩
  else next ⟨[(1, AV.ptr [0, 1] 0 0), (35, AV.sl [.int .i64] t35), (36, AV.int .i64 t36), (37, AV.int .i64 (IntKind.i64.wrap (t37 + 1)))], [([0, 1], ⟨true, [], [AV.agg [AV.sl [.int .i64] h0_0, AV.sl [.int .i64] h0_1, AV.sl [.int .i64, .int .i64] h0_2]]⟩)]⟩)
  else none)
  else none)
  else none)
  else k (.exit 0) ⟨[(1, AV.ptr [0, 1] 0 0)], [([0, 1], ⟨true, [], [AV.agg [AV.sl [.int .i64] h0_0, AV.sl [.int .i64] h0_1, AV.sl [.int .i64, .int .i64] h0_2]]⟩)]⟩) := by kernel_rfl
theorem st70_0 (t35 : List AV) (t36 : Int) (h0_0 : List AV) (h0_1 : List AV) (h0_2 : List AV) (ce : CallE) (k : Kont) (s : Int) (next : St → Option AV) : stepA (codeA c70 ce [] 70 0 (sub [1, 1, 0, 1, 0, 0] (body Try.f70))) (normA [] [1, 35, 36, 37]) next ((fun s : Int => ⟨[(1, AV.ptr [0, 1] 0 0), (35, AV.sl [.int .i64] t35), (36, AV.int .i64 t36), (37, AV.int .i64 s)], [([0, 1], ⟨true, [], [AV.agg [AV.sl [.int .i64] h0_0, AV.sl [.int .i64] h0_1, AV.sl [.int .i64, .int .i64] h0_2]]⟩)]⟩) s) k = (R70_0 t35 t36 h0_0 h0_1 h0_2 s).el none (fun s => next ((fun s : Int => ⟨[(1, AV.ptr [0, 1] 0 0), (35, AV.sl [.int .i64] t35), (36, AV.int .i64 t36), (37, AV.int .i64 s)], [([0, 1], ⟨true, [], [AV.agg [AV.sl [.int .i64] h0_0, AV.sl [.int .i64] h0_1, AV.sl [.int .i64, .int .i64] h0_2]]⟩)]⟩) s)) (sumE (fun _ : Unit => k (.exit 0) ⟨[(1, AV.ptr [0, 1] 0 0)], [([0, 1], ⟨true, [], [AV.agg [AV.sl [.int .i64] h0_0, AV.sl [.int .i64] h0_1, AV.sl [.int .i64, .int .i64] h0_2]]⟩)]⟩) (fun _ : Unit => k .ret ⟨[(2, AV.bool false)], [([0, 1], ⟨true, [], [AV.agg [AV.sl [.int .i64] h0_0, AV.sl [.int .i64] h0_1, AV.sl [.int .i64, .int .i64] h0_2]]⟩)]⟩)) := (s70_0 ce t35 t36 s h0_0 h0_1 h0_2 next k).trans (by unfold R70_0; unfold F70_0; simp only [el_cond, el_ro, el_sum, el_fail, el_next, el_stop] <;> rfl)
theorem ok70_0 {ce : CallE} : LoopOK c70 ce [] 70 0 (sub [1, 1, 0, 1, 0, 0] (body Try.f70)) := by
  intro m hm st k r h
  obtain rfl : l70_0 = m := Option.some.inj hm
  unfold l70_0 at h
  split at h
  · rename_i g0 g1 g2 g3 t35 t36 t37 g4 g5 h0_0 g6 h0_1 g7 h0_2
    obtain ⟨hg, h⟩ := bif_some h
    simp only [Bool.and_eq_true] at hg
    obtain ⟨⟨⟨⟨⟨⟨⟨q0, q1⟩, q2⟩, q3⟩, q4⟩, q5⟩, q6⟩, q7⟩ := hg
    obtain rfl := (nmEq_iff _ _).1 q0
    obtain rfl := Nat.eq_of_beq_eq_true q1
    obtain rfl := Nat.eq_of_beq_eq_true q2
    obtain rfl := ctsEq_eq _ _ q3
    obtain rfl := (nmEq_iff _ _).1 q4
    obtain rfl := ctsEq_eq _ _ q5
    obtain rfl := ctsEq_eq _ _ q6
    obtain rfl := ctsEq_eq _ _ q7
    refine ⟨((t36 - t37).toNat + 1), ?_⟩
    rw [← h]
    exact loop_run (fun s : Int => ⟨[(1, AV.ptr [0, 1] 0 0), (35, AV.sl [.int .i64] t35), (36, AV.int .i64 t36), (37, AV.int .i64 s)], [([0, 1], ⟨true, [], [AV.agg [AV.sl [.int .i64] h0_0, AV.sl [.int .i64] h0_1, AV.sl [.int .i64, .int .i64] h0_2]]⟩)]⟩) (sumE (fun _ : Unit => k (.exit 0) ⟨[(1, AV.ptr [0, 1] 0 0)], [([0, 1], ⟨true, [], [AV.agg [AV.sl [.int .i64] h0_0, AV.sl [.int .i64] h0_1, AV.sl [.int .i64, .int .i64] h0_2]]⟩)]⟩) (fun _ : Unit => k .ret ⟨[(2, AV.bool false)], [([0, 1], ⟨true, [], [AV.agg [AV.sl [.int .i64] h0_0, AV.sl [.int .i64] h0_1, AV.sl [.int .i64, .int .i64] h0_2]]⟩)]⟩)) (st70_0 t35 t36 h0_0 h0_1 h0_2 ce k) _ t37
  · cases h
def q70 (a0_0 : List AV) (a0_1 : List AV) (a0_2 : List AV) : Bool := (q84 a0_0 && (bif !(v84_0 a0_0) then true else (bif !decide ((a0_1.length : Int) = (a0_0.length : Int)) then true else (q112 a0_1 0 999 && (bif !(v112_0 a0_1 0 999) then true else (bif decide ((a0_2.length : Int) > 2001) then true else (ro (runW (R70_0 a0_1 (a0_1.length : Int) a0_0 a0_1 a0_2) (((a0_1.length : Int) - 0).toNat + 1) 0) false (sumE (fun _ => (ro (runW (R70_2 a0_2 (a0_2.length : Int) a0_0 a0_1 a0_2) (((a0_2.length : Int) - 0).toNat + 1) 0) false (sumE (fun _ => true) (sumE (fun p44 => true) (fun p45 => true))))) (fun _ => true)))))))))
def v70_0 (a0_0 : List AV) (a0_1 : List AV) (a0_2 : List AV) : Bool := (bif !(v84_0 a0_0) then false else (bif !decide ((a0_1.length : Int) = (a0_0.length : Int)) then false else (bif !(v112_0 a0_1 0 999) then false else (bif decide ((a0_2.length : Int) > 2001) then false else (ro (runW (R70_0 a0_1 (a0_1.length : Int) a0_0 a0_1 a0_2) (((a0_1.length : Int) - 0).toNat + 1) 0) false (sumE (fun _ => (ro (runW (R70_2 a0_2 (a0_2.length : Int) a0_0 a0_1 a0_2) (((a0_2.length : Int) - 0).toNat + 1) 0) false (sumE (fun _ => true) (sumE (fun p44 => false) (fun p45 => false))))) (fun _ => false)))))))
theorem e70 (a0_0 : List AV) (a0_1 : List AV) (a0_2 : List AV) : funA c70 0 70 [AV.agg [AV.sl [.int .i64] a0_0, AV.sl [.int .i64] a0_1, AV.sl [.int .i64, .int .i64] a0_2]] = (bif q84 a0_0 then (bif !(v84_0 a0_0) then some (AV.bool false)
  else (bif !decide ((a0_1.length : Int) = (a0_0.length : Int)) then some (AV.bool false)
  else (bif q112 a0_1 0 999 then (bif !(v112_0 a0_1 0 999) then some (AV.bool false)
  else (bif decide ((a0_2.length : Int) > 2001) then some (AV.bool false)
  else (ro (runW (R70_0 a0_1 (a0_1.length : Int) a0_0 a0_1 a0_2) (((a0_1.length : Int) - 0).toNat + 1) 0) none (sumE (fun _ => (ro (runW (R70_2 a0_2 (a0_2.length : Int) a0_0 a0_1 a0_2) (((a0_2.length : Int) - 0).toNat + 1) 0) none (sumE (fun _ => some (AV.bool true)) (sumE (fun p44 => some (AV.bool false)) (fun p45 => some (AV.bool false)))))) (fun _ => some (AV.bool false))))))
  else none)))
  else none) := by kernel_rfl
theorem r70 (a0_0 : List AV) (a0_1 : List AV) (a0_2 : List AV) (h : q70 a0_0 a0_1 a0_2 = true) : funA c70 0 70 [AV.agg [AV.sl [.int .i64] a0_0, AV.sl [.int .i64] a0_1, AV.sl [.int .i64, .int .i64] a0_2]] = some (AV.bool (v70_0 a0_0 a0_1 a0_2)) := (e70 a0_0 a0_1 a0_2).trans ((brL (br (fun b => some (AV.bool (bif b then false else (bif !decide ((a0_1.length : Int) = (a0_0.length : Int)) then false else (bif !(v112_0 a0_1 0 999) then false else (bif decide ((a0_2.length : Int) > 2001) then false else (ro (runW (R70_0 a0_1 (a0_1.length : Int) a0_0 a0_1 a0_2) (((a0_1.length : Int) - 0).toNat + 1) 0) false (sumE (fun _ => (ro (runW (R70_2 a0_2 (a0_2.length : Int) a0_0 a0_1 a0_2) (((a0_2.length : Int) - 0).toNat + 1) 0) false (sumE (fun _ => true) (sumE (fun p44 => false) (fun p45 => false))))) (fun _ => false))))))))) (fun _ => rfl) (br (fun b => some (AV.bool (bif b then false else (bif !(v112_0 a0_1 0 999) then false else (bif decide ((a0_2.length : Int) > 2001) then false else (ro (runW (R70_0 a0_1 (a0_1.length : Int) a0_0 a0_1 a0_2) (((a0_1.length : Int) - 0).toNat + 1) 0) false (sumE (fun _ => (ro (runW (R70_2 a0_2 (a0_2.length : Int) a0_0 a0_1 a0_2) (((a0_2.length : Int) - 0).toNat + 1) 0) false (sumE (fun _ => true) (sumE (fun p44 => false) (fun p45 => false))))) (fun _ => false)))))))) (fun _ => rfl) (brL (br (fun b => some (AV.bool (bif b then false else (bif decide ((a0_2.length : Int) > 2001) then false else (ro (runW (R70_0 a0_1 (a0_1.length : Int) a0_0 a0_1 a0_2) (((a0_1.length : Int) - 0).toNat + 1) 0) false (sumE (fun _ => (ro (runW (R70_2 a0_2 (a0_2.length : Int) a0_0 a0_1 a0_2) (((a0_2.length : Int) - 0).toNat + 1) 0) false (sumE (fun _ => true) (sumE (fun p44 => false) (fun p45 => false))))) (fun _ => false))))))) (fun _ => rfl) (br (fun b => some (AV.bool (bif b then false else (ro (runW (R70_0 a0_1 (a0_1.length : Int) a0_0 a0_1 a0_2) (((a0_1.length : Int) - 0).toNat + 1) 0) false (sumE (fun _ => (ro (runW (R70_2 a0_2 (a0_2.length : Int) a0_0 a0_1 a0_2) (((a0_2.length : Int) - 0).toNat + 1) 0) false (sumE (fun _ => true) (sumE (fun p44 => false) (fun p45 => false))))) (fun _ => false)))))) (fun _ => rfl) (brO (fun o : Option (Unit ⊕ Unit) => some (AV.bool (ro o false (sumE (fun _ => (ro (runW (R70_2 a0_2 (a0_2.length : Int) a0_0 a0_1 a0_2) (((a0_2.length : Int) - 0).toNat + 1) 0) false (sumE (fun _ => true) (sumE (fun p44 => false) (fun p45 => false))))) (fun _ => false))))) (brS (fun o : Unit ⊕ Unit => some (AV.bool ((sumE (fun _ => (ro (runW (R70_2 a0_2 (a0_2.length : Int) a0_0 a0_1 a0_2) (((a0_2.length : Int) - 0).toNat + 1) 0) false (sumE (fun _ => true) (sumE (fun p44 => false) (fun p45 => false))))) (fun _ => false)) o))) (fun _ => (brO (fun o : Option (Unit ⊕ (Int × Int) ⊕ (Int × Int)) => some (AV.bool (ro o false (sumE (fun _ => true) (sumE (fun p44 => false) (fun p45 => false)))))) (brS (fun o : Unit ⊕ (Int × Int) ⊕ (Int × Int) => some (AV.bool ((sumE (fun _ => true) (sumE (fun p44 => false) (fun p45 => false))) o))) (fun _ => (fun _ => rfl)) (brS (fun o : (Int × Int) ⊕ (Int × Int) => some (AV.bool ((sumE (fun p44 => false) (fun p45 => false)) o))) (fun p44 => (fun _ => rfl)) (fun p45 => (fun _ => rfl)))))) (fun _ => (fun _ => rfl)))))))))) h)
def m70 : TModel
  | [.agg [.sl g0 a0_0, .sl g1 a0_1, .sl g2 a0_2]] => bif ctsEq g0 ([.int .i64]) && ctsEq g1 ([.int .i64]) && ctsEq g2 ([.int .i64, .int .i64]) then some (q70 a0_0 a0_1 a0_2, AV.bool (v70_0 a0_0 a0_1 a0_2)) else none
  | _ => none
theorem k70 : Known Try.prog 70 := ⟨Try.f70, Try.func70, by kernel_rfl, by kernel_rfl⟩
theorem meets70 : Meets Try.prog 70 m70 := by
  refine meet (f := Try.f70) (l := [(0, sub [1, 1, 0, 1, 0, 0] (body Try.f70)), (2, sub [1, 1, 1, 0, 1, 0, 0] (body Try.f70)), (4, sub [1, 1, 1, 0, 1, 0, 0, 1, 1, 0, 0, 1, 1, 1, 0, 0] (body Try.f70))]) (hs := [(70, 0, [1, 35, 36, 37]), (70, 2, [1, 50, 51, 52]), (70, 4, [1, 6, 50, 51, 52, 103, 104, 105]), (70, 999, [2]), (70, 1000, [1]), (70, 1001, [1, 35, 36, 37]), (70, 1002, []), (70, 1003, [1, 50, 51, 52]), (70, 1004, [1, 50, 51, 52]), (70, 1005, [1, 6, 50, 51, 52, 103, 104, 105])]) (ts := [(84, m84), (112, m112), (113, m113), (114, m114)]) (ws := []) (is := []) (ls := [(70, 0, l70_0), (70, 2, l70_2), (70, 4, l70_4)]) (lvl := 0) mixed k70 Try.func70 (by kernel_rfl) (loops_cons ok70_0 (loops_cons ok70_2 (loops_cons ok70_4 noLoop))) (allT_cons meets84 (allT_cons meets112 (allT_cons meets113 (allT_cons meets114 allT_nil)))) allM_nil noI fun w xs us r hl hv h => ?_
  unfold m70 at h
  split at h
  · rename_i g0 a0_0 g1 a0_1 g2 a0_2
    obtain ⟨hg, h⟩ := bif_pair h
    simp only [Bool.and_eq_true] at hg
    obtain ⟨⟨q0, q1⟩, q2⟩ := hg
    obtain rfl := ctsEq_eq _ _ q0
    obtain rfl := ctsEq_eq _ _ q1
    obtain rfl := ctsEq_eq _ _ q2
    obtain ⟨h1, rfl⟩ := pair_inj h
    exact r70 a0_0 a0_1 a0_2 h1
  · cases h

/-! ### 115 loop.example/g01984/impl.isHistory -/
noncomputable def c115 : Cfg := cfg Try.prog [(115, 999, [2])] [(112, m112)] [] [] []
def q115 (a0 : List AV) : Bool := (bif decide ((a0.length : Int) ≤ 60) then q112 a0 (-1000) 1000 else true)
def v115_0 (a0 : List AV) : Bool := (bif decide ((a0.length : Int) ≤ 60) then (v112_0 a0 (-1000) 1000) else false)
theorem e115 (a0 : List AV) : funA c115 0 115 [AV.sl [.int .i64] a0] = (bif decide ((a0.length : Int) ≤ 60) then (bif q112 a0 (-1000) 1000 then some (AV.bool (v112_0 a0 (-1000) 1000))
  else none)
  else some (AV.bool false)) := by kernel_rfl
theorem r115 (a0 : List AV) (h : q115 a0 = true) : funA c115 0 115 [AV.sl [.int .i64] a0] = some (AV.bool (v115_0 a0)) := (e115 a0).trans ((br (fun b => some (AV.bool (bif b then (v112_0 a0 (-1000) 1000) else false))) (brL1 (fun _ => rfl)) (fun _ => rfl)) h)
def m115 : TModel
  | [.sl g0 a0] => bif ctsEq g0 ([.int .i64]) then some (q115 a0, AV.bool (v115_0 a0)) else none
  | _ => none
theorem k115 : Known Try.prog 115 := ⟨Try.f115, Try.func115, by kernel_rfl, by kernel_rfl⟩
theorem meets115 : Meets Try.prog 115 m115 := by
  refine meet (f := Try.f115) (l := []) (hs := [(115, 999, [2])]) (ts := [(112, m112)]) (ws := []) (is := []) (ls := []) (lvl := 0) mixed k115 Try.func115 (by kernel_rfl) noLoop (allT_cons meets112 allT_nil) allM_nil noI fun w xs us r hl hv h => ?_
  unfold m115 at h
  split at h
  · rename_i g0 a0
    obtain ⟨hg, h⟩ := bif_pair h
    have q0 := hg
    obtain rfl := ctsEq_eq _ _ q0
    obtain ⟨h1, rfl⟩ := pair_inj h
    exact r115 a0 h1
  · cases h

/-! ### 119 loop.example/g01984/impl.FindPivot -/
def F119_0 (t1 : Int) (t9 : List AV) (t10 : Int) (t11 : Int) : Out (Int) (Unit ⊕ (Int × Int × Int)) := (bif decide (t11 < t10) then (bif (decide (0 ≤ t11) && decide (t11 < (t9.length : Int))) then (bif decide (fI (t9.getD t11.toNat AV.undef) 0 = t1) then .stop (.inr (fI (t9.getD t11.toNat AV.undef) 1, fI (t9.getD t11.toNat AV.undef) 0, fI (t9.getD t11.toNat AV.undef) 1))
  else .next (IntKind.i64.wrap (t11 + 1)))
  else .fail)
  else .stop (.inl ()))
def R119_0 (t1 : Int) (t9 : List AV) (t10 : Int) : (Int) → Out (Int) (Unit ⊕ (Int × Int × Int)) := fun s : Int => F119_0 t1 t9 t10 s
def l119_0 : LModel := fun _ _ st k => match st with
  | ⟨[(1, .int .i64 t1), (9, .sl g0 t9), (10, .int .i64 t10), (11, .int .i64 t11)], []⟩ => bif ctsEq g0 ([.int .i64, .int .i64]) then ro (runW (R119_0 t1 t9 t10) ((t10 - t11).toNat + 1) t11) none (sumE (fun _ : Unit => k (.exit 0) ⟨[], []⟩) (fun p : Int × Int × Int => k .ret ⟨[(4, AV.int .i64 p.1), (5, AV.bool true)], [([1, 7], ⟨true, [], [AV.agg [AV.int .i64 p.2.1, AV.int .i64 p.2.2]]⟩)]⟩)) else none
  | _ => none
noncomputable def c119 : Cfg := cfg Try.prog [(119, 0, [1, 9, 10, 11]), (119, 999, [4, 5]), (119, 1000, []), (119, 1001, [1, 9, 10, 11])] [] [] [] [(119, 0, l119_0)]
theorem s119_0 (ce : CallE) (t1 : Int) (t9 : List AV) (t10 : Int) (t11 : Int) (next : St → Option AV) (k : Kont) : stepA (codeA c119 ce [] 119 0 (sub [1, 0, 1, 0, 0] (body Try.f119))) (normA [] [1, 9, 10, 11]) next ⟨[(1, AV.int .i64 t1), (9, AV.sl [.int .i64, .int .i64] t9), (10, AV.int .i64 t10), (11, AV.int .i64 t11)], []⟩ k = (bif decide (t11 < t10) then (bif (decide (0 ≤ t11) && decide (t11 < (t9.length : Int))) then (bif decide (fI (t9.getD t11.toNat AV.undef) 0 = t1) then k .ret ⟨[(4, AV.int .i64 (fI (t9.getD t11.toNat AV.undef) 1)), (5, AV.bool true)], [([1, 7], ⟨true, [], [AV.agg [AV.int .i64 (fI (t9.getD t11.toNat AV.undef) 0), AV.int .i64 (fI (t9.getD t11.toNat AV.undef) 1)]]⟩)]⟩
  else next ⟨[(1, AV.int .i64 t1), (9, AV.sl [.int .i64, .int .i64] t9), (10, AV.int .i64 t10), (11, AV.int .i64 (IntKind.i64.wrap (t11 + 1)))], []⟩)
  else none)
  else k (.exit 0) ⟨[], []⟩) := by kernel_rfl
theorem st119_0 (t1 : Int) (t9 : List AV) (t10 : Int) (ce : CallE) (k : Kont) (s : Int) (next : St → Option AV) : stepA (codeA c119 ce [] 119 0 (sub [1, 0, 1, 0, 0] (body Try.f119))) (normA [] [1, 9, 10, 11]) next ((fun s : Int => ⟨[(1, AV.int .i64 t1), (9, AV.sl [.int .i64, .int .i64] t9), (10, AV.int .i64 t10), (11, AV.int .i64 s)], []⟩) s) k = (R119_0 t1 t9 t10 s).el none (fun s => next ((fun s : Int => ⟨[(1, AV.int .i64 t1), (9, AV.sl [.int .i64, .int .i64] t9), (10, AV.int .i64 t10), (11, AV.int .i64 s)], []⟩) s)) (sumE (fun _ : Unit => k (.exit 0) ⟨[], []⟩) (fun p : Int × Int × Int => k .ret ⟨[(4, AV.int .i64 p.1), (5, AV.bool true)], [([1, 7], ⟨true, [], [AV.agg [AV.int .i64 p.2.1, AV.int .i64 p.2.2]]⟩)]⟩)) := (s119_0 ce t1 t9 t10 s next k).trans (by unfold R119_0; unfold F119_0; simp only [el_cond, el_ro, el_sum, el_fail, el_next, el_stop] <;> rfl)
theorem ok119_0 {ce : CallE} : LoopOK c119 ce [] 119 0 (sub [1, 0, 1, 0, 0] (body Try.f119)) := by
  intro m hm st k r h
  obtain rfl : l119_0 = m := Option.some.inj hm
  unfold l119_0 at h
  split at h
  · rename_i t1 g0 t9 t10 t11
    obtain ⟨hg, h⟩ := bif_some h
    have q0 := hg
    obtain rfl := ctsEq_eq _ _ q0
    refine ⟨((t10 - t11).toNat + 1), ?_⟩
    rw [← h]
    exact loop_run (fun s : Int => ⟨[(1, AV.int .i64 t1), (9, AV.sl [.int .i64, .int .i64] t9), (10, AV.int .i64 t10), (11, AV.int .i64 s)], []⟩) (sumE (fun _ : Unit => k (.exit 0) ⟨[], []⟩) (fun p : Int × Int × Int => k .ret ⟨[(4, AV.int .i64 p.1), (5, AV.bool true)], [([1, 7], ⟨true, [], [AV.agg [AV.int .i64 p.2.1, AV.int .i64 p.2.2]]⟩)]⟩)) (st119_0 t1 t9 t10 ce k) _ t11
  · cases h
def q119 (a0_0 : List AV) (a0_1 : List AV) (a0_2 : List AV) (a1 : Int) : Bool := (ro (runW (R119_0 a1 a0_2 (a0_2.length : Int)) (((a0_2.length : Int) - 0).toNat + 1) 0) false (sumE (fun _ => true) (fun p48 => true)))
def v119_0 (a0_0 : List AV) (a0_1 : List AV) (a0_2 : List AV) (a1 : Int) : Int := (ro (runW (R119_0 a1 a0_2 (a0_2.length : Int)) (((a0_2.length : Int) - 0).toNat + 1) 0) 0 (sumE (fun _ => 0) (fun p48 => p48.1)))
def v119_1 (a0_0 : List AV) (a0_1 : List AV) (a0_2 : List AV) (a1 : Int) : Bool := (ro (runW (R119_0 a1 a0_2 (a0_2.length : Int)) (((a0_2.length : Int) - 0).toNat + 1) 0) false (sumE (fun _ => false) (fun p48 => true)))
theorem e119 (a0_0 : List AV) (a0_1 : List AV) (a0_2 : List AV) (a1 : Int) : funA c119 0 119 [AV.agg [AV.sl [.int .i64] a0_0, AV.sl [.int .i64] a0_1, AV.sl [.int .i64, .int .i64] a0_2], AV.int .i64 a1] = (ro (runW (R119_0 a1 a0_2 (a0_2.length : Int)) (((a0_2.length : Int) - 0).toNat + 1) 0) none (sumE (fun _ => some (AV.tup [AV.int .i64 0, AV.bool false])) (fun p48 => some (AV.tup [AV.int .i64 p48.1, AV.bool true])))) := by kernel_rfl
theorem r119 (a0_0 : List AV) (a0_1 : List AV) (a0_2 : List AV) (a1 : Int) (h : q119 a0_0 a0_1 a0_2 a1 = true) : funA c119 0 119 [AV.agg [AV.sl [.int .i64] a0_0, AV.sl [.int .i64] a0_1, AV.sl [.int .i64, .int .i64] a0_2], AV.int .i64 a1] = some (AV.tup [AV.int .i64 (v119_0 a0_0 a0_1 a0_2 a1), AV.bool (v119_1 a0_0 a0_1 a0_2 a1)]) := (e119 a0_0 a0_1 a0_2 a1).trans ((brO (fun o : Option (Unit ⊕ (Int × Int × Int)) => some (AV.tup [AV.int .i64 (ro o 0 (sumE (fun _ => 0) (fun p48 => p48.1))), AV.bool (ro o false (sumE (fun _ => false) (fun p48 => true)))])) (brS (fun o : Unit ⊕ (Int × Int × Int) => some (AV.tup [AV.int .i64 ((sumE (fun _ => 0) (fun p48 => p48.1)) o), AV.bool ((sumE (fun _ => false) (fun p48 => true)) o)])) (fun _ => (fun _ => rfl)) (fun p48 => (fun _ => rfl)))) h)
def m119 : TModel
  | [.agg [.sl g0 a0_0, .sl g1 a0_1, .sl g2 a0_2], .int .i64 a1] => bif ctsEq g0 ([.int .i64]) && ctsEq g1 ([.int .i64]) && ctsEq g2 ([.int .i64, .int .i64]) then some (q119 a0_0 a0_1 a0_2 a1, AV.tup [AV.int .i64 (v119_0 a0_0 a0_1 a0_2 a1), AV.bool (v119_1 a0_0 a0_1 a0_2 a1)]) else none
  | _ => none
theorem k119 : Known Try.prog 119 := ⟨Try.f119, Try.func119, by kernel_rfl, by kernel_rfl⟩
theorem meets119 : Meets Try.prog 119 m119 := by
  refine meet (f := Try.f119) (l := [(0, sub [1, 0, 1, 0, 0] (body Try.f119))]) (hs := [(119, 0, [1, 9, 10, 11]), (119, 999, [4, 5]), (119, 1000, []), (119, 1001, [1, 9, 10, 11])]) (ts := []) (ws := []) (is := []) (ls := [(119, 0, l119_0)]) (lvl := 0) mixed k119 Try.func119 (by kernel_rfl) (loops_cons ok119_0 noLoop) allT_nil allM_nil noI fun w xs us r hl hv h => ?_
  unfold m119 at h
  split at h
  · rename_i g0 a0_0 g1 a0_1 g2 a0_2 a1
    obtain ⟨hg, h⟩ := bif_pair h
    simp only [Bool.and_eq_true] at hg
    obtain ⟨⟨q0, q1⟩, q2⟩ := hg
    obtain rfl := ctsEq_eq _ _ q0
    obtain rfl := ctsEq_eq _ _ q1
    obtain rfl := ctsEq_eq _ _ q2
    obtain ⟨h1, rfl⟩ := pair_inj h
    exact r119 a0_0 a0_1 a0_2 a1 h1
  · cases h

/-! ### 77 loop.example/g01984/impl.isPivot -/
noncomputable def c77 : Cfg := cfg Try.prog [(77, 999, [4])] [(119, m119)] [] [] []
def q77 (a0_0 : List AV) (a0_1 : List AV) (a0_2 : List AV) (a1 : Int) : Bool := q119 a0_0 a0_1 a0_2 a1
def v77_0 (a0_0 : List AV) (a0_1 : List AV) (a0_2 : List AV) (a1 : Int) : Bool := (v119_1 a0_0 a0_1 a0_2 a1)
theorem e77 (a0_0 : List AV) (a0_1 : List AV) (a0_2 : List AV) (a1 : Int) : funA c77 0 77 [AV.agg [AV.sl [.int .i64] a0_0, AV.sl [.int .i64] a0_1, AV.sl [.int .i64, .int .i64] a0_2], AV.int .i64 a1] = (bif q119 a0_0 a0_1 a0_2 a1 then some (AV.bool (v119_1 a0_0 a0_1 a0_2 a1))
  else none) := by kernel_rfl
theorem r77 (a0_0 : List AV) (a0_1 : List AV) (a0_2 : List AV) (a1 : Int) (h : q77 a0_0 a0_1 a0_2 a1 = true) : funA c77 0 77 [AV.agg [AV.sl [.int .i64] a0_0, AV.sl [.int .i64] a0_1, AV.sl [.int .i64, .int .i64] a0_2], AV.int .i64 a1] = some (AV.bool (v77_0 a0_0 a0_1 a0_2 a1)) := (e77 a0_0 a0_1 a0_2 a1).trans ((brL1 (fun _ => rfl)) h)
def m77 : TModel
  | [.agg [.sl g0 a0_0, .sl g1 a0_1, .sl g2 a0_2], .int .i64 a1] => bif ctsEq g0 ([.int .i64]) && ctsEq g1 ([.int .i64]) && ctsEq g2 ([.int .i64, .int .i64]) then some (q77 a0_0 a0_1 a0_2 a1, AV.bool (v77_0 a0_0 a0_1 a0_2 a1)) else none
  | _ => none
theorem k77 : Known Try.prog 77 := ⟨Try.f77, Try.func77, by kernel_rfl, by kernel_rfl⟩
theorem meets77 : Meets Try.prog 77 m77 := by
  refine meet (f := Try.f77) (l := []) (hs := [(77, 999, [4])]) (ts := [(119, m119)]) (ws := []) (is := []) (ls := []) (lvl := 0) mixed k77 Try.func77 (by kernel_rfl) noLoop (allT_cons meets119 allT_nil) allM_nil noI fun w xs us r hl hv h => ?_
  unfold m77 at h
  split at h
  · rename_i g0 a0_0 g1 a0_1 g2 a0_2 a1
    obtain ⟨hg, h⟩ := bif_pair h
    simp only [Bool.and_eq_true] at hg
    obtain ⟨⟨q0, q1⟩, q2⟩ := hg
    obtain rfl := ctsEq_eq _ _ q0
    obtain rfl := ctsEq_eq _ _ q1
    obtain rfl := ctsEq_eq _ _ q2
    obtain ⟨h1, rfl⟩ := pair_inj h
    exact r77 a0_0 a0_1 a0_2 a1 h1
  · cases h

/-! ### 116 loop.example/g01984/impl.piece -/
def F116_0 (t1 : Int) (t7 : Int) (t14 : List AV) (t15 : Int) (t6 : Int) (t16 : Int) : Out ((Int × Int)) (Int ⊕ (Int × Int × Int × Int)) := (bif decide (t16 < t15) then (bif (decide (0 ≤ t16) && decide (t16 < (t14.length : Int))) then (bif decide (fI (t14.getD t16.toNat AV.undef) 0 ≤ t1) then (bif decide (fI (t14.getD t16.toNat AV.undef) 0 ≥ t1) then .stop (.inr (fI (t14.getD t16.toNat AV.undef) 1, fI (t14.getD t16.toNat AV.undef) 1, fI (t14.getD t16.toNat AV.undef) 0, fI (t14.getD t16.toNat AV.undef) 1))
  else .next (fI (t14.getD t16.toNat AV.undef) 1, IntKind.i64.wrap (t16 + 1)))
  else (bif decide (fI (t14.getD t16.toNat AV.undef) 0 ≥ t1) then .stop (.inr (t6, fI (t14.getD t16.toNat AV.undef) 1, fI (t14.getD t16.toNat AV.undef) 0, fI (t14.getD t16.toNat AV.undef) 1))
  else .next (t6, IntKind.i64.wrap (t16 + 1))))
  else .fail)
  else .stop (.inl t6))
def R116_0 (t1 : Int) (t7 : Int) (t14 : List AV) (t15 : Int) : ((Int × Int)) → Out ((Int × Int)) (Int ⊕ (Int × Int × Int × Int)) := fun s : Int × Int => F116_0 t1 t7 t14 t15 s.1 s.2
def l116_0 : LModel := fun _ _ st k => match st with
  | ⟨[(1, .int .i64 t1), (6, .int .i64 t6), (7, .int .i64 t7), (14, .sl g0 t14), (15, .int .i64 t15), (16, .int .i64 t16)], []⟩ => bif ctsEq g0 ([.int .i64, .int .i64]) then ro (runW (R116_0 t1 t7 t14 t15) ((t15 - t16).toNat + 1) (t6, t16)) none (sumE (fun p : Int => k (.exit 0) ⟨[(6, AV.int .i64 p), (7, AV.int .i64 t7)], []⟩) (fun p : Int × Int × Int × Int => k .ret ⟨[(4, AV.int .i64 p.1), (5, AV.int .i64 p.2.1)], [([1, 9], ⟨true, [], [AV.agg [AV.int .i64 p.2.2.1, AV.int .i64 p.2.2.2]]⟩)]⟩)) else none
  | _ => none
noncomputable def c116 : Cfg := cfg Try.prog [(116, 0, [1, 6, 7, 14, 15, 16]), (116, 999, [4, 5]), (116, 1000, [6, 7]), (116, 1001, [1, 6, 7, 14, 15, 16])] [] [] [] [(116, 0, l116_0)]
theorem s116_0 (ce : CallE) (t1 : Int) (t6 : Int) (t7 : Int) (t14 : List AV) (t15 : Int) (t16 : Int) (next : St → Option AV) (k : Kont) : stepA (codeA c116 ce [] 116 0 (sub [1, 1, 0, 1, 0, 0] (body Try.f116))) (normA [] [1, 6, 7, 14, 15, 16]) next ⟨[(1, AV.int .i64 t1), (6, AV.int .i64 t6), (7, AV.int .i64 t7), (14, AV.sl [.int .i64, .int .i64] t14), (15, AV.int .i64 t15), (16, AV.int .i64 t16)], []⟩ k = (bif decide (t16 < t15) then (bif (decide (0 ≤ t16) && decide (t16 < (t14.length : Int))) then (bif decide (fI (t14.getD t16.toNat AV.undef) 0 ≤ t1) then (bif decide (fI (t14.getD t16.toNat AV.undef) 0 ≥ t1) then k .ret ⟨[(4, AV.int .i64 (fI (t14.getD t16.toNat AV.undef) 1)), (5, AV.int .i64 (fI (t14.getD t16.toNat AV.undef) 1))], [([1, 9], ⟨true, [], [AV.agg [AV.int .i64 (fI (t14.getD t16.toNat AV.undef) 0), AV.int .i64 (fI (t14.getD t16.toNat AV.undef) 1)]]⟩)]⟩
  else next ⟨[(1, AV.int .i64 t1), (6, AV.int .i64 (fI (t14.getD t16.toNat AV.undef) 1)), (7, AV.int .i64 t7), (14, AV.sl [.int .i64, .int .i64] t14), (15, AV.int .i64 t15), (16, AV.int .i64 (IntKind.i64.wrap (t16 + 1)))], []⟩)
  else (bif decide (fI (t14.getD t16.toNat AV.undef) 0 ≥ t1) then k .ret ⟨[(4, AV.int .i64 t6), (5, AV.int .i64 (fI (t14.getD t16.toNat AV.undef) 1))], [([1, 9], ⟨true, [], [AV.agg [AV.int .i64 (fI (t14.getD t16.toNat AV.undef) 0), AV.int .i64 (fI (t14.getD t16.toNat AV.undef) 1)]]⟩)]⟩
  else next ⟨[(1, AV.int .i64 t1), (6, AV.int .i64 t6), (7, AV.int .i64 t7), (14, AV.sl [.int .i64, .int .i64] t14), (15, AV.int .i64 t15), (16, AV.int .i64 (IntKind.i64.wrap (t16 + 1)))], []⟩))
  else none)
  else k (.exit 0) ⟨[(6, AV.int .i64 t6), (7, AV.int .i64 t7)], []⟩) := by kernel_rfl
theorem st116_0 (t1 : Int) (t7 : Int) (t14 : List AV) (t15 : Int) (ce : CallE) (k : Kont) (s : (Int × Int)) (next : St → Option AV) : stepA (codeA c116 ce [] 116 0 (sub [1, 1, 0, 1, 0, 0] (body Try.f116))) (normA [] [1, 6, 7, 14, 15, 16]) next ((fun s : Int × Int => ⟨[(1, AV.int .i64 t1), (6, AV.int .i64 s.1), (7, AV.int .i64 t7), (14, AV.sl [.int .i64, .int .i64] t14), (15, AV.int .i64 t15), (16, AV.int .i64 s.2)], []⟩) s) k = (R116_0 t1 t7 t14 t15 s).el none (fun s => next ((fun s : Int × Int => ⟨[(1, AV.int .i64 t1), (6, AV.int .i64 s.1), (7, AV.int .i64 t7), (14, AV.sl [.int .i64, .int .i64] t14), (15, AV.int .i64 t15), (16, AV.int .i64 s.2)], []⟩) s)) (sumE (fun p : Int => k (.exit 0) ⟨[(6, AV.int .i64 p), (7, AV.int .i64 t7)], []⟩) (fun p : Int × Int × Int × Int => k .ret ⟨[(4, AV.int .i64 p.1), (5, AV.int .i64 p.2.1)], [([1, 9], ⟨true, [], [AV.agg [AV.int .i64 p.2.2.1, AV.int .i64 p.2.2.2]]⟩)]⟩)) := (s116_0 ce t1 s.1 t7 t14 t15 s.2 next k).trans (by unfold R116_0; unfold F116_0; simp only [el_cond, el_ro, el_sum, el_fail, el_next, el_stop] <;> rfl)
theorem ok116_0 {ce : CallE} : LoopOK c116 ce [] 116 0 (sub [1, 1, 0, 1, 0, 0] (body Try.f116)) := by
  intro m hm st k r h
  obtain rfl : l116_0 = m := Option.some.inj hm
  unfold l116_0 at h
  split at h
  · rename_i t1 t6 t7 g0 t14 t15 t16
    obtain ⟨hg, h⟩ := bif_some h
    have q0 := hg
    obtain rfl := ctsEq_eq _ _ q0
    refine ⟨((t15 - t16).toNat + 1), ?_⟩
    rw [← h]
    exact loop_run (fun s : Int × Int => ⟨[(1, AV.int .i64 t1), (6, AV.int .i64 s.1), (7, AV.int .i64 t7), (14, AV.sl [.int .i64, .int .i64] t14), (15, AV.int .i64 t15), (16, AV.int .i64 s.2)], []⟩) (sumE (fun p : Int => k (.exit 0) ⟨[(6, AV.int .i64 p), (7, AV.int .i64 t7)], []⟩) (fun p : Int × Int × Int × Int => k .ret ⟨[(4, AV.int .i64 p.1), (5, AV.int .i64 p.2.1)], [([1, 9], ⟨true, [], [AV.agg [AV.int .i64 p.2.2.1, AV.int .i64 p.2.2.2]]⟩)]⟩)) (st116_0 t1 t7 t14 t15 ce k) _ (t6, t16)
  · cases h
def q116 (a0_0 : List AV) (a0_1 : List AV) (a0_2 : List AV) (a1 : Int) : Bool := (ro (runW (R116_0 a1 (a0_0.length : Int) a0_2 (a0_2.length : Int)) (((a0_2.length : Int) - 0).toNat + 1) (0, 0)) false (sumE (fun p49 => true) (fun p50 => true)))
def v116_0 (a0_0 : List AV) (a0_1 : List AV) (a0_2 : List AV) (a1 : Int) : Int := (ro (runW (R116_0 a1 (a0_0.length : Int) a0_2 (a0_2.length : Int)) (((a0_2.length : Int) - 0).toNat + 1) (0, 0)) 0 (sumE (fun p49 => p49) (fun p50 => p50.1)))
def v116_1 (a0_0 : List AV) (a0_1 : List AV) (a0_2 : List AV) (a1 : Int) : Int := (ro (runW (R116_0 a1 (a0_0.length : Int) a0_2 (a0_2.length : Int)) (((a0_2.length : Int) - 0).toNat + 1) (0, 0)) 0 (sumE (fun p49 => (a0_0.length : Int)) (fun p50 => p50.2.1)))
theorem e116 (a0_0 : List AV) (a0_1 : List AV) (a0_2 : List AV) (a1 : Int) : funA c116 0 116 [AV.agg [AV.sl [.int .i64] a0_0, AV.sl [.int .i64] a0_1, AV.sl [.int .i64, .int .i64] a0_2], AV.int .i64 a1] = (ro (runW (R116_0 a1 (a0_0.length : Int) a0_2 (a0_2.length : Int)) (((a0_2.length : Int) - 0).toNat + 1) (0, 0)) none (sumE (fun p49 => some (AV.tup [AV.int .i64 p49, AV.int .i64 (a0_0.length : Int)])) (fun p50 => some (AV.tup [AV.int .i64 p50.1, AV.int .i64 p50.2.1])))) := by kernel_rfl
theorem r116 (a0_0 : List AV) (a0_1 : List AV) (a0_2 : List AV) (a1 : Int) (h : q116 a0_0 a0_1 a0_2 a1 = true) : funA c116 0 116 [AV.agg [AV.sl [.int .i64] a0_0, AV.sl [.int .i64] a0_1, AV.sl [.int .i64, .int .i64] a0_2], AV.int .i64 a1] = some (AV.tup [AV.int .i64 (v116_0 a0_0 a0_1 a0_2 a1), AV.int .i64 (v116_1 a0_0 a0_1 a0_2 a1)]) := (e116 a0_0 a0_1 a0_2 a1).trans ((brO (fun o : Option (Int ⊕ (Int × Int × Int × Int)) => some (AV.tup [AV.int .i64 (ro o 0 (sumE (fun p49 => p49) (fun p50 => p50.1))), AV.int .i64 (ro o 0 (sumE (fun p49 => (a0_0.length : Int)) (fun p50 => p50.2.1)))])) (brS (fun o : Int ⊕ (Int × Int × Int × Int) => some (AV.tup [AV.int .i64 ((sumE (fun p49 => p49) (fun p50 => p50.1)) o), AV.int .i64 ((sumE (fun p49 => (a0_0.length : Int)) (fun p50 => p50.2.1)) o)])) (fun p49 => (fun _ => rfl)) (fun p50 => (fun _ => rfl)))) h)
def m116 : TModel
  | [.agg [.sl g0 a0_0, .sl g1 a0_1, .sl g2 a0_2], .int .i64 a1] => bif ctsEq g0 ([.int .i64]) && ctsEq g1 ([.int .i64]) && ctsEq g2 ([.int .i64, .int .i64]) then some (q116 a0_0 a0_1 a0_2 a1, AV.tup [AV.int .i64 (v116_0 a0_0 a0_1 a0_2 a1), AV.int .i64 (v116_1 a0_0 a0_1 a0_2 a1)]) else none
  | _ => none
theorem k116 : Known Try.prog 116 := ⟨Try.f116, Try.func116, by kernel_rfl, by kernel_rfl⟩
theorem meets116 : Meets Try.prog 116 m116 := by
  refine meet (f := Try.f116) (l := [(0, sub [1, 1, 0, 1, 0, 0] (body Try.f116))]) (hs := [(116, 0, [1, 6, 7, 14, 15, 16]), (116, 999, [4, 5]), (116, 1000, [6, 7]), (116, 1001, [1, 6, 7, 14, 15, 16])]) (ts := []) (ws := []) (is := []) (ls := [(116, 0, l116_0)]) (lvl := 0) mixed k116 Try.func116 (by kernel_rfl) (loops_cons ok116_0 noLoop) allT_nil allM_nil noI fun w xs us r hl hv h => ?_
  unfold m116 at h
  split at h
  · rename_i g0 a0_0 g1 a0_1 g2 a0_2 a1
    obtain ⟨hg, h⟩ := bif_pair h
    simp only [Bool.and_eq_true] at hg
    obtain ⟨⟨q0, q1⟩, q2⟩ := hg
    obtain rfl := ctsEq_eq _ _ q0
    obtain rfl := ctsEq_eq _ _ q1
    obtain rfl := ctsEq_eq _ _ q2
    obtain ⟨h1, rfl⟩ := pair_inj h
    exact r116 a0_0 a0_1 a0_2 a1 h1
  · cases h

/-! ### 71 loop.example/g01984/impl.isWorker -/
def F71_0 (t5 : Int) (t7 : Int) (h0_0 : List AV) (h0_1 : List AV) (h0_2 : List AV) (h1_0 : List AV) (h1_1 : Int) (h1_2 : Bool) (h1_3 : Int) (h1_4 : Int) (h1_5 : Int) (h1_6 : Int) (h1_7 : Int) (h1_8 : Int) (t8 : Int) : Out (Int) (Unit ⊕ Unit) := (bif decide (t8 < t7) then (bif decide (t8 < h1_5) then (bif (decide (0 ≤ t8) && decide (t8 < (h0_0.length : Int))) then (bif decide (fI (h0_0.getD t8.toNat AV.undef) 0 ≥ t5) then .stop (.inr ())
  else (bif decide (t8 > h1_6) then (bif (decide (0 ≤ t8) && decide (t8 < (h0_0.length : Int))) then (bif decide (fI (h0_0.getD t8.toNat AV.undef) 0 < t5) then .stop (.inr ())
  else .next (IntKind.i64.wrap (t8 + 1)))
  else .fail)
  else .next (IntKind.i64.wrap (t8 + 1))))
  else .fail)
  else (bif decide (t8 > h1_6) then (bif (decide (0 ≤ t8) && decide (t8 < (h0_0.length : Int))) then (bif decide (fI (h0_0.getD t8.toNat AV.undef) 0 < t5) then .stop (.inr ())
  else .next (IntKind.i64.wrap (t8 + 1)))
  else .fail)
  else .next (IntKind.i64.wrap (t8 + 1))))
  else .stop (.inl ()))
def R71_0 (t5 : Int) (t7 : Int) (h0_0 : List AV) (h0_1 : List AV) (h0_2 : List AV) (h1_0 : List AV) (h1_1 : Int) (h1_2 : Bool) (h1_3 : Int) (h1_4 : Int) (h1_5 : Int) (h1_6 : Int) (h1_7 : Int) (h1_8 : Int) : (Int) → Out (Int) (Unit ⊕ Unit) := fun s : Int => F71_0 t5 t7 h0_0 h0_1 h0_2 h1_0 h1_1 h1_2 h1_3 h1_4 h1_5 h1_6 h1_7 h1_8 s
def l71_0 : LModel := fun _ _ st k => match st with
  | ⟨[(2, .ptr g0 g1 g2), (3, .ptr g3 g4 g5), (5, .int .i64 t5), (7, .int .i64 t7), (8, .int .i64 t8)], [(g6, ⟨true, [], [.agg [.sl g7 h0_0, .sl g8 h0_1, .sl g9 h0_2]]⟩), (g10, ⟨true, [], [.agg [.sl g11 h1_0, .int .i64 h1_1, .bool h1_2, .int .i64 h1_3, .int .i64 h1_4, .int .i64 h1_5, .int .i64 h1_6, .int .i64 h1_7, .int .i64 h1_8]]⟩)]⟩ => bif nmEq g0 ([0, 2]) && Nat.beq g1 0 && Nat.beq g2 0 && nmEq g3 ([0, 3]) && Nat.beq g4 0 && Nat.beq g5 0 && nmEq g6 ([0, 2]) && ctsEq g7 ([.int .i64]) && ctsEq g8 ([.int .i64]) && ctsEq g9 ([.int .i64, .int .i64]) && nmEq g10 ([0, 3]) && ctsEq g11 ([.int .i64]) then ro (runW (R71_0 t5 t7 h0_0 h0_1 h0_2 h1_0 h1_1 h1_2 h1_3 h1_4 h1_5 h1_6 h1_7 h1_8) ((t7 - t8).toNat + 1) t8) none (sumE (fun _ : Unit => k (.exit 0) ⟨[], [([0, 2], ⟨true, [], [AV.agg [AV.sl [.int .i64] h0_0, AV.sl [.int .i64] h0_1, AV.sl [.int .i64, .int .i64] h0_2]]⟩), ([0, 3], ⟨true, [], [AV.agg [AV.sl [.int .i64] h1_0, AV.int .i64 h1_1, AV.bool h1_2, AV.int .i64 h1_3, AV.int .i64 h1_4, AV.int .i64 h1_5, AV.int .i64 h1_6, AV.int .i64 h1_7, AV.int .i64 h1_8]]⟩)]⟩) (fun _ : Unit => k .ret ⟨[(4, AV.bool false)], [([0, 2], ⟨true, [], [AV.agg [AV.sl [.int .i64] h0_0, AV.sl [.int .i64] h0_1, AV.sl [.int .i64, .int .i64] h0_2]]⟩), ([0, 3], ⟨true, [], [AV.agg [AV.sl [.int .i64] h1_0, AV.int .i64 h1_1, AV.bool h1_2, AV.int .i64 h1_3, AV.int .i64 h1_4, AV.int .i64 h1_5, AV.int .i64 h1_6, AV.int .i64 h1_7, AV.int .i64 h1_8]]⟩)]⟩)) else none
  | _ => none
noncomputable def c71 : Cfg := cfg Try.prog [(71, 0, [2, 3, 5, 7, 8]), (71, 999, [4]), (71, 1000, []), (71, 1001, [2, 3, 5, 7, 8])] [(77, m77), (115, m115), (116, m116)] [] [] [(71, 0, l71_0)]
theorem s71_0 (ce : CallE) (t5 : Int) (t7 : Int) (t8 : Int) (h0_0 : List AV) (h0_1 : List AV) (h0_2 : List AV) (h1_0 : List AV) (h1_1 : Int) (h1_2 : Bool) (h1_3 : Int) (h1_4 : Int) (h1_5 : Int) (h1_6 : Int) (h1_7 : Int) (h1_8 : Int) (next : St → Option AV) (k : Kont) : stepA (codeA c71 ce [] 71 0 (sub [1, 1, 1, 1, 1, 1, 1, 0, 1, 0, 0] (body Try.f71))) (normA [] [2, 3, 5, 7, 8]) next ⟨[(2, AV.ptr [0, 2] 0 0), (3, AV.ptr [0, 3] 0 0), (5, AV.int .i64 t5), (7, AV.int .i64 t7), (8, AV.int .i64 t8)], [([0, 2], ⟨true, [], [AV.agg [AV.sl [.int .i64] h0_0, AV.sl [.int .i64] h0_1, AV.sl [.int .i64, .int .i64] h0_2]]⟩), ([0, 3], ⟨true, [], [AV.agg [AV.sl [.int .i64] h1_0, AV.int .i64 h1_1, AV.bool h1_2, AV.int .i64 h1_3, AV.int .i64 h1_4, AV.int .i64 h1_5, AV.int .i64 h1_6, AV.int .i64 h1_7, AV.int .i64 h1_8]]⟩)]⟩ k = (bif decide (t8 < t7) then (bif decide (t8 < h1_5) then (bif (decide (0 ≤ t8) && decide (t8 < (h0_0.length : Int))) then (bif decide (fI (h0_0.getD t8.toNat AV.undef) 0 ≥ t5) then k .ret ⟨[(4, AV.bool false)], [([0, 2], ⟨true, [], [AV.agg [AV.sl [.int .i64] h0_0, AV.sl [.int .i64] h0_1, AV.sl [.int .i64, .int .i64] h0_2]]⟩), ([0, 3], ⟨true, [], [AV.agg [AV.sl [.int .i64] h1_0, AV.int .i64 h1_1, AV.bool h1_2, AV.int .i64 h1_3, AV.int .i64 h1_4, AV.int .i64 h1_5, AV.int .i64 h1_6, AV.int .i64 h1_7, AV.int .i64 h1_8]]⟩)]⟩
  else (bif decide (t8 > h1_6) then (bif (decide (0 ≤ t8) && decide (t8 < (h0_0.length : Int))) then (bif decide (fI (h0_0.getD t8.toNat AV.undef) 0 < t5) then k .ret ⟨[(4, AV.bool false)], [([0, 2], ⟨true, [], [AV.agg [AV.sl [.int .i64] h0_0, AV.sl [.int .i64] h0_1, AV.sl [.int .i64, .int .i64] h0_2]]⟩), ([0, 3], ⟨true, [], [AV.agg [AV.sl [.int .i64] h1_0, AV.int .i64 h1_1, AV.bool h1_2, AV.int .i64 h1_3, AV.int .i64 h1_4, AV.int .i64 h1_5, AV.int .i64 h1_6, AV.int .i64 h1_7, AV.int .i64 h1_8]]⟩)]⟩
  else next ⟨[(2, AV.ptr [0, 2] 0 0), (3, AV.ptr [0, 3] 0 0), (5, AV.int .i64 t5), (7, AV.int .i64 t7), (8, AV.int .i64 (IntKind.i64.wrap (t8 + 1)))], [([0, 2], ⟨true, [], [AV.agg [AV.sl [.int .i64] h0_0, AV.sl [.int .i64] h0_1, AV.sl [.int .i64, .int .i64] h0_2]]⟩), ([0, 3], ⟨true, [], [AV.agg [AV.sl [.int .i64] h1_0, AV.int .i64 h1_1, AV.bool h1_2, AV.int .i64 h1_3, AV.int .i64 h1_4, AV.int .i64 h1_5, AV.int .i64 h1_6, AV.int .i64 h1_7, AV.int .i64 h1_8]]⟩)]⟩)
  else none)
  else next ⟨[(2, AV.ptr [0, 2] 0 0), (3, AV.ptr [0, 3] 0 0), (5, AV.int .i64 t5), (7, AV.int .i64 t7), (8, AV.int .i64 (IntKind.i64.wrap (t8 + 1)))], [([0, 2], ⟨true, [], [AV.agg [AV.sl [.int .i64] h0_0, AV.sl [.int .i64] h0_1, AV.sl [.int .i64, .int .i64] h0_2]]⟩), ([0, 3], ⟨true, [], [AV.agg [AV.sl [.int .i64] h1_0, AV.int .i64 h1_1, AV.bool h1_2, AV.int .i64 h1_3, AV.int .i64 h1_4, AV.int .i64 h1_5, AV.int .i64 h1_6, AV.int .i64 h1_7, AV.int .i64 h1_8]]⟩)]⟩))
  else none)
  else (bif decide (t8 > h1_6) then (bif (decide (0 ≤ t8) && decide (t8 < (h0_0.length : Int))) then (bif decide (fI (h0_0.getD t8.toNat AV.undef) 0 < t5) then k .ret ⟨[(4, AV.bool false)], [([0, 2], ⟨true, [], [AV.agg [AV.sl [.int .i64] h0_0, AV.sl [.int .i64] h0_1, AV.sl [.int .i64, .int .i64] h0_2]]⟩), ([0, 3], ⟨true, [], [AV.agg [AV.sl [.int .i64] h1_0, AV.int .i64 h1_1, AV.bool h1_2, AV.int .i64 h1_3, AV.int .i64 h1_4, AV.int .i64 h1_5, AV.int .i64 h1_6, AV.int .i64 h1_7, AV.int .i64 h1_8]]⟩)]⟩
  else next ⟨[(2, AV.ptr [0, 2] 0 0), (3, AV.ptr [0, 3] 0 0), (5, AV.int .i64 t5), (7, AV.int .i64 t7), (8, AV.int .i64 (IntKind.i64.wrap (t8 + 1)))], [([0, 2], ⟨true, [], [AV.agg [AV.sl [.int .i64] h0_0, AV.sl [.int .i64] h0_1, AV.sl [.int .i64, .int .i64] h0_2]]⟩), ([0, 3], ⟨true, [], [AV.agg [AV.sl [.int .i64] h1_0, AV.int .i64 h1_1, AV.bool h1_2, AV.int .i64 h1_3, AV.int .i64 h1_4, AV.int .i64 h1_5, AV.int .i64 h1_6, AV.int .i64 h1_7, AV.int .i64 h1_8]]⟩)]⟩)
  else none)
  else next ⟨[(2, AV.ptr [0, 2] 0 0), (3, AV.ptr [0, 3] 0 0), (5, AV.int .i64 t5), (7, AV.int .i64 t7), (8, AV.int .i64 (IntKind.i64.wrap (t8 + 1)))], [([0, 2], ⟨true, [], [AV.agg [AV.sl [.int .i64] h0_0, AV.sl [.int .i64] h0_1, AV.sl [.int .i64, .int .i64] h0_2]]⟩), ([0, 3], ⟨true, [], [AV.agg [AV.sl [.int .i64] h1_0, AV.int .i64 h1_1, AV.bool h1_2, AV.int .i64 h1_3, AV.int .i64 h1_4, AV.int .i64 h1_5, AV.int .i64 h1_6, AV.int .i64 h1_7, AV.int .i64 h1_8]]⟩)]⟩))
  else k (.exit 0) ⟨[], [([0, 2], ⟨true, [], [AV.agg [AV.sl [.int .i64] h0_0, AV.sl [.int .i64] h0_1, AV.sl [.int .i64, .int .i64] h0_2]]⟩), ([0, 3], ⟨true, [], [AV.agg [AV.sl [.int .i64] h1_0, AV.int .i64 h1_1, AV.bool h1_2, AV.int .i64 h1_3, AV.int .i64 h1_4, AV.int .i64 h1_5, AV.int .i64 h1_6, AV.int .i64 h1_7, AV.int .i64 h1_8]]⟩)]⟩) := by kernel_rfl
theorem st71_0 (t5 : Int) (t7 : Int) (h0_0 : List AV) (h0_1 : List AV) (h0_2 : List AV) (h1_0 : List AV) (h1_1 : Int) (h1_2 : Bool) (h1_3 : Int) (h1_4 : Int) (h1_5 : Int) (h1_6 : Int) (h1_7 : Int) (h1_8 : Int) (ce : CallE) (k : Kont) (s : Int) (next : St → Option AV) : stepA (codeA c71 ce [] 71 0 (sub [1, 1, 1, 1, 1, 1, 1, 0, 1, 0, 0] (body Try.f71))) (normA [] [2, 3, 5, 7, 8]) next ((fun s : Int => ⟨[(2, AV.ptr [0, 2] 0 0), (3, AV.ptr [0, 3] 0 0), (5, AV.int .i64 t5), (7, AV.int .i64 t7), (8, AV.int .i64 s)], [([0, 2], ⟨true, [], [AV.agg [AV.sl [.int .i64] h0_0, AV.sl [.int .i64] h0_1, AV.sl [.int .i64, .int .i64] h0_2]]⟩), ([0, 3], ⟨true, [], [AV.agg [AV.sl [.int .i64] h1_0, AV.int .i64 h1_1, AV.bool h1_2, AV.int .i64 h1_3, AV.int .i64 h1_4, AV.int .i64 h1_5, AV.int .i64 h1_6, AV.int .i64 h1_7, AV.int .i64 h1_8]]⟩)]⟩) s) k = (R71_0 t5 t7 h0_0 h0_1 h0_2 h1_0 h1_1 h1_2 h1_3 h1_4 h1_5 h1_6 h1_7 h1_8 s).el none (fun s => next ((fun s : Int => ⟨[(2, AV.ptr [0, 2] 0 0), (3, AV.ptr [0, 3] 0 0), (5, AV.int .i64 t5), (7, AV.int .i64 t7), (8, AV.int .i64 s)], [([0, 2], ⟨true, [], [AV.agg [AV.sl [.int .i64] h0_0, AV.sl [.int .i64] h0_1, AV.sl [.int .i64, .int .i64] h0_2]]⟩), ([0, 3], ⟨true, [], [AV.agg [AV.sl [.int .i64] h1_0, AV.int .i64 h1_1, AV.bool h1_2, AV.int .i64 h1_3, AV.int .i64 h1_4, AV.int .i64 h1_5, AV.int .i64 h1_6, AV.int .i64 h1_7, AV.int .i64 h1_8]]⟩)]⟩) s)) (sumE (fun _ : Unit => k (.exit 0) ⟨[], [([0, 2], ⟨true, [], [AV.agg [AV.sl [.int .i64] h0_0, AV.sl [.int .i64] h0_1, AV.sl [.int .i64, .int .i64] h0_2]]⟩), ([0, 3], ⟨true, [], [AV.agg [AV.sl [.int .i64] h1_0, AV.int .i64 h1_1, AV.bool h1_2, AV.int .i64 h1_3, AV.int .i64 h1_4, AV.int .i64 h1_5, AV.int .i64 h1_6, AV.int .i64 h1_7, AV.int .i64 h1_8]]⟩)]⟩) (fun _ : Unit => k .ret ⟨[(4, AV.bool false)], [([0, 2], ⟨true, [], [AV.agg [AV.sl [.int .i64] h0_0, AV.sl [.int .i64] h0_1, AV.sl [.int .i64, .int .i64] h0_2]]⟩), ([0, 3], ⟨true, [], [AV.agg [AV.sl [.int .i64] h1_0, AV.int .i64 h1_1, AV.bool h1_2, AV.int .i64 h1_3, AV.int .i64 h1_4, AV.int .i64 h1_5, AV.int .i64 h1_6, AV.int .i64 h1_7, AV.int .i64 h1_8]]⟩)]⟩)) := (s71_0 ce t5 t7 s h0_0 h0_1 h0_2 h1_0 h1_1 h1_2 h1_3 h1_4 h1_5 h1_6 h1_7 h1_8 next k).trans (by unfold R71_0; unfold F71_0; simp only [el_cond, el_ro, el_sum, el_fail, el_next, el_stop] <;> rfl)
theorem ok71_0 {ce : CallE} : LoopOK c71 ce [] 71 0 (sub [1, 1, 1, 1, 1, 1, 1, 0, 1, 0, 0] (body Try.f71)) := by
  intro m hm st k r h
  obtain rfl : l71_0 = m := Option.some.inj hm
  unfold l71_0 at h
  split at h
  · rename_i g0 g1 g2 g3 g4 g5 t5 t7 t8 g6 g7 h0_0 g8 h0_1 g9 h0_2 g10 g11 h1_0 h1_1 h1_2 h1_3 h1_4 h1_5 h1_6 h1_7 h1_8
    obtain ⟨hg, h⟩ := bif_some h
    simp only [Bool.and_eq_true] at hg
    obtain ⟨⟨⟨⟨⟨⟨⟨⟨⟨⟨⟨q0, q1⟩, q2⟩, q3⟩, q4⟩, q5⟩, q6⟩, q7⟩, q8⟩, q9⟩, q10⟩, q11⟩ := hg
    obtain rfl := (nmEq_iff _ _).1 q0
    obtain rfl := Nat.eq_of_beq_eq_true q1
    obtain rfl := Nat.eq_of_beq_eq_true q2
    obtain rfl := (nmEq_iff _ _).1 q3
    obtain rfl := Nat.eq_of_beq_eq_true q4
    obtain rfl := Nat.eq_of_beq_eq_true q5
    obtain rfl := (nmEq_iff _ _).1 q6
    obtain rfl := ctsEq_eq _ _ q7
    obtain rfl := ctsEq_eq _ _ q8
    obtain rfl := ctsEq_eq _ _ q9
    obtain rfl := (nmEq_iff _ _).1 q10
    obtain rfl := ctsEq_eq _ _ q11
    refine ⟨((t7 - t8).toNat + 1), ?_⟩
    rw [← h]
    exact loop_run (fun s : Int => ⟨[(2, AV.ptr [0, 2] 0 0), (3, AV.ptr [0, 3] 0 0), (5, AV.int .i64 t5), (7, AV.int .i64 t7), (8, AV.int .i64 s)], [([0, 2], ⟨true, [], [AV.agg [AV.sl [.int .i64] h0_0, AV.sl [.int .i64] h0_1, AV.sl [.int .i64, .int .i64] h0_2]]⟩), ([0, 3], ⟨true, [], [AV.agg [AV.sl [.int .i64] h1_0, AV.int .i64 h1_1, AV.bool h1_2, AV.int .i64 h1_3, AV.int .i64 h1_4, AV.int .i64 h1_5, AV.int .i64 h1_6, AV.int .i64 h1_7, AV.int .i64 h1_8]]⟩)]⟩) (sumE (fun _ : Unit => k (.exit 0) ⟨[], [([0, 2], ⟨true, [], [AV.agg [AV.sl [.int .i64] h0_0, AV.sl [.int .i64] h0_1, AV.sl [.int .i64, .int .i64] h0_2]]⟩), ([0, 3], ⟨true, [], [AV.agg [AV.sl [.int .i64] h1_0, AV.int .i64 h1_1, AV.bool h1_2, AV.int .i64 h1_3, AV.int .i64 h1_4, AV.int .i64 h1_5, AV.int .i64 h1_6, AV.int .i64 h1_7, AV.int .i64 h1_8]]⟩)]⟩) (fun _ : Unit => k .ret ⟨[(4, AV.bool false)], [([0, 2], ⟨true, [], [AV.agg [AV.sl [.int .i64] h0_0, AV.sl [.int .i64] h0_1, AV.sl [.int .i64, .int .i64] h0_2]]⟩), ([0, 3], ⟨true, [], [AV.agg [AV.sl [.int .i64] h1_0, AV.int .i64 h1_1, AV.bool h1_2, AV.int .i64 h1_3, AV.int .i64 h1_4, AV.int .i64 h1_5, AV.int .i64 h1_6, AV.int .i64 h1_7, AV.int .i64 h1_8]]⟩)]⟩)) (st71_0 t5 t7 h0_0 h0_1 h0_2 h1_0 h1_1 h1_2 h1_3 h1_4 h1_5 h1_6 h1_7 h1_8 ce k) _ t8
  · cases h
def q71 (a0_0 : List AV) (a0_1 : List AV) (a0_2 : List AV) (a1_0 : List AV) (a1_1 : Int) (a1_2 : Bool) (a1_3 : Int) (a1_4 : Int) (a1_5 : Int) (a1_6 : Int) (a1_7 : Int) (a1_8 : Int) : Bool := (bif decide ((a1_0.length : Int) > 6) then true else (q115 a1_0 && (bif !(v115_0 a1_0) then true else (bif decide (a1_1 < 0) then true else (bif decide (a1_1 > (a1_0.length : Int)) then true else (bif decide (a1_7 < 0) then true else (bif decide (a1_7 > 100000) then true else (bif decide (a1_8 < 0) then true else (bif decide (a1_8 > 100000) then true else (bif !a1_2 then true else (bif decide (a1_1 = (a1_0.length : Int)) then true else ((decide (0 ≤ a1_1) && decide (a1_1 < (a1_0.length : Int))) && (q77 a0_0 a0_1 a0_2 (fI (a1_0.getD a1_1.toNat AV.undef) 0) && (bif (v77_0 a0_0 a0_1 a0_2 (fI (a1_0.getD a1_1.toNat AV.undef) 0)) then true else ((decide (0 ≤ a1_1) && decide (a1_1 < (a1_0.length : Int))) && (q116 a0_0 a0_1 a0_2 (fI (a1_0.getD a1_1.toNat AV.undef) 0) && (bif !decide (a1_3 = (v116_0 a0_0 a0_1 a0_2 (fI (a1_0.getD a1_1.toNat AV.undef) 0))) then true else (bif !decide (a1_4 = (v116_1 a0_0 a0_1 a0_2 (fI (a1_0.getD a1_1.toNat AV.undef) 0))) then true else (bif decide (a1_5 < (v116_0 a0_0 a0_1 a0_2 (fI (a1_0.getD a1_1.toNat AV.undef) 0))) then true else (bif decide (a1_6 ≥ (v116_1 a0_0 a0_1 a0_2 (fI (a1_0.getD a1_1.toNat AV.undef) 0))) then true else (bif decide (IntKind.i64.wrap (a1_5 - 1) > a1_6) then true else (ro (runW (R71_0 (fI (a1_0.getD a1_1.toNat AV.undef) 0) (v116_1 a0_0 a0_1 a0_2 (fI (a1_0.getD a1_1.toNat AV.undef) 0)) a0_0 a0_1 a0_2 a1_0 a1_1 a1_2 a1_3 a1_4 a1_5 a1_6 a1_7 a1_8) (((v116_1 a0_0 a0_1 a0_2 (fI (a1_0.getD a1_1.toNat AV.undef) 0)) - (v116_0 a0_0 a0_1 a0_2 (fI (a1_0.getD a1_1.toNat AV.undef) 0))).toNat + 1) (v116_0 a0_0 a0_1 a0_2 (fI (a1_0.getD a1_1.toNat AV.undef) 0))) false (sumE (fun _ => true) (fun _ => true))))))))))))))))))))))))
def v71_0 (a0_0 : List AV) (a0_1 : List AV) (a0_2 : List AV) (a1_0 : List AV) (a1_1 : Int) (a1_2 : Bool) (a1_3 : Int) (a1_4 : Int) (a1_5 : Int) (a1_6 : Int) (a1_7 : Int) (a1_8 : Int) : Bool := (bif decide ((a1_0.length : Int) > 6) then false else (bif !(v115_0 a1_0) then false else (bif decide (a1_1 < 0) then false else (bif decide (a1_1 > (a1_0.length : Int)) then false else (bif decide (a1_7 < 0) then false else (bif decide (a1_7 > 100000) then false else (bif decide (a1_8 < 0) then false else (bif decide (a1_8 > 100000) then false else (bif !a1_2 then (bif decide (a1_3 = 0) then (bif decide (a1_4 = 0) then (bif decide (a1_5 = 0) then decide (a1_6 = 0) else false) else false) else false) else (bif decide (a1_1 = (a1_0.length : Int)) then false else (bif (v77_0 a0_0 a0_1 a0_2 (fI (a1_0.getD a1_1.toNat AV.undef) 0)) then false else (bif !decide (a1_3 = (v116_0 a0_0 a0_1 a0_2 (fI (a1_0.getD a1_1.toNat AV.undef) 0))) then false else (bif !decide (a1_4 = (v116_1 a0_0 a0_1 a0_2 (fI (a1_0.getD a1_1.toNat AV.undef) 0))) then false else (bif decide (a1_5 < (v116_0 a0_0 a0_1 a0_2 (fI (a1_0.getD a1_1.toNat AV.undef) 0))) then false else (bif decide (a1_6 ≥ (v116_1 a0_0 a0_1 a0_2 (fI (a1_0.getD a1_1.toNat AV.undef) 0))) then false else (bif decide (IntKind.i64.wrap (a1_5 - 1) > a1_6) then false else (ro (runW (R71_0 (fI (a1_0.getD a1_1.toNat AV.undef) 0) (v116_1 a0_0 a0_1 a0_2 (fI (a1_0.getD a1_1.toNat AV.undef) 0)) a0_0 a0_1 a0_2 a1_0 a1_1 a1_2 a1_3 a1_4 a1_5 a1_6 a1_7 a1_8) (((v116_1 a0_0 a0_1 a0_2 (fI (a1_0.getD a1_1.toNat AV.undef) 0)) - (v116_0 a0_0 a0_1 a0_2 (fI (a1_0.getD a1_1.toNat AV.undef) 0))).toNat + 1) (v116_0 a0_0 a0_1 a0_2 (fI (a1_0.getD a1_1.toNat AV.undef) 0))) false (sumE (fun _ => true) (fun _ => false)))))))))))))))))))
theorem e71 (a0_0 : List AV) (a0_1 : List AV) (a0_2 : List AV) (a1_0 : List AV) (a1_1 : Int) (a1_2 : Bool) (a1_3 : Int) (a1_4 : Int) (a1_5 : Int) (a1_6 : Int) (a1_7 : Int) (a1_8 : Int) : funA c71 0 71 [AV.agg [AV.sl [.int .i64] a0_0, AV.sl [.int .i64] a0_1, AV.sl [.int .i64, .int .i64] a0_2], AV.agg [AV.sl [.int .i64] a1_0, AV.int .i64 a1_1, AV.bool a1_2, AV.int .i64 a1_3, AV.int .i64 a1_4, AV.int .i64 a1_5, AV.int .i64 a1_6, AV.int .i64 a1_7, AV.int .i64 a1_8]] = (bif decide ((a1_0.length : Int) > 6) then some (AV.bool false)
  else (bif q115 a1_0 then (bif !(v115_0 a1_0) then some (AV.bool false)
  else (bif decide (a1_1 < 0) then some (AV.bool false)
  else (bif decide (a1_1 > (a1_0.length : Int)) then some (AV.bool false)
  else (bif decide (a1_7 < 0) then some (AV.bool false)
  else (bif decide (a1_7 > 100000) then some (AV.bool false)
  else (bif decide (a1_8 < 0) then some (AV.bool false)
  else (bif decide (a1_8 > 100000) then some (AV.bool false)
  else (bif !a1_2 then (bif decide (a1_3 = 0) then (bif decide (a1_4 = 0) then (bif decide (a1_5 = 0) then some (AV.bool (decide (a1_6 = 0)))
  else some (AV.bool false))
  else some (AV.bool false))
  else some (AV.bool false))
  else (bif decide (a1_1 = (a1_0.length : Int)) then some (AV.bool false)
  else (bif (decide (0 ≤ a1_1) && decide (a1_1 < (a1_0.length : Int))) then (bif q77 a0_0 a0_1 a0_2 (fI (a1_0.getD a1_1.toNat AV.undef) 0) then (bif (v77_0 a0_0 a0_1 a0_2 (fI (a1_0.getD a1_1.toNat AV.undef) 0)) then some (AV.bool false)
  else (bif (decide (0 ≤ a1_1) && decide (a1_1 < (a1_0.length : Int))) then (bif q116 a0_0 a0_1 a0_2 (fI (a1_0.getD a1_1.toNat AV.undef) 0) then (bif !decide (a1_3 = (v116_0 a0_0 a0_1 a0_2 (fI (a1_0.getD a1_1.toNat AV.undef) 0))) then some (AV.bool false)
  else (bif !decide (a1_4 = (v116_1 a0_0 a0_1 a0_2 (fI (a1_0.getD a1_1.toNat AV.undef) 0))) then some (AV.bool false)
  else (bif decide (a1_5 < (v116_0 a0_0 a0_1 a0_2 (fI (a1_0.getD a1_1.toNat AV.undef) 0))) then some (AV.bool false)
  else (bif decide (a1_6 ≥ (v116_1 a0_0 a0_1 a0_2 (fI (a1_0.getD a1_1.toNat AV.undef) 0))) then some (AV.bool false)
  else (bif decide (IntKind.i64.wrap (a1_5 - 1) > a1_6) then some (AV.bool false)
  else (ro (runW (R71_0 (fI (a1_0.getD a1_1.toNat AV.undef) 0) (v116_1 a0_0 a0_1 a0_2 (fI (a1_0.getD a1_1.toNat AV.undef) 0)) a0_0 a0_1 a0_2 a1_0 a1_1 a1_2 a1_3 a1_4 a1_5 a1_6 a1_7 a1_8) (((v116_1 a0_0 a0_1 a0_2 (fI (a1_0.getD a1_1.toNat AV.undef) 0)) - (v116_0 a0_0 a0_1 a0_2 (fI (a1_0.getD a1_1.toNat AV.undef) 0))).toNat + 1) (v116_0 a0_0 a0_1 a0_2 (fI (a1_0.getD a1_1.toNat AV.undef) 0))) none (sumE (fun _ => some (AV.bool true)) (fun _ => some (AV.bool false)))))))))
  else none)
  else none))
  else none)
  else none))))))))))
  else none)) := by kernel_rfl
theorem r71 (a0_0 : List AV) (a0_1 : List AV) (a0_2 : List AV) (a1_0 : List AV) (a1_1 : Int) (a1_2 : Bool) (a1_3 : Int) (a1_4 : Int) (a1_5 : Int) (a1_6 : Int) (a1_7 : Int) (a1_8 : Int) (h : q71 a0_0 a0_1 a0_2 a1_0 a1_1 a1_2 a1_3 a1_4 a1_5 a1_6 a1_7 a1_8 = true) : funA c71 0 71 [AV.agg [AV.sl [.int .i64] a0_0, AV.sl [.int .i64] a0_1, AV.sl [.int .i64, .int .i64] a0_2], AV.agg [AV.sl [.int .i64] a1_0, AV.int .i64 a1_1, AV.bool a1_2, AV.int .i64 a1_3, AV.int .i64 a1_4, AV.int .i64 a1_5, AV.int .i64 a1_6, AV.int .i64 a1_7, AV.int .i64 a1_8]] = some (AV.bool (v71_0 a0_0 a0_1 a0_2 a1_0 a1_1 a1_2 a1_3 a1_4 a1_5 a1_6 a1_7 a1_8)) := (e71 a0_0 a0_1 a0_2 a1_0 a1_1 a1_2 a1_3 a1_4 a1_5 a1_6 a1_7 a1_8).trans ((br (fun b => some (AV.bool (bif b then false else (bif !(v115_0 a1_0) then false else (bif decide (a1_1 < 0) then false else (bif decide (a1_1 > (a1_0.length : Int)) then false else (bif decide (a1_7 < 0) then false else (bif decide (a1_7 > 100000) then false else (bif decide (a1_8 < 0) then false else (bif decide (a1_8 > 100000) then false else (bif !a1_2 then (bif decide (a1_3 = 0) then (bif decide (a1_4 = 0) then (bif decide (a1_5 = 0) then decide (a1_6 = 0) else false) else false) else false) else (bif decide (a1_1 = (a1_0.length : Int)) then false else (bif (v77_0 a0_0 a0_1 a0_2 (fI (a1_0.getD a1_1.toNat AV.undef) 0)) then false else (bif !decide (a1_3 = (v116_0 a0_0 a0_1 a0_2 (fI (a1_0.getD a1_1.toNat AV.undef) 0))) then false else (bif !decide (a1_4 = (v116_1 a0_0 a0_1 a0_2 (fI (a1_0.getD a1_1.toNat AV.undef) 0))) then false else (bif decide (a1_5 < (v116_0 a0_0 a0_1 a0_2 (fI (a1_0.getD a1_1.toNat AV.undef) 0))) then false else (bif decide (a1_6 ≥ (v116_1 a0_0 a0_1 a0_2 (fI (a1_0.getD a1_1.toNat AV.undef) 0))) then false else (bif decide (IntKind.i64.wrap (a1_5 - 1) > a1_6) then false else (ro (runW (R71_0 (fI (a1_0.getD a1_1.toNat AV.undef) 0) (v116_1 a0_0 a0_1 a0_2 (fI (a1_0.getD a1_1.toNat AV.undef) 0)) a0_0 a0_1 a0_2 a1_0 a1_1 a1_2 a1_3 a1_4 a1_5 a1_6 a1_7 a1_8) (((v116_1 a0_0 a0_1 a0_2 (fI (a1_0.getD a1_1.toNat AV.undef) 0)) - (v116_0 a0_0 a0_1 a0_2 (fI (a1_0.getD a1_1.toNat AV.undef) 0))).toNat + 1) (v116_0 a0_0 a0_1 a0_2 (fI (a1_0.getD a1_1.toNat AV.undef) 0))) false (sumE (fun _ => true) (fun _ => false))))))))))))))))))))) (fun _ => rfl) (brL (br (fun b => some (AV.bool (bif b then false else (bif decide (a1_1 < 0) then false else (bif decide (a1_1 > (a1_0.length : Int)) then false else (bif decide (a1_7 < 0) then false else (bif decide (a1_7 > 100000) then false else (bif decide (a1_8 < 0) then false else (bif decide (a1_8 > 100000) then false else (bif !a1_2 then (bif decide (a1_3 = 0) then (bif decide (a1_4 = 0) then (bif decide (a1_5 = 0) then decide (a1_6 = 0) else false) else false) else false) else (bif decide (a1_1 = (a1_0.length : Int)) then false else (bif (v77_0 a0_0 a0_1 a0_2 (fI (a1_0.getD a1_1.toNat AV.undef) 0)) then false else (bif !decide (a1_3 = (v116_0 a0_0 a0_1 a0_2 (fI (a1_0.getD a1_1.toNat AV.undef) 0))) then false else (bif !decide (a1_4 = (v116_1 a0_0 a0_1 a0_2 (fI (a1_0.getD a1_1.toNat AV.undef) 0))) then false else (bif decide (a1_5 < (v116_0 a0_0 a0_1 a0_2 (fI (a1_0.getD a1_1.toNat AV.undef) 0))) then false else (bif decide (a1_6 ≥ (v116_1 a0_0 a0_1 a0_2 (fI (a1_0.getD a1_1.toNat AV.undef) 0))) then false else (bif decide (IntKind.i64.wrap (a1_5 - 1) > a1_6) then false else (ro (runW (R71_0 (fI (a1_0.getD a1_1.toNat AV.undef) 0) (v116_1 a0_0 a0_1 a0_2 (fI (a1_0.getD a1_1.toNat AV.undef) 0)) a0_0 a0_1 a0_2 a1_0 a1_1 a1_2 a1_3 a1_4 a1_5 a1_6 a1_7 a1_8) (((v116_1 a0_0 a0_1 a0_2 (fI (a1_0.getD a1_1.toNat AV.undef) 0)) - (v116_0 a0_0 a0_1 a0_2 (fI (a1_0.getD a1_1.toNat AV.undef) 0))).toNat + 1) (v116_0 a0_0 a0_1 a0_2 (fI (a1_0.getD a1_1.toNat AV.undef) 0))) false (sumE (fun _ => true) (fun _ => false)))))))))))))))))))) (fun _ => rfl) (br (fun b => some (AV.bool (bif b then false else (bif decide (a1_1 > (a1_0.length : Int)) then false else (bif decide (a1_7 < 0) then false else (bif decide (a1_7 > 100000) then false else (bif decide (a1_8 < 0) then false else (bif decide (a1_8 > 100000) then false else (bif !a1_2 then (bif decide (a1_3 = 0) then (bif decide (a1_4 = 0) then (bif decide (a1_5 = 0) then decide (a1_6 = 0) else false) else false) else false) else (bif decide (a1_1 = (a1_0.length : Int)) then false else (bif (v77_0 a0_0 a0_1 a0_2 (fI (a1_0.getD a1_1.toNat AV.undef) 0)) then false else (bif !decide (a1_3 = (v116_0 a0_0 a0_1 a0_2 (fI (a1_0.getD a1_1.toNat AV.undef) 0))) then false else (bif !decide (a1_4 = (v116_1 a0_0 a0_1 a0_2 (fI (a1_0.getD a1_1.toNat AV.undef) 0))) then false else (bif decide (a1_5 < (v116_0 a0_0 a0_1 a0_2 (fI (a1_0.getD a1_1.toNat AV.undef) 0))) then false else (bif decide (a1_6 ≥ (v116_1 a0_0 a0_1 a0_2 (fI (a1_0.getD a1_1.toNat AV.undef) 0))) then false else (bif decide (IntKind.i64.wrap (a1_5 - 1) > a1_6) then false else (ro (runW (R71_0 (fI (a1_0.getD a1_1.toNat AV.undef) 0) (v116_1 a0_0 a0_1 a0_2 (fI (a1_0.getD a1_1.toNat AV.undef) 0)) a0_0 a0_1 a0_2 a1_0 a1_1 a1_2 a1_3 a1_4 a1_5 a1_6 a1_7 a1_8) (((v116_1 a0_0 a0_1 a0_2 (fI (a1_0.getD a1_1.toNat AV.undef) 0)) - (v116_0 a0_0 a0_1 a0_2 (fI (a1_0.getD a1_1.toNat AV.undef) 0))).toNat + 1) (v116_0 a0_0 a0_1 a0_2 (fI (a1_0.getD a1_1.toNat AV.undef) 0))) false (sumE (fun _ => true) (fun _ => false))))))))))))))))))) (fun _ => rfl) (br (fun b => some (AV.bool (bif b then false else (bif decide (a1_7 < 0) then false else (bif decide (a1_7 > 100000) then false else (bif decide (a1_8 < 0) then false else (bif decide (a1_8 > 100000) then false else (bif !a1_2 then (bif decide (a1_3 = 0) then (bif decide (a1_4 = 0) then (bif decide (a1_5 = 0) then decide (a1_6 = 0) else false) else false) else false) else (bif decide (a1_1 = (a1_0.length : Int)) then false else (bif (v77_0 a0_0 a0_1 a0_2 (fI (a1_0.getD a1_1.toNat AV.undef) 0)) then false else (bif !decide (a1_3 = (v116_0 a0_0 a0_1 a0_2 (fI (a1_0.getD a1_1.toNat AV.undef) 0))) then false else (bif !decide (a1_4 = (v116_1 a0_0 a0_1 a0_2 (fI (a1_0.getD a1_1.toNat AV.undef) 0))) then false else (bif decide (a1_5 < (v116_0 a0_0 a0_1 a0_2 (fI (a1_0.getD a1_1.toNat AV.undef) 0))) then false else (bif decide (a1_6 ≥ (v116_1 a0_0 a0_1 a0_2 (fI (a1_0.getD a1_1.toNat AV.undef) 0))) then false else (bif decide (IntKind.i64.wrap (a1_5 - 1) > a1_6) then false else (ro (runW (R71_0 (fI (a1_0.getD a1_1.toNat AV.undef) 0) (v116_1 a0_0 a0_1 a0_2 (fI (a1_0.getD a1_1.toNat AV.undef) 0)) a0_0 a0_1 a0_2 a1_0 a1_1 a1_2 a1_3 a1_4 a1_5 a1_6 a1_7 a1_8) (((v116_1 a0_0 a0_1 a0_2 (fI (a1_0.getD a1_1.toNat AV.undef) 0)) - (v116_0 a0_0 a0_1 a0_2 (fI (a1_0.getD a1_1.toNat AV.undef) 0))).toNat + 1) (v116_0 a0_0 a0_1 a0_2 (fI (a1_0.getD a1_1.toNat AV.undef) 0))) false (sumE (fun _ => true) (fun _ => false)))))))))))))))))) (fun _ => rfl) (br (fun b => some (AV.bool (bif b then false else (bif decide (a1_7 > 100000) then false else (bif decide (a1_8 < 0) then false else (bif decide (a1_8 > 100000) then false else (bif !a1_2 then (bif decide (a1_3 = 0) then (bif decide (a1_4 = 0) then (bif decide (a1_5 = 0) then decide (a1_6 = 0) else false) else false) else false) else (bif decide (a1_1 = (a1_0.length : Int)) then false else (bif (v77_0 a0_0 a0_1 a0_2 (fI (a1_0.getD a1_1.toNat AV.undef) 0)) then false else (bif !decide (a1_3 = (v116_0 a0_0 a0_1 a0_2 (fI (a1_0.getD a1_1.toNat AV.undef) 0))) then false else (bif !decide (a1_4 = (v116_1 a0_0 a0_1 a0_2 (fI (a1_0.getD a1_1.toNat AV.undef) 0))) then false else (bif decide (a1_5 < (v116_0 a0_0 a0_1 a0_2 (fI (a1_0.getD a1_1.toNat AV.undef) 0))) then false else (bif decide (a1_6 ≥ (v116_1 a0_0 a0_1 a0_2 (fI (a1_0.getD a1_1.toNat AV.undef) 0))) then false else (bif decide (IntKind.i64.wrap (a1_5 - 1) > a1_6) then false else (ro (runW (R71_0 (fI (a1_0.getD a1_1.toNat AV.undef) 0) (v116_1 a0_0 a0_1 a0_2 (fI (a1_0.getD a1_1.toNat AV.undef) 0)) a0_0 a0_1 a0_2 a1_0 a1_1 a1_2 a1_3 a1_4 a1_5 a1_6 a1_7 a1_8) (((v116_1 a0_0 a0_1 a0_2 (fI (a1_0.getD a1_1.toNat AV.undef) 0)) - (v116_0 a0_0 a0_1 a0_2 (fI (a1_0.getD a1_1.toNat AV.undef) 0))).toNat + 1) (v116_0 a0_0 a0_1 a0_2 (fI (a1_0.getD a1_1.toNat AV.undef) 0))) false (sumE (fun _ => true) (fun _ => false))))))))))))))))) (fun _ => rfl) (br (fun b => some (AV.bool (bif b then false else (bif decide (a1_8 < 0) then false else (bif decide (a1_8 > 100000) then false else (bif !a1_2 then (bif decide (a1_3 = 0) then (bif decide (a1_4 = 0) then (bif decide (a1_5 = 0) then decide (a1_6 = 0) else false) else false) else false) else (bif decide (a1_1 = (a1_0.length : Int)) then false else (bif (v77_0 a0_0 a0_1 a0_2 (fI (a1_0.getD a1_1.toNat AV.undef) 0)) then false else (bif !decide (a1_3 = (v116_0 a0_0 a0_1 a0_2 (fI (a1_0.getD a1_1.toNat AV.undef) 0))) then false else (bif !decide (a1_4 = (v116_1 a0_0 a0_1 a0_2 (fI (a1_0.getD a1_1.toNat AV.undef) 0))) then false else (bif decide (a1_5 < (v116_0 a0_0 a0_1 a0_2 (fI (a1_0.getD a1_1.toNat AV.undef) 0))) then false else (bif decide (a1_6 ≥ (v116_1 a0_0 a0_1 a0_2 (fI (a1_0.getD a1_1.toNat AV.undef) 0))) then false else (bif decide (IntKind.i64.wrap (a1_5 - 1) > a1_6) then false else (ro (runW (R71_0 (fI (a1_0.getD a1_1.toNat AV.undef) 0) (v116_1 a0_0 a0_1 a0_2 (fI (a1_0.getD a1_1.toNat AV.undef) 0)) a0_0 a0_1 a0_2 a1_0 a1_1 a1_2 a1_3 a1_4 a1_5 a1_6 a1_7 a1_8) (((v116_1 a0_0 a0_1 a0_2 (fI (a1_0.getD a1_1.toNat AV.undef) 0)) - (v116_0 a0_0 a0_1 a0_2 (fI (a1_0.getD a1_1.toNat AV.undef) 0))).toNat + 1) (v116_0 a0_0 a0_1 a0_2 (fI (a1_0.getD a1_1.toNat AV.undef) 0))) false (sumE (fun _ => true) (fun _ => false)))))))))))))))) (fun _ => rfl) (br (fun b => some (AV.bool (bif b then false else (bif decide (a1_8 > 100000) then false else (bif !a1_2 then (bif decide (a1_3 = 0) then (bif decide (a1_4 = 0) then (bif decide (a1_5 = 0) then decide (a1_6 = 0) else false) else false) else false) else (bif decide (a1_1 = (a1_0.length : Int)) then false else (bif (v77_0 a0_0 a0_1 a0_2 (fI (a1_0.getD a1_1.toNat AV.undef) 0)) then false else (bif !decide (a1_3 = (v116_0 a0_0 a0_1 a0_2 (fI (a1_0.getD a1_1.toNat AV.undef) 0))) then false else (bif !decide (a1_4 = (v116_1 a0_0 a0_1 a0_2 (fI (a1_0.getD a1_1.toNat AV.undef) 0))) then false else (bif decide (a1_5 < (v116_0 a0_0 a0_1 a0_2 (fI (a1_0.getD a1_1.toNat AV.undef) 0))) then false else (bif decide (a1_6 ≥ (v116_1 a0_0 a0_1 a0_2 (fI (a1_0.getD a1_1.toNat AV.undef) 0))) then false else (bif decide (IntKind.i64.wrap (a1_5 - 1) > a1_6) then false else (ro (runW (R71_0 (fI (a1_0.getD a1_1.toNat AV.undef) 0) (v116_1 a0_0 a0_1 a0_2 (fI (a1_0.getD a1_1.toNat AV.undef) 0)) a0_0 a0_1 a0_2 a1_0 a1_1 a1_2 a1_3 a1_4 a1_5 a1_6 a1_7 a1_8) (((v116_1 a0_0 a0_1 a0_2 (fI (a1_0.getD a1_1.toNat AV.undef) 0)) - (v116_0 a0_0 a0_1 a0_2 (fI (a1_0.getD a1_1.toNat AV.undef) 0))).toNat + 1) (v116_0 a0_0 a0_1 a0_2 (fI (a1_0.getD a1_1.toNat AV.undef) 0))) false (sumE (fun _ => true) (fun _ => false))))))))))))))) (fun _ => rfl) (br (fun b => some (AV.bool (bif b then false else (bif !a1_2 then (bif decide (a1_3 = 0) then (bif decide (a1_4 = 0) then (bif decide (a1_5 = 0) then decide (a1_6 = 0) else false) else false) else false) else (bif decide (a1_1 = (a1_0.length : Int)) then false else (bif (v77_0 a0_0 a0_1 a0_2 (fI (a1_0.getD a1_1.toNat AV.undef) 0)) then false else (bif !decide (a1_3 = (v116_0 a0_0 a0_1 a0_2 (fI (a1_0.getD a1_1.toNat AV.undef) 0))) then false else (bif !decide (a1_4 = (v116_1 a0_0 a0_1 a0_2 (fI (a1_0.getD a1_1.toNat AV.undef) 0))) then false else (bif decide (a1_5 < (v116_0 a0_0 a0_1 a0_2 (fI (a1_0.getD a1_1.toNat AV.undef) 0))) then false else (bif decide (a1_6 ≥ (v116_1 a0_0 a0_1 a0_2 (fI (a1_0.getD a1_1.toNat AV.undef) 0))) then false else (bif decide (IntKind.i64.wrap (a1_5 - 1) > a1_6) then false else (ro (runW (R71_0 (fI (a1_0.getD a1_1.toNat AV.undef) 0) (v116_1 a0_0 a0_1 a0_2 (fI (a1_0.getD a1_1.toNat AV.undef) 0)) a0_0 a0_1 a0_2 a1_0 a1_1 a1_2 a1_3 a1_4 a1_5 a1_6 a1_7 a1_8) (((v116_1 a0_0 a0_1 a0_2 (fI (a1_0.getD a1_1.toNat AV.undef) 0)) - (v116_0 a0_0 a0_1 a0_2 (fI (a1_0.getD a1_1.toNat AV.undef) 0))).toNat + 1) (v116_0 a0_0 a0_1 a0_2 (fI (a1_0.getD a1_1.toNat AV.undef) 0))) false (sumE (fun _ => true) (fun _ => false)))))))))))))) (fun _ => rfl) (br (fun b => some (AV.bool (bif b then (bif decide (a1_3 = 0) then (bif decide (a1_4 = 0) then (bif decide (a1_5 = 0) then decide (a1_6 = 0) else false) else false) else false) else (bif decide (a1_1 = (a1_0.length : Int)) then false else (bif (v77_0 a0_0 a0_1 a0_2 (fI (a1_0.getD a1_1.toNat AV.undef) 0)) then false else (bif !decide (a1_3 = (v116_0 a0_0 a0_1 a0_2 (fI (a1_0.getD a1_1.toNat AV.undef) 0))) then false else (bif !decide (a1_4 = (v116_1 a0_0 a0_1 a0_2 (fI (a1_0.getD a1_1.toNat AV.undef) 0))) then false else (bif decide (a1_5 < (v116_0 a0_0 a0_1 a0_2 (fI (a1_0.getD a1_1.toNat AV.undef) 0))) then false else (bif decide (a1_6 ≥ (v116_1 a0_0 a0_1 a0_2 (fI (a1_0.getD a1_1.toNat AV.undef) 0))) then false else (bif decide (IntKind.i64.wrap (a1_5 - 1) > a1_6) then false else (ro (runW (R71_0 (fI (a1_0.getD a1_1.toNat AV.undef) 0) (v116_1 a0_0 a0_1 a0_2 (fI (a1_0.getD a1_1.toNat AV.undef) 0)) a0_0 a0_1 a0_2 a1_0 a1_1 a1_2 a1_3 a1_4 a1_5 a1_6 a1_7 a1_8) (((v116_1 a0_0 a0_1 a0_2 (fI (a1_0.getD a1_1.toNat AV.undef) 0)) - (v116_0 a0_0 a0_1 a0_2 (fI (a1_0.getD a1_1.toNat AV.undef) 0))).toNat + 1) (v116_0 a0_0 a0_1 a0_2 (fI (a1_0.getD a1_1.toNat AV.undef) 0))) false (sumE (fun _ => true) (fun _ => false))))))))))))) (brT (fun b => some (AV.bool (bif b then (bif decide (a1_4 = 0) then (bif decide (a1_5 = 0) then decide (a1_6 = 0) else false) else false) else false))) (brT (fun b => some (AV.bool (bif b then (bif decide (a1_5 = 0) then decide (a1_6 = 0) else false) else false))) (brT (fun b => some (AV.bool (bif b then decide (a1_6 = 0) else false))) (fun _ => rfl) (fun _ => rfl)) (fun _ => rfl)) (fun _ => rfl)) (br (fun b => some (AV.bool (bif b then false else (bif (v77_0 a0_0 a0_1 a0_2 (fI (a1_0.getD a1_1.toNat AV.undef) 0)) then false else (bif !decide (a1_3 = (v116_0 a0_0 a0_1 a0_2 (fI (a1_0.getD a1_1.toNat AV.undef) 0))) then false else (bif !decide (a1_4 = (v116_1 a0_0 a0_1 a0_2 (fI (a1_0.getD a1_1.toNat AV.undef) 0))) then false else (bif decide (a1_5 < (v116_0 a0_0 a0_1 a0_2 (fI (a1_0.getD a1_1.toNat AV.undef) 0))) then false else (bif decide (a1_6 ≥ (v116_1 a0_0 a0_1 a0_2 (fI (a1_0.getD a1_1.toNat AV.undef) 0))) then false else (bif decide (IntKind.i64.wrap (a1_5 - 1) > a1_6) then false else (ro (runW (R71_0 (fI (a1_0.getD a1_1.toNat AV.undef) 0) (v116_1 a0_0 a0_1 a0_2 (fI (a1_0.getD a1_1.toNat AV.undef) 0)) a0_0 a0_1 a0_2 a1_0 a1_1 a1_2 a1_3 a1_4 a1_5 a1_6 a1_7 a1_8) (((v116_1 a0_0 a0_1 a0_2 (fI (a1_0.getD a1_1.toNat AV.undef) 0)) - (v116_0 a0_0 a0_1 a0_2 (fI (a1_0.getD a1_1.toNat AV.undef) 0))).toNat + 1) (v116_0 a0_0 a0_1 a0_2 (fI (a1_0.getD a1_1.toNat AV.undef) 0))) false (sumE (fun _ => true) (fun _ => false)))))))))))) (fun _ => rfl) (brL (brL (br (fun b => some (AV.bool (bif b then false else (bif !decide (a1_3 = (v116_0 a0_0 a0_1 a0_2 (fI (a1_0.getD a1_1.toNat AV.undef) 0))) then false else (bif !decide (a1_4 = (v116_1 a0_0 a0_1 a0_2 (fI (a1_0.getD a1_1.toNat AV.undef) 0))) then false else (bif decide (a1_5 < (v116_0 a0_0 a0_1 a0_2 (fI (a1_0.getD a1_1.toNat AV.undef) 0))) then false else (bif decide (a1_6 ≥ (v116_1 a0_0 a0_1 a0_2 (fI (a1_0.getD a1_1.toNat AV.undef) 0))) then false else (bif decide (IntKind.i64.wrap (a1_5 - 1) > a1_6) then false else (ro (runW (R71_0 (fI (a1_0.getD a1_1.toNat AV.undef) 0) (v116_1 a0_0 a0_1 a0_2 (fI (a1_0.getD a1_1.toNat AV.undef) 0)) a0_0 a0_1 a0_2 a1_0 a1_1 a1_2 a1_3 a1_4 a1_5 a1_6 a1_7 a1_8) (((v116_1 a0_0 a0_1 a0_2 (fI (a1_0.getD a1_1.toNat AV.undef) 0)) - (v116_0 a0_0 a0_1 a0_2 (fI (a1_0.getD a1_1.toNat AV.undef) 0))).toNat + 1) (v116_0 a0_0 a0_1 a0_2 (fI (a1_0.getD a1_1.toNat AV.undef) 0))) false (sumE (fun _ => true) (fun _ => false))))))))))) (fun _ => rfl) (brL (brL (br (fun b => some (AV.bool (bif b then false else (bif !decide (a1_4 = (v116_1 a0_0 a0_1 a0_2 (fI (a1_0.getD a1_1.toNat AV.undef) 0))) then false else (bif decide (a1_5 < (v116_0 a0_0 a0_1 a0_2 (fI (a1_0.getD a1_1.toNat AV.undef) 0))) then false else (bif decide (a1_6 ≥ (v116_1 a0_0 a0_1 a0_2 (fI (a1_0.getD a1_1.toNat AV.undef) 0))) then false else (bif decide (IntKind.i64.wrap (a1_5 - 1) > a1_6) then false else (ro (runW (R71_0 (fI (a1_0.getD a1_1.toNat AV.undef) 0) (v116_1 a0_0 a0_1 a0_2 (fI (a1_0.getD a1_1.toNat AV.undef) 0)) a0_0 a0_1 a0_2 a1_0 a1_1 a1_2 a1_3 a1_4 a1_5 a1_6 a1_7 a1_8) (((v116_1 a0_0 a0_1 a0_2 (fI (a1_0.getD a1_1.toNat AV.undef) 0)) - (v116_0 a0_0 a0_1 a0_2 (fI (a1_0.getD a1_1.toNat AV.undef) 0))).toNat + 1) (v116_0 a0_0 a0_1 a0_2 (fI (a1_0.getD a1_1.toNat AV.undef) 0))) false (sumE (fun _ => true) (fun _ => false)))))))))) (fun _ => rfl) (br (fun b => some (AV.bool (bif b then false else (bif decide (a1_5 < (v116_0 a0_0 a0_1 a0_2 (fI (a1_0.getD a1_1.toNat AV.undef) 0))) then false else (bif decide (a1_6 ≥ (v116_1 a0_0 a0_1 a0_2 (fI (a1_0.getD a1_1.toNat AV.undef) 0))) then false else (bif decide (IntKind.i64.wrap (a1_5 - 1) > a1_6) then false else (ro (runW (R71_0 (fI (a1_0.getD a1_1.toNat AV.undef) 0) (v116_1 a0_0 a0_1 a0_2 (fI (a1_0.getD a1_1.toNat AV.undef) 0)) a0_0 a0_1 a0_2 a1_0 a1_1 a1_2 a1_3 a1_4 a1_5 a1_6 a1_7 a1_8) (((v116_1 a0_0 a0_1 a0_2 (fI (a1_0.getD a1_1.toNat AV.undef) 0)) - (v116_0 a0_0 a0_1 a0_2 (fI (a1_0.getD a1_1.toNat AV.undef) 0))).toNat + 1) (v116_0 a0_0 a0_1 a0_2 (fI (a1_0.getD a1_1.toNat AV.undef) 0))) false (sumE (fun _ => true) (fun _ => false))))))))) (fun _ => rfl) (br (fun b => some (AV.bool (bif b then false else (bif decide (a1_6 ≥ (v116_1 a0_0 a0_1 a0_2 (fI (a1_0.getD a1_1.toNat AV.undef) 0))) then false else (bif decide (IntKind.i64.wrap (a1_5 - 1) > a1_6) then false else (ro (runW (R71_0 (fI (a1_0.getD a1_1.toNat AV.undef) 0) (v116_1 a0_0 a0_1 a0_2 (fI (a1_0.getD a1_1.toNat AV.undef) 0)) a0_0 a0_1 a0_2 a1_0 a1_1 a1_2 a1_3 a1_4 a1_5 a1_6 a1_7 a1_8) (((v116_1 a0_0 a0_1 a0_2 (fI (a1_0.getD a1_1.toNat AV.undef) 0)) - (v116_0 a0_0 a0_1 a0_2 (fI (a1_0.getD a1_1.toNat AV.undef) 0))).toNat + 1) (v116_0 a0_0 a0_1 a0_2 (fI (a1_0.getD a1_1.toNat AV.undef) 0))) false (sumE (fun _ => true) (fun _ => false)))))))) (fun _ => rfl) (br (fun b => some (AV.bool (bif b then false else (bif decide (IntKind.i64.wrap (a1_5 - 1) > a1_6) then false else (ro (runW (R71_0 (fI (a1_0.getD a1_1.toNat AV.undef) 0) (v116_1 a0_0 a0_1 a0_2 (fI (a1_0.getD a1_1.toNat AV.undef) 0)) a0_0 a0_1 a0_2 a1_0 a1_1 a1_2 a1_3 a1_4 a1_5 a1_6 a1_7 a1_8) (((v116_1 a0_0 a0_1 a0_2 (fI (a1_0.getD a1_1.toNat AV.undef) 0)) - (v116_0 a0_0 a0_1 a0_2 (fI (a1_0.getD a1_1.toNat AV.undef) 0))).toNat + 1) (v116_0 a0_0 a0_1 a0_2 (fI (a1_0.getD a1_1.toNat AV.undef) 0))) false (sumE (fun _ => true) (fun _ => false))))))) (fun _ => rfl) (br (fun b => some (AV.bool (bif b then false else (ro (runW (R71_0 (fI (a1_0.getD a1_1.toNat AV.undef) 0) (v116_1 a0_0 a0_1 a0_2 (fI (a1_0.getD a1_1.toNat AV.undef) 0)) a0_0 a0_1 a0_2 a1_0 a1_1 a1_2 a1_3 a1_4 a1_5 a1_6 a1_7 a1_8) (((v116_1 a0_0 a0_1 a0_2 (fI (a1_0.getD a1_1.toNat AV.undef) 0)) - (v116_0 a0_0 a0_1 a0_2 (fI (a1_0.getD a1_1.toNat AV.undef) 0))).toNat + 1) (v116_0 a0_0 a0_1 a0_2 (fI (a1_0.getD a1_1.toNat AV.undef) 0))) false (sumE (fun _ => true) (fun _ => false)))))) (fun _ => rfl) (brO (fun o : Option (Unit ⊕ Unit) => some (AV.bool (ro o false (sumE (fun _ => true) (fun _ => false))))) (brS (fun o : Unit ⊕ Unit => some (AV.bool ((sumE (fun _ => true) (fun _ => false)) o))) (fun _ => (fun _ => rfl)) (fun _ => (fun _ => rfl))))))))))))))))))))))))) h)
def m71 : TModel
  | [.agg [.sl g0 a0_0, .sl g1 a0_1, .sl g2 a0_2], .agg [.sl g3 a1_0, .int .i64 a1_1, .bool a1_2, .int .i64 a1_3, .int .i64 a1_4, .int .i64 a1_5, .int .i64 a1_6, .int .i64 a1_7, .int .i64 a1_8]] => bif ctsEq g0 ([.int .i64]) && ctsEq g1 ([.int .i64]) && ctsEq g2 ([.int .i64, .int .i64]) && ctsEq g3 ([.int .i64]) then some (q71 a0_0 a0_1 a0_2 a1_0 a1_1 a1_2 a1_3 a1_4 a1_5 a1_6 a1_7 a1_8, AV.bool (v71_0 a0_0 a0_1 a0_2 a1_0 a1_1 a1_2 a1_3 a1_4 a1_5 a1_6 a1_7 a1_8)) else none
  | _ => none
theorem k71 : Known Try.prog 71 := ⟨Try.f71, Try.func71, by kernel_rfl, by kernel_rfl⟩
theorem meets71 : Meets Try.prog 71 m71 := by
  refine meet (f := Try.f71) (l := [(0, sub [1, 1, 1, 1, 1, 1, 1, 0, 1, 0, 0] (body Try.f71))]) (hs := [(71, 0, [2, 3, 5, 7, 8]), (71, 999, [4]), (71, 1000, []), (71, 1001, [2, 3, 5, 7, 8])]) (ts := [(77, m77), (115, m115), (116, m116)]) (ws := []) (is := []) (ls := [(71, 0, l71_0)]) (lvl := 0) mixed k71 Try.func71 (by kernel_rfl) (loops_cons ok71_0 noLoop) (allT_cons meets77 (allT_cons meets115 (allT_cons meets116 allT_nil))) allM_nil noI fun w xs us r hl hv h => ?_
  unfold m71 at h
  split at h
  · rename_i g0 a0_0 g1 a0_1 g2 a0_2 g3 a1_0 a1_1 a1_2 a1_3 a1_4 a1_5 a1_6 a1_7 a1_8
    obtain ⟨hg, h⟩ := bif_pair h
    simp only [Bool.and_eq_true] at hg
    obtain ⟨⟨⟨q0, q1⟩, q2⟩, q3⟩ := hg
    obtain rfl := ctsEq_eq _ _ q0
    obtain rfl := ctsEq_eq _ _ q1
    obtain rfl := ctsEq_eq _ _ q2
    obtain rfl := ctsEq_eq _ _ q3
    obtain ⟨h1, rfl⟩ := pair_inj h
    exact r71 a0_0 a0_1 a0_2 a1_0 a1_1 a1_2 a1_3 a1_4 a1_5 a1_6 a1_7 a1_8 h1
  · cases h

/-! ### 72 loop.example/g01984/impl.overlap -/
noncomputable def c72 : Cfg := cfg Try.prog [(72, 999, [8])] [] [] [] []
def q72 (a0 : Int) (a1 : Int) (a2 : Int) (a3 : Int) : Bool := true
def v72_0 (a0 : Int) (a1 : Int) (a2 : Int) (a3 : Int) : Bool := (bif decide ((if a2 > a0 then a2 else a0) < (if a3 < a1 then a3 else a1)) then true else (bif decide (a0 = a2) then decide (a1 = a3) else false))
theorem e72 (a0 : Int) (a1 : Int) (a2 : Int) (a3 : Int) : funA c72 0 72 [AV.int .i64 a0, AV.int .i64 a1, AV.int .i64 a2, AV.int .i64 a3] = (bif decide ((if a2 > a0 then a2 else a0) < (if a3 < a1 then a3 else a1)) then some (AV.bool true)
  else (bif decide (a0 = a2) then some (AV.bool (decide (a1 = a3)))
  else some (AV.bool false))) := by kernel_rfl
theorem r72 (a0 : Int) (a1 : Int) (a2 : Int) (a3 : Int) : funA c72 0 72 [AV.int .i64 a0, AV.int .i64 a1, AV.int .i64 a2, AV.int .i64 a3] = some (AV.bool (v72_0 a0 a1 a2 a3)) := (e72 a0 a1 a2 a3).trans (of_tt (brT (fun b => some (AV.bool (bif b then true else (bif decide (a0 = a2) then decide (a1 = a3) else false)))) (fun _ => rfl) (brT (fun b => some (AV.bool (bif b then decide (a1 = a3) else false))) (fun _ => rfl) (fun _ => rfl))))
def m72 : TModel
  | [.int .i64 a0, .int .i64 a1, .int .i64 a2, .int .i64 a3] => some (true, AV.bool (v72_0 a0 a1 a2 a3))
  | _ => none
theorem k72 : Known Try.prog 72 := ⟨Try.f72, Try.func72, by kernel_rfl, by kernel_rfl⟩
theorem meets72 : Meets Try.prog 72 m72 := by
  refine meet (f := Try.f72) (l := []) (hs := [(72, 999, [8])]) (ts := []) (ws := []) (is := []) (ls := []) (lvl := 0) mixed k72 Try.func72 (by kernel_rfl) noLoop allT_nil allM_nil noI fun w xs us r hl hv h => ?_
  unfold m72 at h
  split at h
  · rename_i a0 a1 a2 a3
    obtain ⟨h1, rfl⟩ := pair_inj h
    exact r72 a0 a1 a2 a3
  · cases h

/-! ### 20 loop.example/g01984/impl.IsBoard -/
def F20_2 (t34 : List AV) (t35 : Int) (t36 : Int) (t49 : List AV) (t50 : Int) (h0_0 : List AV) (h0_1 : List AV) (h0_2 : List AV) (h0_3 : List AV) (h0_4 : Int) (h1_0 : List AV) (h1_1 : Int) (h1_2 : Bool) (h1_3 : Int) (h1_4 : Int) (h1_5 : Int) (h1_6 : Int) (h1_7 : Int) (h1_8 : Int) (t51 : Int) : Out (Int) (Unit ⊕ ((List AV) × Int × Bool × Int × Int × Int × Int × Int × Int)) := (bif decide (t51 < t50) then (bif (decide (0 ≤ t51) && decide (t51 < (t49.length : Int))) then (bif h1_2 then (bif fB (t49.getD t51.toNat AV.undef) 2 then (bif (v72_0 h1_3 h1_4 (fI (t49.getD t51.toNat AV.undef) 3) (fI (t49.getD t51.toNat AV.undef) 4)) then .stop (.inr (fL (t49.getD t51.toNat AV.undef) 0, fI (t49.getD t51.toNat AV.undef) 1, fB (t49.getD t51.toNat AV.undef) 2, fI (t49.getD t51.toNat AV.undef) 3, fI (t49.getD t51.toNat AV.undef) 4, fI (t49.getD t51.toNat AV.undef) 5, fI (t49.getD t51.toNat AV.undef) 6, fI (t49.getD t51.toNat AV.undef) 7, fI (t49.getD t51.toNat AV.undef) 8))
  else .next (IntKind.i64.wrap (t51 + 1)))
  else .next (IntKind.i64.wrap (t51 + 1)))
  else .next (IntKind.i64.wrap (t51 + 1)))
  else .fail)
  else .stop (.inl ()))
def R20_2 (t34 : List AV) (t35 : Int) (t36 : Int) (t49 : List AV) (t50 : Int) (h0_0 : List AV) (h0_1 : List AV) (h0_2 : List AV) (h0_3 : List AV) (h0_4 : Int) (h1_0 : List AV) (h1_1 : Int) (h1_2 : Bool) (h1_3 : Int) (h1_4 : Int) (h1_5 : Int) (h1_6 : Int) (h1_7 : Int) (h1_8 : Int) : (Int) → Out (Int) (Unit ⊕ ((List AV) × Int × Bool × Int × Int × Int × Int × Int × Int)) := fun s : Int => F20_2 t34 t35 t36 t49 t50 h0_0 h0_1 h0_2 h0_3 h0_4 h1_0 h1_1 h1_2 h1_3 h1_4 h1_5 h1_6 h1_7 h1_8 s
def l20_2 : LModel := fun _ _ st k => match st with
  | ⟨[(1, .ptr g0 g1 g2), (4, .ptr g3 g4 g5), (34, .sl g6 t34), (35, .int .i64 t35), (36, .int .i64 t36), (49, .sl g7 t49), (50, .int .i64 t50), (51, .int .i64 t51)], [(g8, ⟨true, [], [.agg [.sl g9 h0_0, .sl g10 h0_1, .sl g11 h0_2, .sl g12 h0_3, .int .i64 h0_4]]⟩), (g13, ⟨true, [], [.agg [.sl g14 h1_0, .int .i64 h1_1, .bool h1_2, .int .i64 h1_3, .int .i64 h1_4, .int .i64 h1_5, .int .i64 h1_6, .int .i64 h1_7, .int .i64 h1_8]]⟩)]⟩ => bif nmEq g0 ([0, 1]) && Nat.beq g1 0 && Nat.beq g2 0 && nmEq g3 ([0, 4]) && Nat.beq g4 0 && Nat.beq g5 0 && ctsEq g6 ([.sl [.int .i64], .int .i64, .bool, .int .i64, .int .i64, .int .i64, .int .i64, .int .i64, .int .i64]) && ctsEq g7 ([.sl [.int .i64], .int .i64, .bool, .int .i64, .int .i64, .int .i64, .int .i64, .int .i64, .int .i64]) && nmEq g8 ([0, 1]) && ctsEq g9 ([.int .i64]) && ctsEq g10 ([.int .i64]) && ctsEq g11 ([.int .i64, .int .i64]) && ctsEq g12 ([.sl [.int .i64], .int .i64, .bool, .int .i64, .int .i64, .int .i64, .int .i64, .int .i64, .int .i64]) && nmEq g13 ([0, 4]) && ctsEq g14 ([.int .i64]) then ro (runW (R20_2 t34 t35 t36 t49 t50 h0_0 h0_1 h0_2 h0_3 h0_4 h1_0 h1_1 h1_2 h1_3 h1_4 h1_5 h1_6 h1_7 h1_8) ((t50 - t51).toNat + 1) t51) none (sumE (fun _ : Unit => k (.exit 2) ⟨[(1, AV.ptr [0, 1] 0 0), (34, AV.sl [.sl [.int .i64], .int .i64, .bool, .int .i64, .int .i64, .int .i64, .int .i64, .int .i64, .int .i64] t34), (35, AV.int .i64 t35), (36, AV.int .i64 t36)], [([0, 1], ⟨true, [], [AV.agg [AV.sl [.int .i64] h0_0, AV.sl [.int .i64] h0_1, AV.sl [.int .i64, .int .i64] h0_2, AV.sl [.sl [.int .i64], .int .i64, .bool, .int .i64, .int .i64, .int .i64, .int .i64, .int .i64, .int .i64] h0_3, AV.int .i64 h0_4]]⟩), ([0, 4], ⟨true, [], [AV.agg [AV.sl [.int .i64] h1_0, AV.int .i64 h1_1, AV.bool h1_2, AV.int .i64 h1_3, AV.int .i64 h1_4, AV.int .i64 h1_5, AV.int .i64 h1_6, AV.int .i64 h1_7, AV.int .i64 h1_8]]⟩)]⟩) (fun p : (List AV) × Int × Bool × Int × Int × Int × Int × Int × Int => k .ret ⟨[(2, AV.bool false)], [([0, 1], ⟨true, [], [AV.agg [AV.sl [.int .i64] h0_0, AV.sl [.int .i64] h0_1, AV.sl [.int .i64, .int .i64] h0_2, AV.sl [.sl [.int .i64], .int .i64, .bool, .int .i64, .int .i64, .int .i64, .int .i64, .int .i64, .int .i64] h0_3, AV.int .i64 h0_4]]⟩), ([0, 4], ⟨true, [], [AV.agg [AV.sl [.int .i64] h1_0, AV.int .i64 h1_1, AV.bool h1_2, AV.int .i64 h1_3, AV.int .i64 h1_4, AV.int .i64 h1_5, AV.int .i64 h1_6, AV.int .i64 h1_7, AV.int .i64 h1_8]]⟩), ([1, 6], ⟨true, [], [AV.agg [AV.sl [.int .i64] p.1, AV.int .i64 p.2.1, AV.bool p.2.2.1, AV.int .i64 p.2.2.2.1, AV.int .i64 p.2.2.2.2.1, AV.int .i64 p.2.2.2.2.2.1, AV.int .i64 p.2.2.2.2.2.2.1, AV.int .i64 p.2.2.2.2.2.2.2.1, AV.int .i64 p.2.2.2.2.2.2.2.2]]⟩)]⟩)) else none
  | _ => none
def F20_0 (t34 : List AV) (t35 : Int) (h0_0 : List AV) (h0_1 : List AV) (h0_2 : List AV) (h0_3 : List AV) (h0_4 : Int) (t36 : Int) : Out (Int) (Unit ⊕ ((List AV) × Int × Bool × Int × Int × Int × Int × Int × Int) ⊕ ((List AV) × Int × Bool × Int × Int × Int × Int × Int × Int × (List AV) × Int × Bool × Int × Int × Int × Int × Int × Int)) := (bif decide (t36 < t35) then (bif (decide (0 ≤ t36) && decide (t36 < (t34.length : Int))) then (bif q71 h0_0 h0_1 h0_2 (fL (t34.getD t36.toNat AV.undef) 0) (fI (t34.getD t36.toNat AV.undef) 1) (fB (t34.getD t36.toNat AV.undef) 2) (fI (t34.getD t36.toNat AV.undef) 3) (fI (t34.getD t36.toNat AV.undef) 4) (fI (t34.getD t36.toNat AV.undef) 5) (fI (t34.getD t36.toNat AV.undef) 6) (fI (t34.getD t36.toNat AV.undef) 7) (fI (t34.getD t36.toNat AV.undef) 8) then (bif !(v71_0 h0_0 h0_1 h0_2 (fL (t34.getD t36.toNat AV.undef) 0) (fI (t34.getD t36.toNat AV.undef) 1) (fB (t34.getD t36.toNat AV.undef) 2) (fI (t34.getD t36.toNat AV.undef) 3) (fI (t34.getD t36.toNat AV.undef) 4) (fI (t34.getD t36.toNat AV.undef) 5) (fI (t34.getD t36.toNat AV.undef) 6) (fI (t34.getD t36.toNat AV.undef) 7) (fI (t34.getD t36.toNat AV.undef) 8)) then .stop (.inr (.inl (fL (t34.getD t36.toNat AV.undef) 0, fI (t34.getD t36.toNat AV.undef) 1, fB (t34.getD t36.toNat AV.undef) 2, fI (t34.getD t36.toNat AV.undef) 3, fI (t34.getD t36.toNat AV.undef) 4, fI (t34.getD t36.toNat AV.undef) 5, fI (t34.getD t36.toNat AV.undef) 6, fI (t34.getD t36.toNat AV.undef) 7, fI (t34.getD t36.toNat AV.undef) 8)))
  else (bif (decide (0 ≤ 0) && decide (0 ≤ t36) && decide (t36 ≤ (h0_3.length : Int))) then (ro (runW (R20_2 t34 t35 t36 ((h0_3.take (Int.toNat t36)).drop (Int.toNat 0)) (((h0_3.take (Int.toNat t36)).drop (Int.toNat 0)).length : Int) h0_0 h0_1 h0_2 h0_3 h0_4 (fL (t34.getD t36.toNat AV.undef) 0) (fI (t34.getD t36.toNat AV.undef) 1) (fB (t34.getD t36.toNat AV.undef) 2) (fI (t34.getD t36.toNat AV.undef) 3) (fI (t34.getD t36.toNat AV.undef) 4) (fI (t34.getD t36.toNat AV.undef) 5) (fI (t34.getD t36.toNat AV.undef) 6) (fI (t34.getD t36.toNat AV.undef) 7) (fI (t34.getD t36.toNat AV.undef) 8)) (((((h0_3.take (Int.toNat t36)).drop (Int.toNat 0)).length : Int) - 0).toNat + 1) 0) .fail (sumE (fun _ => .next (IntKind.i64.wrap (t36 + 1))) (fun p54 => .stop (.inr (.inr (fL (t34.getD t36.toNat AV.undef) 0, fI (t34.getD t36.toNat AV.undef) 1, fB (t34.getD t36.toNat AV.undef) 2, fI (t34.getD t36.toNat AV.undef) 3, fI (t34.getD t36.toNat AV.undef) 4, fI (t34.getD t36.toNat AV.undef) 5, fI (t34.getD t36.toNat AV.undef) 6, fI (t34.getD t36.toNat AV.undef) 7, fI (t34.getD t36.toNat AV.undef) 8, p54.1, p54.2.1, p54.2.2.1, p54.2.2.2.1, p54.2.2.2.2.1, p54.2.2.2.2.2.1, p54.2.2.2.2.2.2.1, p54.2.2.2.2.2.2.2.1, p54.2.2.2.2.2.2.2.2))))))
  else .fail))
  else .fail)
  else .fail)
  else .stop (.inl ()))
def R20_0 (t34 : List AV) (t35 : Int) (h0_0 : List AV) (h0_1 : List AV) (h0_2 : List AV) (h0_3 : List AV) (h0_4 : Int) : (Int) → Out (Int) (Unit ⊕ ((List AV) × Int × Bool × Int × Int × Int × Int × Int × Int) ⊕ ((List AV) × Int × Bool × Int × Int × Int × Int × Int × Int × (List AV) × Int × Bool × Int × Int × Int × Int × Int × Int)) := fun s : Int => F20_0 t34 t35 h0_0 h0_1 h0_2 h0_3 h0_4 s
def l20_0 : LModel := fun _ _ st k => match st with
  | ⟨[(1, .ptr g0 g1 g2), (34, .sl g3 t34), (35, .int .i64 t35), (36, .int .i64 t36)], [(g4, ⟨true, [], [.agg [.sl g5 h0_0, .sl g6 h0_1, .sl g7 h0_2, .sl g8 h0_3, .int .i64 h0_4]]⟩)]⟩ => bif nmEq g0 ([0, 1]) && Nat.beq g1 0 && Nat.beq g2 0 && ctsEq g3 ([.sl [.int .i64], .int .i64, .bool, .int .i64, .int .i64, .int .i64, .int .i64, .int .i64, .int .i64]) && nmEq g4 ([0, 1]) && ctsEq g5 ([.int .i64]) && ctsEq g6 ([.int .i64]) && ctsEq g7 ([.int .i64, .int .i64]) && ctsEq g8 ([.sl [.int .i64], .int .i64, .bool, .int .i64, .int .i64, .int .i64, .int .i64, .int .i64, .int .i64]) then ro (runW (R20_0 t34 t35 h0_0 h0_1 h0_2 h0_3 h0_4) ((t35 - t36).toNat + 1) t36) none (sumE (fun _ : Unit => k (.exit 0) ⟨[], [([0, 1], ⟨true, [], [AV.agg [AV.sl [.int .i64] h0_0, AV.sl [.int .i64] h0_1, AV.sl [.int .i64, .int .i64] h0_2, AV.sl [.sl [.int .i64], .int .i64, .bool, .int .i64, .int .i64, .int .i64, .int .i64, .int .i64, .int .i64] h0_3, AV.int .i64 h0_4]]⟩)]⟩) (sumE (fun p : (List AV) × Int × Bool × Int × Int × Int × Int × Int × Int => k .ret ⟨[(2, AV.bool false)], [([0, 1], ⟨true, [], [AV.agg [AV.sl [.int .i64] h0_0, AV.sl [.int .i64] h0_1, AV.sl [.int .i64, .int .i64] h0_2, AV.sl [.sl [.int .i64], .int .i64, .bool, .int .i64, .int .i64, .int .i64, .int .i64, .int .i64, .int .i64] h0_3, AV.int .i64 h0_4]]⟩), ([1, 4], ⟨true, [], [AV.agg [AV.sl [.int .i64] p.1, AV.int .i64 p.2.1, AV.bool p.2.2.1, AV.int .i64 p.2.2.2.1, AV.int .i64 p.2.2.2.2.1, AV.int .i64 p.2.2.2.2.2.1, AV.int .i64 p.2.2.2.2.2.2.1, AV.int .i64 p.2.2.2.2.2.2.2.1, AV.int .i64 p.2.2.2.2.2.2.2.2]]⟩)]⟩) (fun p : (List AV) × Int × Bool × Int × Int × Int × Int × Int × Int × (List AV) × Int × Bool × Int × Int × Int × Int × Int × Int => k .ret ⟨[(2, AV.bool false)], [([0, 1], ⟨true, [], [AV.agg [AV.sl [.int .i64] h0_0, AV.sl [.int .i64] h0_1, AV.sl [.int .i64, .int .i64] h0_2, AV.sl [.sl [.int .i64], .int .i64, .bool, .int .i64, .int .i64, .int .i64, .int .i64, .int .i64, .int .i64] h0_3, AV.int .i64 h0_4]]⟩), ([0, 4], ⟨true, [], [AV.agg [AV.sl [.int .i64] p.1, AV.int .i64 p.2.1, AV.bool p.2.2.1, AV.int .i64 p.2.2.2.1, AV.int .i64 p.2.2.2.2.1, AV.int .i64 p.2.2.2.2.2.1, AV.int .i64 p.2.2.2.2.2.2.1, AV.int .i64 p.2.2.2.2.2.2.2.1, AV.int .i64 p.2.2.2.2.2.2.2.2.1]]⟩), ([1, 6], ⟨true, [], [AV.agg [AV.sl [.int .i64] p.2.2.2.2.2.2.2.2.2.1, AV.int .i64 p.2.2.2.2.2.2.2.2.2.2.1, AV.bool p.2.2.2.2.2.2.2.2.2.2.2.1, AV.int .i64 p.2.2.2.2.2.2.2.2.2.2.2.2.1, AV.int .i64 p.2.2.2.2.2.2.2.2.2.2.2.2.2.1, AV.int .i64 p.2.2.2.2.2.2.2.2.2.2.2.2.2.2.1, AV.int .i64 p.2.2.2.2.2.2.2.2.2.2.2.2.2.2.2.1, AV.int .i64 p.2.2.2.2.2.2.2.2.2.2.2.2.2.2.2.2.1, AV.int .i64 p.2.2.2.2.2.2.2.2.2.2.2.2.2.2.2.2.2]]⟩)]⟩))) else none
  | _ => none
noncomputable def c20 : Cfg := cfg Try.prog [(20, 0, [1, 34, 35, 36]), (20, 2, [1, 4, 34, 35, 36, 49, 50, 51]), (20, 999, [2]), (20, 1000, []), (20, 1001, [1, 34, 35, 36]), (20, 1002, [1, 34, 35, 36]), (20, 1003, [1, 4, 34, 35, 36, 49, 50, 51])] [(70, m70), (71, m71), (72, m72)] [] [] [(20, 0, l20_0), (20, 2, l20_2)]
theorem s20_2 (ce : CallE) (t34 : List AV) (t35 : Int) (t36 : Int) (t49 : List AV) (t50 : Int) (t51 : Int) (h0_0 : List AV) (h0_1 : List AV) (h0_2 : List AV) (h0_3 : List AV) (h0_4 : Int) (h1_0 : List AV) (h1_1 : Int) (h1_2 : Bool) (h1_3 : Int) (h1_4 : Int) (h1_5 : Int) (h1_6 : Int) (h1_7 : Int) (h1_8 : Int) (next : St → Option AV) (k : Kont) : stepA (codeA c20 ce [] 20 2 (sub [1, 1, 0, 1, 0, 0, 1, 1, 0, 0, 1, 1, 1, 0, 0] (body Try.f20))) (normA [] [1, 4, 34, 35, 36, 49, 50, 51]) next ⟨[(1, AV.ptr [0, 1] 0 0), (4, AV.ptr [0, 4] 0 0), (34, AV.sl [.sl [.int .i64], .int .i64, .bool, .int .i64, .int .i64, .int .i64, .int .i64, .int .i64, .int .i64] t34), (35, AV.int .i64 t35), (36, AV.int .i64 t36), (49, AV.sl [.sl [.int .i64], .int .i64, .bool, .int .i64, .int .i64, .int .i64, .int .i64, .int .i64, .int .i64] t49), (50, AV.int .i64 t50), (51, AV.int .i64 t51)], [([0, 1], ⟨true, [], [AV.agg [AV.sl [.int .i64] h0_0, AV.sl [.int .i64] h0_1, AV.sl [.int .i64, .int .i64] h0_2, AV.sl [.sl [.int .i64], .int .i64, .bool, .int .i64, .int .i64, .int .i64, .int .i64, .int .i64, .int .i64] h0_3, AV.int .i64 h0_4]]⟩), ([0, 4], ⟨true, [], [AV.agg [AV.sl [.int .i64] h1_0, AV.int .i64 h1_1, AV.bool h1_2, AV.int .i64 h1_3, AV.int .i64 h1_4, AV.int .i64 h1_5, AV.int .i64 h1_6, AV.int .i64 h1_7, AV.int .i64 h1_8]]⟩)]⟩ k = (bif decide (t51 < t50) then (bif (decide (0 ≤ t51) && decide (t51 < (t49.length : Int))) then (bif h1_2 then (bif fB (t49.getD t51.toNat AV.undef) 2 then (bif (v72_0 h1_3 h1_4 (fI (t49.getD t51.toNat AV.undef) 3) (fI (t49.getD t51.toNat AV.undef) 4)) then k .ret ⟨[(2, AV.bool false)], [([0, 1], ⟨true, [], [AV.agg [AV.sl [.int .i64] h0_0, AV.sl [.int .i64] h0_1, AV.sl [.int .i64, .int .i64] h0_2, AV.sl [.sl [.int .i64], .int .i64, .bool, .int .i64, .int .i64, .int .i64, .int .i64, .int .i64, .int .i64] h0_3, AV.int .i64 h0_4]]⟩), ([0, 4], ⟨true, [], [AV.agg [AV.sl [.int .i64] h1_0, AV.int .i64 h1_1, AV.bool h1_2, AV.int .i64 h1_3, AV.int .i64 h1_4, AV.int .i64 h1_5, AV.int .i64 h1_6, AV.int .i64 h1_7, AV.int .i64 h1_8]]⟩), ([1, 6], ⟨true, [], [AV.agg [AV.sl [.int .i64] (fL (t49.getD t51.toNat AV.undef) 0), AV.int .i64 (fI (t49.getD t51.toNat AV.undef) 1), AV.bool (fB (t49.getD t51.toNat AV.undef) 2), AV.int .i64 (fI (t49.getD t51.toNat AV.undef) 3), AV.int .i64 (fI (t49.getD t51.toNat AV.undef) 4), AV.int .i64 (fI (t49.getD t51.toNat AV.undef) 5), AV.int .i64 (fI (t49.getD t51.toNat AV.undef) 6), AV.int .i64 (fI (t49.getD t51.toNat AV.undef) 7), AV.int .i64 (fI (t49.getD t51.toNat AV.undef) 8)]]⟩)]⟩
  else next ⟨[(1, AV.ptr [0, 1] 0 0), (4, AV.ptr [0, 4] 0 0), (34, AV.sl [.sl [.int .i64], .int .i64, .bool, .int .i64, .int .i64, .int .i64, .int .i64, .int .i64, .int .i64] t34), (35, AV.int .i64 t35), (36, AV.int .i64 t36), (49, AV.sl [.sl [.int .i64], .int .i64, .bool, .int .i64, .int .i64, .int .i64, .int .i64, .int .i64, .int .i64] t49), (50, AV.int .i64 t50), (51, AV.int .i64 (IntKind.i64.wrap (t51 + 1)))], [([0, 1], ⟨true, [], [AV.agg [AV.sl [.int .i64] h0_0, AV.sl [.int .i64] h0_1, AV.sl [.int .i64, .int .i64] h0_2, AV.sl [.sl [.int .i64], .int .i64, .bool, .int .i64, .int .i64, .int .i64, .int .i64, .int .i64, .int .i64] h0_3, AV.int .i64 h0_4]]⟩), ([0, 4], ⟨true, [], [AV.agg [AV.sl [.int .i64] h1_0, AV.int .i64 h1_1, AV.bool h1_2, AV.int .i64 h1_3, AV.int .i64 h1_4, AV.int .i64 h1_5, AV.int .i64 h1_6, AV.int .i64 h1_7, AV.int .i64 h1_8]]⟩)]⟩)
  else next ⟨[(1, AV.ptr [0, 1] 0 0), (4, AV.ptr [0, 4] 0 0), (34, AV.sl [.sl [.int .i64], .int .i64, .bool, .int .i64, .int .i64, .int .i64, .int .i64, .int .i64, .int .i64] t34), (35, AV.int .i64 t35), (36, AV.int .i64 t36), (49, AV.sl [.sl [.int .i64], .int .i64, .bool, .int .i64, .int .i64, .int .i64, .int .i64, .int .i64, .int .i64] t49), (50, AV.int .i64 t50), (51, AV.int .i64 (IntKind.i64.wrap (t51 + 1)))], [([0, 1], ⟨true, [], [AV.agg [AV.sl [.int .i64] h0_0, AV.sl [.int .i64] h0_1, AV.sl [.int .i64, .int .i64] h0_2, AV.sl [.sl [.int .i64], .int .i64, .bool, .int .i64, .int .i64, .int .i64, .int .i64, .int .i64, .int .i64] h0_3, AV.int .i64 h0_4]]⟩), ([0, 4], ⟨true, [], [AV.agg [AV.sl [.int .i64] h1_0, AV.int .i64 h1_1, AV.bool h1_2, AV.int .i64 h1_3, AV.int .i64 h1_4, AV.int .i64 h1_5, AV.int .i64 h1_6, AV.int .i64 h1_7, AV.int .i64 h1_8]]⟩)]⟩)
  else next ⟨[(1, AV.ptr [0, 1] 0 0), (4, AV.ptr [0, 4] 0 0), (34, AV.sl [.sl [.int .i64], .int .i64, .bool, .int .i64, .int .i64, .int .i64, .int .i64, .int .i64, .int .i64] t34), (35, AV.int .i64 t35), (36, AV.int .i64 t36), (49, AV.sl [.sl [.int .i64], .int .i64, .bool, .int .i64, .int .i64, .int .i64, .int .i64, .int .i64, .int .i64] t49), (50, AV.int .i64 t50), (51, AV.int .i64 (IntKind.i64.wrap (t51 + 1)))], [([0, 1], ⟨true, [], [AV.agg [AV.sl [.int .i64] h0_0, AV.sl [.int .i64] h0_1, AV.sl [.int .i64, .int .i64] h0_2, AV.sl [.sl [.int .i64], .int .i64, .bool, .int .i64, .int .i64, .int .i64, .int .i64, .int .i64, .int .i64] h0_3, AV.int .i64 h0_4]]⟩), ([0, 4], ⟨true, [], [AV.agg [AV.sl [.int .i64] h1_0, AV.int .i64 h1_1, AV.bool h1_2, AV.int .i64 h1_3, AV.int .i64 h1_4, AV.int .i64 h1_5, AV.int .i64 h1_6, AV.int .i64 h1_7, AV.int .i64 h1_8]]⟩)]⟩)
  else none)
  else k (.exit 2) ⟨[(1, AV.ptr [0, 1] 0 0), (34, AV.sl [.sl [.int .i64], .int .i64, .bool, .int .i64, .int .i64, .int .i64, .int .i64, .int .i64, .int .i64] t34), (35, AV.int .i64 t35), (36, AV.int .i64 t36)], [([0, 1], ⟨true, [], [AV.agg [AV.sl [.int .i64] h0_0, AV.sl [.int .i64] h0_1, AV.sl [.int .i64, .int .i64] h0_2, AV.sl [.sl [.int .i64], .int .i64, .bool, .int .i64, .int .i64, .int .i64, .int .i64, .int .i64, .int .i64] h0_3, AV.int .i64 h0_4]]⟩), ([0, 4], ⟨true, [], [AV.agg [AV.sl [.int .i64] h1_0, AV.int .i64 h1_1, AV.bool h1_2, AV.int .i64 h1_3, AV.int .i64 h1_4, AV.int .i64 h1_5, AV.int .i64 h1_6, AV.int .i64 h1_7, AV.int .i64 h1_8]]⟩)]⟩) := by kernel_rfl
theorem st20_2 (t34 : List AV) (t35 : Int) (t36 : Int) (t49 : List AV) (t50 : Int) (h0_0 : List AV) (h0_1 : List AV) (h0_2 : List AV) (h0_3 : List AV) (h0_4 : Int) (h1_0 : List AV) (h1_1 : Int) (h1_2 : Bool) (h1_3 : Int) (h1_4 : Int) (h1_5 : Int) (h1_6 : Int) (h1_7 : Int) (h1_8 : Int) (ce : CallE) (k : Kont) (s : Int) (next : St → Option AV) : stepA (codeA c20 ce [] 20 2 (sub [1, 1, 0, 1, 0, 0, 1, 1, 0, 0, 1, 1, 1, 0, 0] (body Try.f20))) (normA [] [1, 4, 34, 35, 36, 49, 50, 51]) next ((fun s : Int => ⟨[(1, AV.ptr [0, 1] 0 0), (4, AV.ptr [0, 4] 0 0), (34, AV.sl [.sl [.int .i64], .int .i64, .bool, .int .i64, .int .i64, .int .i64, .int .i64, .int .i64, .int .i64] t34), (35, AV.int .i64 t35), (36, AV.int .i64 t36), (49, AV.sl [.sl [.int .i64], .int .i64, .bool, .int .i64, .int .i64, .int .i64, .int .i64, .int .i64, .int .i64] t49), (50, AV.int .i64 t50), (51, AV.int .i64 s)], [([0, 1], ⟨true, [], [AV.agg [AV.sl [.int .i64] h0_0, AV.sl [.int .i64] h0_1, AV.sl [.int .i64, .int .i64] h0_2, AV.sl [.sl [.int .i64], .int .i64, .bool, .int .i64, .int .i64, .int .i64, .int .i64, .int .i64, .int .i64] h0_3, AV.int .i64 h0_4]]⟩), ([0, 4], ⟨true, [], [AV.agg [AV.sl [.int .i64] h1_0, AV.int .i64 h1_1, AV.bool h1_2, AV.int .i64 h1_3, AV.int .i64 h1_4, AV.int .i64 h1_5, AV.int .i64 h1_6, AV.int .i64 h1_7, AV.int .i64 h1_8]]⟩)]⟩) s) k = (R20_2 t34 t35 t36 t49 t50 h0_0 h0_1 h0_2 h0_3 h0_4 h1_0 h1_1 h1_2 h1_3 h1_4 h1_5 h1_6 h1_7 h1_8 s).el none (fun s => next ((fun s : Int => ⟨[(1, AV.ptr [0, 1] 0 0), (4, AV.ptr [0, 4] 0 0), (34, AV.sl [.sl [.int .i64], .int .i64, .bool, .int .i64, .int .i64, .int .i64, .int .i64, .int .i64, .int .i64] t34), (35, AV.int .i64 t35), (36, AV.int .i64 t36), (49, AV.sl [.sl [.int .i64], .int .i64, .bool, .int .i64, .int .i64, .int .i64, .int .i64, .int .i64, .int .i64] t49), (50, AV.int .i64 t50), (51, AV.int .i64 s)], [([0, 1], ⟨true, [], [AV.agg [AV.sl [.int .i64] h0_0, AV.sl [.int .i64] h0_1, AV.sl [.int .i64, .int .i64] h0_2, AV.sl [.sl [.int .i64], .int .i64, .bool, .int .i64, .int .i64, .int .i64, .int .i64, .int .i64, .int .i64] h0_3, AV.int .i64 h0_4]]⟩), ([0, 4], ⟨true, [], [AV.agg [AV.sl [.int .i64] h1_0, AV.int .i64 h1_1, AV.bool h1_2, AV.int .i64 h1_3, AV.int .i64 h1_4, AV.int .i64 h1_5, AV.int .i64 h1_6, AV.int .i64 h1_7, AV.int .i64 h1_8]]⟩)]⟩) s)) (sumE (fun _ : Unit => k (.exit 2) ⟨[(1, AV.ptr [0, 1] 0 0), (34, AV.sl [.sl [.int .i64], .int .i64, .bool, .int .i64, .int .i64, .int .i64, .int .i64, .int .i64, .int .i64] t34), (35, AV.int .i64 t35), (36, AV.int .i64 t36)], [([0, 1], ⟨true, [], [AV.agg [AV.sl [.int .i64] h0_0, AV.sl [.int .i64] h0_1, AV.sl [.int .i64, .int .i64] h0_2, AV.sl [.sl [.int .i64], .int .i64, .bool, .int .i64, .int .i64, .int .i64, .int .i64, .int .i64, .int .i64] h0_3, AV.int .i64 h0_4]]⟩), ([0, 4], ⟨true, [], [AV.agg [AV.sl [.int .i64] h1_0, AV.int .i64 h1_1, AV.bool h1_2, AV.int .i64 h1_3, AV.int .i64 h1_4, AV.int .i64 h1_5, AV.int .i64 h1_6, AV.int .i64 h1_7, AV.int .i64 h1_8]]⟩)]⟩) (fun p : (List AV) × Int × Bool × Int × Int × Int × Int × Int × Int => k .ret ⟨[(2, AV.bool false)], [([0, 1], ⟨true, [], [AV.agg [AV.sl [.int .i64] h0_0, AV.sl [.int .i64] h0_1, AV.sl [.int .i64, .int .i64] h0_2, AV.sl [.sl [.int .i64], .int .i64, .bool, .int .i64, .int .i64, .int .i64, .int .i64, .int .i64, .int .i64] h0_3, AV.int .i64 h0_4]]⟩), ([0, 4], ⟨true, [], [AV.agg [AV.sl [.int .i64] h1_0, AV.int .i64 h1_1, AV.bool h1_2, AV.int .i64 h1_3, AV.int .i64 h1_4, AV.int .i64 h1_5, AV.int .i64 h1_6, AV.int .i64 h1_7, AV.int .i64 h1_8]]⟩), ([1, 6], ⟨true, [], [AV.agg [AV.sl [.int .i64] p.1, AV.int .i64 p.2.1, AV.bool p.2.2.1, AV.int .i64 p.2.2.2.1, AV.int .i64 p.2.2.2.2.1, AV.int .i64 p.2.2.2.2.2.1, AV.int .i64 p.2.2.2.2.2.2.1, AV.int .i64 p.2.2.2.2.2.2.2.1, AV.int .i64 p.2.2.2.2.2.2.2.2]]⟩)]⟩)) := (s20_2 ce t34 t35 t36 t49 t50 s h0_0 h0_1 h0_2 h0_3 h0_4 h1_0 h1_1 h1_2 h1_3 h1_4 h1_5 h1_6 h1_7 h1_8 next k).trans (by unfold R20_2; unfold F20_2; simp only [el_cond, el_ro, el_sum, el_fail, el_next, el_stop] <;> rfl)
theorem ok20_2 {ce : CallE} : LoopOK c20 ce [] 20 2 (sub [1, 1, 0, 1, 0, 0, 1, 1, 0, 0, 1, 1, 1, 0, 0] (body Try.f20)) := by
  intro m hm st k r h
  obtain rfl : l20_2 = m := Option.some.inj hm
  unfold l20_2 at h
  split at h
  · rename_i g0 g1 g2 g3 g4 g5 g6 t34 t35 t36 g7 t49 t50 t51 g8 g9 h0_0 g10 h0_1 g11 h0_2 g12 h0_3 h0_4 g13 g14 h1_0 h1_1 h1_2 h1_3 h1_4 h1_5 h1_6 h1_7 h1_8
    obtain ⟨hg, h⟩ := bif_some h
    simp only [Bool.and_eq_true] at hg
    obtain ⟨⟨⟨⟨⟨⟨⟨⟨⟨⟨⟨⟨⟨⟨q0, q1⟩, q2⟩, q3⟩, q4⟩, q5⟩, q6⟩, q7⟩, q8⟩, q9⟩, q10⟩, q11⟩, q12⟩, q13⟩, q14⟩ := hg
    obtain rfl := (nmEq_iff _ _).1 q0
    obtain rfl := Nat.eq_of_beq_eq_true q1
    obtain rfl := Nat.eq_of_beq_eq_true q2
    obtain rfl := (nmEq_iff _ _).1 q3
    obtain rfl := Nat.eq_of_beq_eq_true q4
    obtain rfl := Nat.eq_of_beq_eq_true q5
    obtain rfl := ctsEq_eq _ _ q6
    obtain rfl := ctsEq_eq _ _ q7
    obtain rfl := (nmEq_iff _ _).1 q8
    obtain rfl := ctsEq_eq _ _ q9
    obtain rfl := ctsEq_eq _ _ q10
    obtain rfl := ctsEq_eq _ _ q11
    obtain rfl := ctsEq_eq _ _ q12
    obtain rfl := (nmEq_iff _ _).1 q13
    obtain rfl := ctsEq_eq _ _ q14
    refine ⟨((t50 - t51).toNat + 1), ?_⟩
    rw [← h]
    exact loop_run (fun s : Int => ⟨[(1, AV.ptr [0, 1] 0 0), (4, AV.ptr [0, 4] 0 0), (34, AV.sl [.sl [.int .i64], .int .i64, .bool, .int .i64, .int .i64, .int .i64, .int .i64, .int .i64, .int .i64] t34), (35, AV.int .i64 t35), (36, AV.int .i64 t36), (49, AV.sl [.sl [.int .i64], .int .i64, .bool, .int .i64, .int .i64, .int .i64, .int .i64, .int .i64, .int .i64] t49), (50, AV.int .i64 t50), (51, AV.int .i64 s)], [([0, 1], ⟨true, [], [AV.agg [AV.sl [.int .i64] h0_0, AV.sl [.int .i64] h0_1, AV.sl [.int .i64, .int .i64] h0_2, AV.sl [.sl [.int .i64], .int .i64, .bool, .int .i64, .int .i64, .int .i64, .int .i64, .int .i64, .int .i64] h0_3, AV.int .i64 h0_4]]⟩), ([0, 4], ⟨true, [], [AV.agg [AV.sl [.int .i64] h1_0, AV.int .i64 h1_1, AV.bool h1_2, AV.int .i64 h1_3, AV.int .i64 h1_4, AV.int .i64 h1_5, AV.int .i64 h1_6, AV.int .i64 h1_7, AV.int .i64 h1_8]]⟩)]⟩) (sumE (fun _ : Unit => k (.exit 2) ⟨[(1, AV.ptr [0, 1] 0 0), (34, AV.sl [.sl [.int .i64], .int .i64, .bool, .int .i64, .int .i64, .int .i64, .int .i64, .int .i64, .int .i64] t34), (35, AV.int .i64 t35), (36, AV.int .i64 t36)], [([0, 1], ⟨true, [], [AV.agg [AV.sl [.int .i64] h0_0, AV.sl [.int .i64] h0_1, AV.sl [.int .i64, .int .i64] h0_2, AV.sl [.sl [.int .i64], .int .i64, .bool, .int .i64, .int .i64, .int .i64, .int .i64, .int .i64, .int .i64] h0_3, AV.int .i64 h0_4]]⟩), ([0, 4], ⟨true, [], [AV.agg [AV.sl [.int .i64] h1_0, AV.int .i64 h1_1, AV.bool h1_2, AV.int .i64 h1_3, AV.int .i64 h1_4, AV.int .i64 h1_5, AV.int .i64 h1_6, AV.int .i64 h1_7, AV.int .i64 h1_8]]⟩)]⟩) (fun p : (List AV) × Int × Bool × Int × Int × Int × Int × Int × Int => k .ret ⟨[(2, AV.bool false)], [([0, 1], ⟨true, [], [AV.agg [AV.sl [.int .i64] h0_0, AV.sl [.int .i64] h0_1, AV.sl [.int .i64, .int .i64] h0_2, AV.sl [.sl [.int .i64], .int .i64, .bool, .int .i64, .int .i64, .int .i64, .int .i64, .int .i64, .int .i64] h0_3, AV.int .i64 h0_4]]⟩), ([0, 4], ⟨true, [], [AV.agg [AV.sl [.int .i64] h1_0, AV.int .i64 h1_1, AV.bool h1_2, AV.int .i64 h1_3, AV.int .i64 h1_4, AV.int .i64 h1_5, AV.int .i64 h1_6, AV.int .i64 h1_7, AV.int .i64 h1_8]]⟩), ([1, 6], ⟨true, [], [AV.agg [AV.sl [.int .i64] p.1, AV.int .i64 p.2.1, AV.bool p.2.2.1, AV.int .i64 p.2.2.2.1, AV.int .i64 p.2.2.2.2.1, AV.int .i64 p.2.2.2.2.2.1, AV.int .i64 p.2.2.2.2.2.2.1, AV.int .i64 p.2.2.2.2.2.2.2.1, AV.int .i64 p.2.2.2.2.2.2.2.2]]⟩)]⟩)) (st20_2 t34 t35 t36 t49 t50 h0_0 h0_1 h0_2 h0_3 h0_4 h1_0 h1_1 h1_2 h1_3 h1_4 h1_5 h1_6 h1_7 h1_8 ce k) _ t51
  · cases h
theorem s20_0 (ce : CallE) (t34 : List AV) (t35 : Int) (t36 : Int) (h0_0 : List AV) (h0_1 : List AV) (h0_2 : List AV) (h0_3 : List AV) (h0_4 : Int) (next : St → Option AV) (k : Kont) : stepA (codeA c20 ce [] 20 0 (sub [1, 1, 0, 1, 0, 0] (body Try.f20))) (normA [] [1, 34, 35, 36]) next ⟨[(1, AV.ptr [0, 1] 0 0), (34, AV.sl [.sl [.int .i64], .int .i64, .bool, .int .i64, .int .i64, .int .i64, .int .i64, .int .i64, .int .i64] t34), (35, AV.int .i64 t35), (36, AV.int .i64 t36)], [([0, 1], ⟨true, [], [AV.agg [AV.sl [.int .i64] h0_0, AV.sl [.int .i64] h0_1, AV.sl [.int .i64, .int .i64] h0_2, AV.sl [.sl [.int .i64], .int .i64, .bool, .int .i64, .int .i64, .int .i64, .int .i64, .int .i64, .int .i64] h0_3, AV.int .i64 h0_4]]⟩)]⟩ k = (bif decide (t36 < t35) then (bif (decide (0 ≤ t36) && decide (t36 < (t34.length : Int))) then (bif q71 h0_0 h0_1 h0_2 (fL (t34.getD t36.toNat AV.undef) 0) (fI (t34.getD t36.toNat AV.undef) 1) (fB (t34.getD t36.toNat AV.undef) 2) (fI (t34.getD t36.toNat AV.undef) 3) (fI (t34.getD t36.toNat AV.undef) 4) (fI (t34.getD t36.toNat AV.undef) 5) (fI (t34.getD t36.toNat AV.undef) 6) (fI (t34.getD t36.toNat AV.undef) 7) (fI (t34.getD t36.toNat AV.undef) 8) then (bif !(v71_0 h0_0 h0_1 h0_2 (fL (t34.getD t36.toNat AV.undef) 0) (fI (t34.getD t36.toNat AV.undef) 1) (fB (t34.getD t36.toNat AV.undef) 2) (fI (t34.getD t36.toNat AV.undef) 3) (fI (t34.getD t36.toNat AV.undef) 4) (fI (t34.getD t36.toNat AV.undef) 5) (fI (t34.getD t36.toNat AV.undef) 6) (fI (t34.getD t36.toNat AV.undef) 7) (fI (t34.getD t36.toNat AV.undef) 8)) then k .ret ⟨[(2, AV.bool false)], [([0, 1], ⟨true, [], [AV.agg [AV.sl [.int .i64] h0_0, AV.sl [.int .i64] h0_1, AV.sl [.int .i64, .int .i64] h0_2, AV.sl [.sl [.int .i64], .int .i64, .bool, .int .i64, .int .i64, .int .i64, .int .i64, .int .i64, .int .i64] h0_3, AV.int .i64 h0_4]]⟩), ([1, 4], ⟨true, [], [AV.agg [AV.sl [.int .i64] (fL (t34.getD t36.toNat AV.undef) 0), AV.int .i64 (fI (t34.getD t36.toNat AV.undef) 1), AV.bool (fB (t34.getD t36.toNat AV.undef) 2), AV.int .i64 (fI (t34.getD t36.toNat AV.undef) 3), AV.int .i64 (fI (t34.getD t36.toNat AV.undef) 4), AV.int .i64 (fI (t34.getD t36.toNat AV.undef) 5), AV.int .i64 (fI (t34.getD t36.toNat AV.undef) 6), AV.int .i64 (fI (t34.getD t36.toNat AV.undef) 7), AV.int .i64 (fI (t34.getD t36.toNat AV.undef) 8)]]⟩)]⟩
  else (bif (decide (0 ≤ 0) && decide (0 ≤ t36) && decide (t36 ≤ (h0_3.length : Int))) then (ro (runW (R20_2 t34 t35 t36 ((h0_3.take (Int.toNat t36)).drop (Int.toNat 0)) (((h0_3.take (Int.toNat t36)).drop (Int.toNat 0)).length : Int) h0_0 h0_1 h0_2 h0_3 h0_4 (fL (t34.getD t36.toNat AV.undef) 0) (fI (t34.getD t36.toNat AV.undef) 1) (fB (t34.getD t36.toNat AV.undef) 2) (fI (t34.getD t36.toNat AV.undef) 3) (fI (t34.getD t36.toNat AV.undef) 4) (fI (t34.getD t36.toNat AV.undef) 5) (fI (t34.getD t36.toNat AV.undef) 6) (fI (t34.getD t36.toNat AV.undef) 7) (fI (t34.getD t36.toNat AV.undef) 8)) (((((h0_3.take (Int.toNat t36)).drop (Int.toNat 0)).length : Int) - 0).toNat + 1) 0) none (sumE (fun _ => next ⟨[(1, AV.ptr [0, 1] 0 0), (34, AV.sl [.sl [.int .i64], .int .i64, .bool, .int .i64, .int .i64, .int .i64, .int .i64, .int .i64, .int .i64] t34), (35, AV.int .i64 t35), (36, AV.int .i64 (IntKind.i64.wrap (t36 + 1)))], [([0, 1], ⟨true, [], [AV.agg [AV.sl [.int .i64] h0_0, AV.sl [.int .i64] h0_1, AV.sl [.int .i64, .int .i64] h0_2, AV.sl [.sl [.int .i64], .int .i64, .bool, .int .i64, .int .i64, .int .i64, .int .i64, .int .i64, .int .i64] h0_3, AV.int .i64 h0_4]]⟩)]⟩) (fun p54 => k .ret ⟨[(2, AV.bool false)], [([0, 1], ⟨true, [], [AV.agg [AV.sl [.int .i64] h0_0, AV.sl [.int .i64] h0_1, AV.sl [.int .i64, .int .i64] h0_2, AV.sl [.sl [.int .i64], .int .i64, .bool, .int .i64, .int .i64, .int .i64, .int .i64, .int .i64, .int .i64] h0_3, AV.int .i64 h0_4]]⟩), ([0, 4], ⟨true, [], [AV.agg [AV.sl [.int .i64] (fL (t34.getD t36.toNat AV.undef) 0), AV.int .i64 (fI (t34.getD t36.toNat AV.undef) 1), AV.bool (fB (t34.getD t36.toNat AV.undef) 2), AV.int .i64 (fI (t34.getD t36.toNat AV.undef) 3), AV.int .i64 (fI (t34.getD t36.toNat AV.undef) 4), AV.int .i64 (fI (t34.getD t36.toNat AV.undef) 5), AV.int .i64 (fI (t34.getD t36.toNat AV.undef) 6), AV.int .i64 (fI (t34.getD t36.toNat AV.undef) 7), AV.int .i64 (fI (t34.getD t36.toNat AV.undef) 8)]]⟩), ([1, 6], ⟨true, [], [AV.agg [AV.sl [.int .i64] p54.1, AV.int .i64 p54.2.1, AV.bool p54.2.2.1, AV.int .i64 p54.2.2.2.1, AV.int .i64 p54.2.2.2.2.1, AV.int .i64 p54.2.2.2.2.2.1, AV.int .i64 p54.2.2.2.2.2.2.1, AV.int .i64 p54.2.2.2.2.2.2.2.1, AV.int .i64 p54.2.2.2.2.2.2.2.2]]⟩)]⟩)))
  else none))
  else none)
  else none)
  else k (.exit 0) ⟨[], [([0, 1], ⟨true, [], [AV.agg [AV.sl [.int .i64] h0_0, AV.sl [.int .i64] h0_1, AV.sl [.int .i64, .int .i64] h0_2, AV.sl [.sl [.int .i64], .int .i64, .bool, .int .i64, .int .i64, .int .i64, .int .i64, .int .i64, .int .i64] h0_3, AV.int .i64 h0_4]]⟩)]⟩) := by kernel_rfl
theorem st20_0 (t34 : List AV) (t35 : Int) (h0_0 : List AV) (h0_1 : List AV) (h0_2 : List AV) (h0_3 : List AV) (h0_4 : Int) (ce : CallE) (k : Kont) (s : Int) (next : St → Option AV) : stepA (codeA c20 ce [] 20 0 (sub [1, 1, 0, 1, 0, 0] (body Try.f20))) (normA [] [1, 34, 35, 36]) next ((fun s : Int => ⟨[(1, AV.ptr [0, 1] 0 0), (34, AV.sl [.sl [.int .i64], .int .i64, .bool, .int .i64, .int .i64, .int .i64, .int .i64, .int .i64, .int .i64] t34), (35, AV.int .i64 t35), (36, AV.int .i64 s)], [([0, 1], ⟨true, [], [AV.agg [AV.sl [.int .i64] h0_0, AV.sl [.int .i64] h0_1, AV.sl [.int .i64, .int .i64] h0_2, AV.sl [.sl [.int .i64], .int .i64, .bool, .int .i64, .int .i64, .int .i64, .int .i64, .int .i64, .int .i64] h0_3, AV.int .i64 h0_4]]⟩)]⟩) s) k = (R20_0 t34 t35 h0_0 h0_1 h0_2 h0_3 h0_4 s).el none (fun s => next ((fun s : Int => ⟨[(1, AV.ptr [0, 1] 0 0), (34, AV.sl [.sl [.int .i64], .int .i64, .bool, .int .i64, .int .i64, .int .i64, .int .i64, .int .i64, .int .i64] t34), (35, AV.int .i64 t35), (36, AV.int .i64 s)], [([0, 1], ⟨true, [], [AV.agg [AV.sl [.int .i64] h0_0, AV.sl [.int .i64] h0_1, AV.sl [.int .i64, .int .i64] h0_2, AV.sl [.sl [.int .i64], .int .i64, .bool, .int .i64, .int .i64, .int .i64, .int .i64, .int .i64, .int .i64] h0_3, AV.int .i64 h0_4]]⟩)]⟩) s)) (sumE (fun _ : Unit => k (.exit 0) ⟨[], [([0, 1], ⟨true, [], [AV.agg [AV.sl [.int .i64] h0_0, AV.sl [.int .i64] h0_1, AV.sl [.int .i64, .int .i64] h0_2, AV.sl [.sl [.int .i64], .int .i64, .bool, .int .i64, .int .i64, .int .i64, .int .i64, .int .i64, .int .i64] h0_3, AV.int .i64 h0_4]]⟩)]⟩) (sumE (fun p : (List AV) × Int × Bool × Int × Int × Int × Int × Int × Int => k .ret ⟨[(2, AV.bool false)], [([0, 1], ⟨true, [], [AV.agg [AV.sl [.int .i64] h0_0, AV.sl [.int .i64] h0_1, AV.sl [.int .i64, .int .i64] h0_2, AV.sl [.sl [.int .i64], .int .i64, .bool, .int .i64, .int .i64, .int .i64, .int .i64, .int .i64, .int .i64] h0_3, AV.int .i64 h0_4]]⟩), ([1, 4], ⟨true, [], [AV.agg [AV.sl [.int .i64] p.1, AV.int .i64 p.2.1, AV.bool p.2.2.1, AV.int .i64 p.2.2.2.1, AV.int .i64 p.2.2.2.2.1, AV.int .i64 p.2.2.2.2.2.1, AV.int .i64 p.2.2.2.2.2.2.1, AV.int .i64 p.2.2.2.2.2.2.2.1, AV.int .i64 p.2.2.2.2.2.2.2.2]]⟩)]⟩) (fun p : (List AV) × Int × Bool × Int × Int × Int × Int × Int × Int × (List AV) × Int × Bool × Int × Int × Int × Int × Int × Int => k .ret ⟨[(2, AV.bool false)], [([0, 1], ⟨true, [], [AV.agg [AV.sl [.int .i64] h0_0, AV.sl [.int .i64] h0_1, AV.sl [.int .i64, .int .i64] h0_2, AV.sl [.sl [.int .i64], .int .i64, .bool, .int .i64, .int .i64, .int .i64, .int .i64, .int .i64, .int .i64] h0_3, AV.int .i64 h0_4]]⟩), ([0, 4], ⟨true, [], [AV.agg [AV.sl [.int .i64] p.1, AV.int .i64 p.2.1, AV.bool p.2.2.1, AV.int .i64 p.2.2.2.1, AV.int .i64 p.2.2.2.2.1, AV.int .i64 p.2.2.2.2.2.1, AV.int .i64 p.2.2.2.2.2.2.1, AV.int .i64 p.2.2.2.2.2.2.2.1, AV.int .i64 p.2.2.2.2.2.2.2.2.1]]⟩), ([1, 6], ⟨true, [], [AV.agg [AV.sl [.int .i64] p.2.2.2.2.2.2.2.2.2.1, AV.int .i64 p.2.2.2.2.2.2.2.2.2.2.1, AV.bool p.2.2.2.2.2.2.2.2.2.2.2.1, AV.int .i64 p.2.2.2.2.2.2.2.2.2.2.2.2.1, AV.int .i64 p.2.2.2.2.2.2.2.2.2.2.2.2.2.1, AV.int .i64 p.2.2.2.2.2.2.2.2.2.2.2.2.2.2.1, AV.int .i64 p.2.2.2.2.2.2.2.2.2.2.2.2.2.2.2.1, AV.int .i64 p.2.2.2.2.2.2.2.2.2.2.2.2.2.2.2.2.1, AV.int .i64 p.2.2.2.2.2.2.2.2.2.2.2.2.2.2.2.2.2]]⟩)]⟩))) := (s20_0 ce t34 t35 s h0_0 h0_1 h0_2 h0_3 h0_4 next k).trans (by unfold R20_0; unfold F20_0; simp only [el_cond, el_ro, el_sum, el_fail, el_next, el_stop] <;> rfl)
theorem ok20_0 {ce : CallE} : LoopOK c20 ce [] 20 0 (sub [1, 1, 0, 1, 0, 0] (body Try.f20)) := by
  intro m hm st k r h
  obtain rfl : l20_0 = m := Option.some.inj hm
  unfold l20_0 at h
  split at h
  · rename_i g0 g1 g2 g3 t34 t35 t36 g4 g5 h0_0 g6 h0_1 g7 h0_2 g8 h0_3 h0_4
    obtain ⟨hg, h⟩ := bif_some h
    simp only [Bool.and_eq_true] at hg
    obtain ⟨⟨⟨⟨⟨⟨⟨⟨q0, q1⟩, q2⟩, q3⟩, q4⟩, q5⟩, q6⟩, q7⟩, q8⟩ := hg
    obtain rfl := (nmEq_iff _ _).1 q0
    obtain rfl := Nat.eq_of_beq_eq_true q1
    obtain rfl := Nat.eq_of_beq_eq_true q2
    obtain rfl := ctsEq_eq _ _ q3
    obtain rfl := (nmEq_iff _ _).1 q4
    obtain rfl := ctsEq_eq _ _ q5
    obtain rfl := ctsEq_eq _ _ q6
    obtain rfl := ctsEq_eq _ _ q7
    obtain rfl := ctsEq_eq _ _ q8
    refine ⟨((t35 - t36).toNat + 1), ?_⟩
    rw [← h]
    exact loop_run (fun s : Int => ⟨[(1, AV.ptr [0, 1] 0 0), (34, AV.sl [.sl [.int .i64], .int .i64, .bool, .int .i64, .int .i64, .int .i64, .int .i64, .int .i64, .int .i64] t34), (35, AV.int .i64 t35), (36, AV.int .i64 s)], [([0, 1], ⟨true, [], [AV.agg [AV.sl [.int .i64] h0_0, AV.sl [.int .i64] h0_1, AV.sl [.int .i64, .int .i64] h0_2, AV.sl [.sl [.int .i64], .int .i64, .bool, .int .i64, .int .i64, .int .i64, .int .i64, .int .i64, .int .i64] h0_3, AV.int .i64 h0_4]]⟩)]⟩) (sumE (fun _ : Unit => k (.exit 0) ⟨[], [([0, 1], ⟨true, [], [AV.agg [AV.sl [.int .i64] h0_0, AV.sl [.int .i64] h0_1, AV.sl [.int .i64, .int .i64] h0_2, AV.sl [.sl [.int .i64], .int .i64, .bool, .int .i64, .int .i64, .int .i64, .int .i64, .int .i64, .int .i64] h0_3, AV.int .i64 h0_4]]⟩)]⟩) (sumE (fun p : (List AV) × Int × Bool × Int × Int × Int × Int × Int × Int => k .ret ⟨[(2, AV.bool false)], [([0, 1], ⟨true, [], [AV.agg [AV.sl [.int .i64] h0_0, AV.sl [.int .i64] h0_1, AV.sl [.int .i64, .int .i64] h0_2, AV.sl [.sl [.int .i64], .int .i64, .bool, .int .i64, .int .i64, .int .i64, .int .i64, .int .i64, .int .i64] h0_3, AV.int .i64 h0_4]]⟩), ([1, 4], ⟨true, [], [AV.agg [AV.sl [.int .i64] p.1, AV.int .i64 p.2.1, AV.bool p.2.2.1, AV.int .i64 p.2.2.2.1, AV.int .i64 p.2.2.2.2.1, AV.int .i64 p.2.2.2.2.2.1, AV.int .i64 p.2.2.2.2.2.2.1, AV.int .i64 p.2.2.2.2.2.2.2.1, AV.int .i64 p.2.2.2.2.2.2.2.2]]⟩)]⟩) (fun p : (List AV) × Int × Bool × Int × Int × Int × Int × Int × Int × (List AV) × Int × Bool × Int × Int × Int × Int × Int × Int => k .ret ⟨[(2, AV.bool false)], [([0, 1], ⟨true, [], [AV.agg [AV.sl [.int .i64] h0_0, AV.sl [.int .i64] h0_1, AV.sl [.int .i64, .int .i64] h0_2, AV.sl [.sl [.int .i64], .int .i64, .bool, .int .i64, .int .i64, .int .i64, .int .i64, .int .i64, .int .i64] h0_3, AV.int .i64 h0_4]]⟩), ([0, 4], ⟨true, [], [AV.agg [AV.sl [.int .i64] p.1, AV.int .i64 p.2.1, AV.bool p.2.2.1, AV.int .i64 p.2.2.2.1, AV.int .i64 p.2.2.2.2.1, AV.int .i64 p.2.2.2.2.2.1, AV.int .i64 p.2.2.2.2.2.2.1, AV.int .i64 p.2.2.2.2.2.2.2.1, AV.int .i64 p.2.2.2.2.2.2.2.2.1]]⟩), ([1, 6], ⟨true, [], [AV.agg [AV.sl [.int .i64] p.2.2.2.2.2.2.2.2.2.1, AV.int .i64 p.2.2.2.2.2.2.2.2.2.2.1, AV.bool p.2.2.2.2.2.2.2.2.2.2.2.1, AV.int .i64 p.2.2.2.2.2.2.2.2.2.2.2.2.1, AV.int .i64 p.2.2.2.2.2.2.2.2.2.2.2.2.2.1, AV.int .i64 p.2.2.2.2.2.2.2.2.2.2.2.2.2.2.1, AV.int .i64 p.2.2.2.2.2.2.2.2.2.2.2.2.2.2.2.1, AV.int .i64 p.2.2.2.2.2.2.2.2.2.2.2.2.2.2.2.2.1, AV.int .i64 p.2.2.2.2.2.2.2.2.2.2.2.2.2.2.2.2.2]]⟩)]⟩))) (st20_0 t34 t35 h0_0 h0_1 h0_2 h0_3 h0_4 ce k) _ t36
  · cases h
def q20 (a0_0 : List AV) (a0_1 : List AV) (a0_2 : List AV) (a0_3 : List AV) (a0_4 : Int) : Bool := (q70 a0_0 a0_1 a0_2 && (bif !(v70_0 a0_0 a0_1 a0_2) then true else (bif decide ((a0_3.length : Int) < 1) then true else (bif decide ((a0_3.length : Int) > 3) then true else (bif decide (a0_4 < 0) then true else (bif decide (a0_4 > 100000) then true else (ro (runW (R20_0 a0_3 (a0_3.length : Int) a0_0 a0_1 a0_2 a0_3 a0_4) (((a0_3.length : Int) - 0).toNat + 1) 0) false (sumE (fun _ => true) (sumE (fun p56 => true) (fun p57 => true))))))))))
def v20_0 (a0_0 : List AV) (a0_1 : List AV) (a0_2 : List AV) (a0_3 : List AV) (a0_4 : Int) : Bool := (bif !(v70_0 a0_0 a0_1 a0_2) then false else (bif decide ((a0_3.length : Int) < 1) then false else (bif decide ((a0_3.length : Int) > 3) then false else (bif decide (a0_4 < 0) then false else (bif decide (a0_4 > 100000) then false else (ro (runW (R20_0 a0_3 (a0_3.length : Int) a0_0 a0_1 a0_2 a0_3 a0_4) (((a0_3.length : Int) - 0).toNat + 1) 0) false (sumE (fun _ => true) (sumE (fun p56 => false) (fun p57 => false)))))))))
theorem e20 (a0_0 : List AV) (a0_1 : List AV) (a0_2 : List AV) (a0_3 : List AV) (a0_4 : Int) : funA c20 0 20 [AV.agg [AV.sl [.int .i64] a0_0, AV.sl [.int .i64] a0_1, AV.sl [.int .i64, .int .i64] a0_2, AV.sl [.sl [.int .i64], .int .i64, .bool, .int .i64, .int .i64, .int .i64, .int .i64, .int .i64, .int .i64] a0_3, AV.int .i64 a0_4]] = (bif q70 a0_0 a0_1 a0_2 then (bif !(v70_0 a0_0 a0_1 a0_2) then some (AV.bool false)
  else (bif decide ((a0_3.length : Int) < 1) then some (AV.bool false)
  else (bif decide ((a0_3.length : Int) > 3) then some (AV.bool false)
  else (bif decide (a0_4 < 0) then some (AV.bool false)
  else (bif decide (a0_4 > 100000) then some (AV.bool false)
  else (ro (runW (R20_0 a0_3 (a0_3.length : Int) a0_0 a0_1 a0_2 a0_3 a0_4) (((a0_3.length : Int) - 0).toNat + 1) 0) none (sumE (fun _ => some (AV.bool true)) (sumE (fun p56 => some (AV.bool false)) (fun p57 => some (AV.bool false))))))))))
  else none) := by kernel_rfl
theorem r20 (a0_0 : List AV) (a0_1 : List AV) (a0_2 : List AV) (a0_3 : List AV) (a0_4 : Int) (h : q20 a0_0 a0_1 a0_2 a0_3 a0_4 = true) : funA c20 0 20 [AV.agg [AV.sl [.int .i64] a0_0, AV.sl [.int .i64] a0_1, AV.sl [.int .i64, .int .i64] a0_2, AV.sl [.sl [.int .i64], .int .i64, .bool, .int .i64, .int .i64, .int .i64, .int .i64, .int .i64, .int .i64] a0_3, AV.int .i64 a0_4]] = some (AV.bool (v20_0 a0_0 a0_1 a0_2 a0_3 a0_4)) := (e20 a0_0 a0_1 a0_2 a0_3 a0_4).trans ((brL (br (fun b => some (AV.bool (bif b then false else (bif decide ((a0_3.length : Int) < 1) then false else (bif decide ((a0_3.length : Int) > 3) then false else (bif decide (a0_4 < 0) then false else (bif decide (a0_4 > 100000) then false else (ro (runW (R20_0 a0_3 (a0_3.length : Int) a0_0 a0_1 a0_2 a0_3 a0_4) (((a0_3.length : Int) - 0).toNat + 1) 0) false (sumE (fun _ => true) (sumE (fun p56 => false) (fun p57 => false))))))))))) (fun _ => rfl) (br (fun b => some (AV.bool (bif b then false else (bif decide ((a0_3.length : Int) > 3) then false else (bif decide (a0_4 < 0) then false else (bif decide (a0_4 > 100000) then false else (ro (runW (R20_0 a0_3 (a0_3.length : Int) a0_0 a0_1 a0_2 a0_3 a0_4) (((a0_3.length : Int) - 0).toNat + 1) 0) false (sumE (fun _ => true) (sumE (fun p56 => false) (fun p57 => false)))))))))) (fun _ => rfl) (br (fun b => some (AV.bool (bif b then false else (bif decide (a0_4 < 0) then false else (bif decide (a0_4 > 100000) then false else (ro (runW (R20_0 a0_3 (a0_3.length : Int) a0_0 a0_1 a0_2 a0_3 a0_4) (((a0_3.length : Int) - 0).toNat + 1) 0) false (sumE (fun _ => true) (sumE (fun p56 => false) (fun p57 => false))))))))) (fun _ => rfl) (br (fun b => some (AV.bool (bif b then false else (bif decide (a0_4 > 100000) then false else (ro (runW (R20_0 a0_3 (a0_3.length : Int) a0_0 a0_1 a0_2 a0_3 a0_4) (((a0_3.length : Int) - 0).toNat + 1) 0) false (sumE (fun _ => true) (sumE (fun p56 => false) (fun p57 => false)))))))) (fun _ => rfl) (br (fun b => some (AV.bool (bif b then false else (ro (runW (R20_0 a0_3 (a0_3.length : Int) a0_0 a0_1 a0_2 a0_3 a0_4) (((a0_3.length : Int) - 0).toNat + 1) 0) false (sumE (fun _ => true) (sumE (fun p56 => false) (fun p57 => false))))))) (fun _ => rfl) (brO (fun o : Option (Unit ⊕ ((List AV) × Int × Bool × Int × Int × Int × Int × Int × Int) ⊕ ((List AV) × Int × Bool × Int × Int × Int × Int × Int × Int × (List AV) × Int × Bool × Int × Int × Int × Int × Int × Int)) => some (AV.bool (ro o false (sumE (fun _ => true) (sumE (fun p56 => false) (fun p57 => false)))))) (brS (fun o : Unit ⊕ ((List AV) × Int × Bool × Int × Int × Int × Int × Int × Int) ⊕ ((List AV) × Int × Bool × Int × Int × Int × Int × Int × Int × (List AV) × Int × Bool × Int × Int × Int × Int × Int × Int) => some (AV.bool ((sumE (fun _ => true) (sumE (fun p56 => false) (fun p57 => false))) o))) (fun _ => (fun _ => rfl)) (brS (fun o : ((List AV) × Int × Bool × Int × Int × Int × Int × Int × Int) ⊕ ((List AV) × Int × Bool × Int × Int × Int × Int × Int × Int × (List AV) × Int × Bool × Int × Int × Int × Int × Int × Int) => some (AV.bool ((sumE (fun p56 => false) (fun p57 => false)) o))) (fun p56 => (fun _ => rfl)) (fun p57 => (fun _ => rfl))))))))))) h)
def m20 : TModel
  | [.agg [.sl g0 a0_0, .sl g1 a0_1, .sl g2 a0_2, .sl g3 a0_3, .int .i64 a0_4]] => bif ctsEq g0 ([.int .i64]) && ctsEq g1 ([.int .i64]) && ctsEq g2 ([.int .i64, .int .i64]) && ctsEq g3 ([.sl [.int .i64], .int .i64, .bool, .int .i64, .int .i64, .int .i64, .int .i64, .int .i64, .int .i64]) then some (q20 a0_0 a0_1 a0_2 a0_3 a0_4, AV.bool (v20_0 a0_0 a0_1 a0_2 a0_3 a0_4)) else none
  | _ => none
theorem k20 : Known Try.prog 20 := ⟨Try.f20, Try.func20, by kernel_rfl, by kernel_rfl⟩
theorem meets20 : Meets Try.prog 20 m20 := by
  refine meet (f := Try.f20) (l := [(0, sub [1, 1, 0, 1, 0, 0] (body Try.f20)), (2, sub [1, 1, 0, 1, 0, 0, 1, 1, 0, 0, 1, 1, 1, 0, 0] (body Try.f20))]) (hs := [(20, 0, [1, 34, 35, 36]), (20, 2, [1, 4, 34, 35, 36, 49, 50, 51]), (20, 999, [2]), (20, 1000, []), (20, 1001, [1, 34, 35, 36]), (20, 1002, [1, 34, 35, 36]), (20, 1003, [1, 4, 34, 35, 36, 49, 50, 51])]) (ts := [(70, m70), (71, m71), (72, m72)]) (ws := []) (is := []) (ls := [(20, 0, l20_0), (20, 2, l20_2)]) (lvl := 0) mixed k20 Try.func20 (by kernel_rfl) (loops_cons ok20_0 (loops_cons ok20_2 noLoop)) (allT_cons meets70 (allT_cons meets71 (allT_cons meets72 allT_nil))) allM_nil noI fun w xs us r hl hv h => ?_
  unfold m20 at h
  split at h
  · rename_i g0 a0_0 g1 a0_1 g2 a0_2 g3 a0_3 a0_4
    obtain ⟨hg, h⟩ := bif_pair h
    simp only [Bool.and_eq_true] at hg
    obtain ⟨⟨⟨q0, q1⟩, q2⟩, q3⟩ := hg
    obtain rfl := ctsEq_eq _ _ q0
    obtain rfl := ctsEq_eq _ _ q1
    obtain rfl := ctsEq_eq _ _ q2
    obtain rfl := ctsEq_eq _ _ q3
    obtain ⟨h1, rfl⟩ := pair_inj h
    exact r20 a0_0 a0_1 a0_2 a0_3 a0_4 h1
  · cases h

/-! ### 78 loop.example/g01984/impl.blocker -/
def F78_0 (t1 : Int) (t6 : Int) (t7 : Int) (t28 : List AV) (t29 : Int) (t30 : Int) : Out (Int) (Unit ⊕ (Int × (List AV) × Int × Bool × Int × Int × Int × Int × Int × Int)) := (bif decide (t30 < t29) then (bif (decide (0 ≤ t30) && decide (t30 < (t28.length : Int))) then (bif !decide (t30 = t1) then (bif fB (t28.getD t30.toNat AV.undef) 2 then (bif (v72_0 t6 t7 (fI (t28.getD t30.toNat AV.undef) 3) (fI (t28.getD t30.toNat AV.undef) 4)) then .stop (.inr (t30, fL (t28.getD t30.toNat AV.undef) 0, fI (t28.getD t30.toNat AV.undef) 1, fB (t28.getD t30.toNat AV.undef) 2, fI (t28.getD t30.toNat AV.undef) 3, fI (t28.getD t30.toNat AV.undef) 4, fI (t28.getD t30.toNat AV.undef) 5, fI (t28.getD t30.toNat AV.undef) 6, fI (t28.getD t30.toNat AV.undef) 7, fI (t28.getD t30.toNat AV.undef) 8))
  else .next (IntKind.i64.wrap (t30 + 1)))
  else .next (IntKind.i64.wrap (t30 + 1)))
  else .next (IntKind.i64.wrap (t30 + 1)))
  else .fail)
  else .stop (.inl ()))
def R78_0 (t1 : Int) (t6 : Int) (t7 : Int) (t28 : List AV) (t29 : Int) : (Int) → Out (Int) (Unit ⊕ (Int × (List AV) × Int × Bool × Int × Int × Int × Int × Int × Int)) := fun s : Int => F78_0 t1 t6 t7 t28 t29 s
def l78_0 : LModel := fun _ _ st k => match st with
  | ⟨[(1, .int .i64 t1), (6, .int .i64 t6), (7, .int .i64 t7), (28, .sl g0 t28), (29, .int .i64 t29), (30, .int .i64 t30)], []⟩ => bif ctsEq g0 ([.sl [.int .i64], .int .i64, .bool, .int .i64, .int .i64, .int .i64, .int .i64, .int .i64, .int .i64]) then ro (runW (R78_0 t1 t6 t7 t28 t29) ((t29 - t30).toNat + 1) t30) none (sumE (fun _ : Unit => k (.exit 0) ⟨[], []⟩) (fun p : Int × (List AV) × Int × Bool × Int × Int × Int × Int × Int × Int => k .ret ⟨[(4, AV.int .i64 p.1)], [([1, 9], ⟨true, [], [AV.agg [AV.sl [.int .i64] p.2.1, AV.int .i64 p.2.2.1, AV.bool p.2.2.2.1, AV.int .i64 p.2.2.2.2.1, AV.int .i64 p.2.2.2.2.2.1, AV.int .i64 p.2.2.2.2.2.2.1, AV.int .i64 p.2.2.2.2.2.2.2.1, AV.int .i64 p.2.2.2.2.2.2.2.2.1, AV.int .i64 p.2.2.2.2.2.2.2.2.2]]⟩)]⟩)) else none
  | _ => none
noncomputable def c78 : Cfg := cfg Try.prog [(78, 0, [1, 6, 7, 28, 29, 30]), (78, 999, [4]), (78, 1000, []), (78, 1001, [1, 6, 7, 28, 29, 30])] [(72, m72), (116, m116)] [] [] [(78, 0, l78_0)]
theorem s78_0 (ce : CallE) (t1 : Int) (t6 : Int) (t7 : Int) (t28 : List AV) (t29 : Int) (t30 : Int) (next : St → Option AV) (k : Kont) : stepA (codeA c78 ce [] 78 0 (sub [1, 1, 1, 0, 1, 0, 0] (body Try.f78))) (normA [] [1, 6, 7, 28, 29, 30]) next ⟨[(1, AV.int .i64 t1), (6, AV.int .i64 t6), (7, AV.int .i64 t7), (28, AV.sl [.sl [.int .i64], .int .i64, .bool, .int .i64, .int .i64, .int .i64, .int .i64, .int .i64, .int .i64] t28), (29, AV.int .i64 t29), (30, AV.int .i64 t30)], []⟩ k = (bif decide (t30 < t29) then (bif (decide (0 ≤ t30) && decide (t30 < (t28.length : Int))) then (bif !decide (t30 = t1) then (bif fB (t28.getD t30.toNat AV.undef) 2 then (bif (v72_0 t6 t7 (fI (t28.getD t30.toNat AV.undef) 3) (fI (t28.getD t30.toNat AV.undef) 4)) then k .ret ⟨[(4, AV.int .i64 t30)], [([1, 9], ⟨true, [], [AV.agg [AV.sl [.int .i64] (fL (t28.getD t30.toNat AV.undef) 0), AV.int .i64 (fI (t28.getD t30.toNat AV.undef) 1), AV.bool (fB (t28.getD t30.toNat AV.undef) 2), AV.int .i64 (fI (t28.getD t30.toNat AV.undef) 3), AV.int .i64 (fI (t28.getD t30.toNat AV.undef) 4), AV.int .i64 (fI (t28.getD t30.toNat AV.undef) 5), AV.int .i64 (fI (t28.getD t30.toNat AV.undef) 6), AV.int .i64 (fI (t28.getD t30.toNat AV.undef) 7), AV.int .i64 (fI (t28.getD t30.toNat AV.undef) 8)]]⟩)]⟩
  else next ⟨[(1, AV.int .i64 t1), (6, AV.int .i64 t6), (7, AV.int .i64 t7), (28, AV.sl [.sl [.int .i64], .int .i64, .bool, .int .i64, .int .i64, .int .i64, .int .i64, .int .i64, .int .i64] t28), (29, AV.int .i64 t29), (30, AV.int .i64 (IntKind.i64.wrap (t30 + 1)))], []⟩)
  else next ⟨[(1, AV.int .i64 t1), (6, AV.int .i64 t6), (7, AV.int .i64 t7), (28, AV.sl [.sl [.int .i64], .int .i64, .bool, .int .i64, .int .i64, .int .i64, .int .i64, .int .i64, .int .i64] t28), (29, AV.int .i64 t29), (30, AV.int .i64 (IntKind.i64.wrap (t30 + 1)))], []⟩)
  else next ⟨[(1, AV.int .i64 t1), (6, AV.int .i64 t6), (7, AV.int .i64 t7), (28, AV.sl [.sl [.int .i64], .int .i64, .bool, .int .i64, .int .i64, .int .i64, .int .i64, .int .i64, .int .i64] t28), (29, AV.int .i64 t29), (30, AV.int .i64 (IntKind.i64.wrap (t30 + 1)))], []⟩)
  else none)
  else k (.exit 0) ⟨[], []⟩) := by kernel_rfl
theorem st78_0 (t1 : Int) (t6 : Int) (t7 : Int) (t28 : List AV) (t29 : Int) (ce : CallE) (k : Kont) (s : Int) (next : St → Option AV) : stepA (codeA c78 ce [] 78 0 (sub [1, 1, 1, 0, 1, 0, 0] (body Try.f78))) (normA [] [1, 6, 7, 28, 29, 30]) next ((fun s : Int => ⟨[(1, AV.int .i64 t1), (6, AV.int .i64 t6), (7, AV.int .i64 t7), (28, AV.sl [.sl [.int .i64], .int .i64, .bool, .int .i64, .int .i64, .int .i64, .int .i64, .int .i64, .int .i64] t28), (29, AV.int .i64 t29), (30, AV.int .i64 s)], []⟩) s) k = (R78_0 t1 t6 t7 t28 t29 s).el none (fun s => next ((fun s : Int => ⟨[(1, AV.int .i64 t1), (6, AV.int .i64 t6), (7, AV.int .i64 t7), (28, AV.sl [.sl [.int .i64], .int .i64, .bool, .int .i64, .int .i64, .int .i64, .int .i64, .int .i64, .int .i64] t28), (29, AV.int .i64 t29), (30, AV.int .i64 s)], []⟩) s)) (sumE (fun _ : Unit => k (.exit 0) ⟨[], []⟩) (fun p : Int × (List AV) × Int × Bool × Int × Int × Int × Int × Int × Int => k .ret ⟨[(4, AV.int .i64 p.1)], [([1, 9], ⟨true, [], [AV.agg [AV.sl [.int .i64] p.2.1, AV.int .i64 p.2.2.1, AV.bool p.2.2.2.1, AV.int .i64 p.2.2.2.2.1, AV.int .i64 p.2.2.2.2.2.1, AV.int .i64 p.2.2.2.2.2.2.1, AV.int .i64 p.2.2.2.2.2.2.2.1, AV.int .i64 p.2.2.2.2.2.2.2.2.1, AV.int .i64 p.2.2.2.2.2.2.2.2.2]]⟩)]⟩)) := (s78_0 ce t1 t6 t7 t28 t29 s next k).trans (by unfold R78_0; unfold F78_0; simp only [el_cond, el_ro, el_sum, el_fail, el_next, el_stop] <;> rfl)
theorem ok78_0 {ce : CallE} : LoopOK c78 ce [] 78 0 (sub [1, 1, 1, 0, 1, 0, 0] (body Try.f78)) := by
  intro m hm st k r h
  obtain rfl : l78_0 = m := Option.some.inj hm
  unfold l78_0 at h
  split at h
  · rename_i t1 t6 t7 g0 t28 t29 t30
    obtain ⟨hg, h⟩ := bif_some h
    have q0 := hg
    obtain rfl := ctsEq_eq _ _ q0
    refine ⟨((t29 - t30).toNat + 1), ?_⟩
    rw [← h]
    exact loop_run (fun s : Int => ⟨[(1, AV.int .i64 t1), (6, AV.int .i64 t6), (7, AV.int .i64 t7), (28, AV.sl [.sl [.int .i64], .int .i64, .bool, .int .i64, .int .i64, .int .i64, .int .i64, .int .i64, .int .i64] t28), (29, AV.int .i64 t29), (30, AV.int .i64 s)], []⟩) (sumE (fun _ : Unit => k (.exit 0) ⟨[], []⟩) (fun p : Int × (List AV) × Int × Bool × Int × Int × Int × Int × Int × Int => k .ret ⟨[(4, AV.int .i64 p.1)], [([1, 9], ⟨true, [], [AV.agg [AV.sl [.int .i64] p.2.1, AV.int .i64 p.2.2.1, AV.bool p.2.2.2.1, AV.int .i64 p.2.2.2.2.1, AV.int .i64 p.2.2.2.2.2.1, AV.int .i64 p.2.2.2.2.2.2.1, AV.int .i64 p.2.2.2.2.2.2.2.1, AV.int .i64 p.2.2.2.2.2.2.2.2.1, AV.int .i64 p.2.2.2.2.2.2.2.2.2]]⟩)]⟩)) (st78_0 t1 t6 t7 t28 t29 ce k) _ t30
  · cases h
def q78 (a0_0 : List AV) (a0_1 : List AV) (a0_2 : List AV) (a0_3 : List AV) (a0_4 : Int) (a1 : Int) : Bool := ((decide (0 ≤ a1) && decide (a1 < (a0_3.length : Int))) && ((decide (0 ≤ fI (a0_3.getD a1.toNat AV.undef) 1) && decide (fI (a0_3.getD a1.toNat AV.undef) 1 < ((fL (a0_3.getD a1.toNat AV.undef) 0).length : Int))) && (q116 a0_0 a0_1 a0_2 (fI ((fL (a0_3.getD a1.toNat AV.undef) 0).getD (fI (a0_3.getD a1.toNat AV.undef) 1).toNat AV.undef) 0) && (ro (runW (R78_0 a1 (v116_0 a0_0 a0_1 a0_2 (fI ((fL (a0_3.getD a1.toNat AV.undef) 0).getD (fI (a0_3.getD a1.toNat AV.undef) 1).toNat AV.undef) 0)) (v116_1 a0_0 a0_1 a0_2 (fI ((fL (a0_3.getD a1.toNat AV.undef) 0).getD (fI (a0_3.getD a1.toNat AV.undef) 1).toNat AV.undef) 0)) a0_3 (a0_3.length : Int)) (((a0_3.length : Int) - 0).toNat + 1) 0) false (sumE (fun _ => true) (fun p59 => true))))))
def v78_0 (a0_0 : List AV) (a0_1 : List AV) (a0_2 : List AV) (a0_3 : List AV) (a0_4 : Int) (a1 : Int) : Int := (ro (runW (R78_0 a1 (v116_0 a0_0 a0_1 a0_2 (fI ((fL (a0_3.getD a1.toNat AV.undef) 0).getD (fI (a0_3.getD a1.toNat AV.undef) 1).toNat AV.undef) 0)) (v116_1 a0_0 a0_1 a0_2 (fI ((fL (a0_3.getD a1.toNat AV.undef) 0).getD (fI (a0_3.getD a1.toNat AV.undef) 1).toNat AV.undef) 0)) a0_3 (a0_3.length : Int)) (((a0_3.length : Int) - 0).toNat + 1) 0) 0 (sumE (fun _ => (-1)) (fun p59 => p59.1)))
theorem e78 (a0_0 : List AV) (a0_1 : List AV) (a0_2 : List AV) (a0_3 : List AV) (a0_4 : Int) (a1 : Int) : funA c78 0 78 [AV.agg [AV.sl [.int .i64] a0_0, AV.sl [.int .i64] a0_1, AV.sl [.int .i64, .int .i64] a0_2, AV.sl [.sl [.int .i64], .int .i64, .bool, .int .i64, .int .i64, .int .i64, .int .i64, .int .i64, .int .i64] a0_3, AV.int .i64 a0_4], AV.int .i64 a1] = (bif (decide (0 ≤ a1) && decide (a1 < (a0_3.length : Int))) then (bif (decide (0 ≤ fI (a0_3.getD a1.toNat AV.undef) 1) && decide (fI (a0_3.getD a1.toNat AV.undef) 1 < ((fL (a0_3.getD a1.toNat AV.undef) 0).length : Int))) then (bif q116 a0_0 a0_1 a0_2 (fI ((fL (a0_3.getD a1.toNat AV.undef) 0).getD (fI (a0_3.getD a1.toNat AV.undef) 1).toNat AV.undef) 0) then (ro (runW (R78_0 a1 (v116_0 a0_0 a0_1 a0_2 (fI ((fL (a0_3.getD a1.toNat AV.undef) 0).getD (fI (a0_3.getD a1.toNat AV.undef) 1).toNat AV.undef) 0)) (v116_1 a0_0 a0_1 a0_2 (fI ((fL (a0_3.getD a1.toNat AV.undef) 0).getD (fI (a0_3.getD a1.toNat AV.undef) 1).toNat AV.undef) 0)) a0_3 (a0_3.length : Int)) (((a0_3.length : Int) - 0).toNat + 1) 0) none (sumE (fun _ => some (AV.int .i64 (-1))) (fun p59 => some (AV.int .i64 p59.1))))
  else none)
  else none)
  else none) := by kernel_rfl
theorem r78 (a0_0 : List AV) (a0_1 : List AV) (a0_2 : List AV) (a0_3 : List AV) (a0_4 : Int) (a1 : Int) (h : q78 a0_0 a0_1 a0_2 a0_3 a0_4 a1 = true) : funA c78 0 78 [AV.agg [AV.sl [.int .i64] a0_0, AV.sl [.int .i64] a0_1, AV.sl [.int .i64, .int .i64] a0_2, AV.sl [.sl [.int .i64], .int .i64, .bool, .int .i64, .int .i64, .int .i64, .int .i64, .int .i64, .int .i64] a0_3, AV.int .i64 a0_4], AV.int .i64 a1] = some (AV.int .i64 (v78_0 a0_0 a0_1 a0_2 a0_3 a0_4 a1)) := (e78 a0_0 a0_1 a0_2 a0_3 a0_4 a1).trans ((brL (brL (brL (brO (fun o : Option (Unit ⊕ (Int × (List AV) × Int × Bool × Int × Int × Int × Int × Int × Int)) => some (AV.int .i64 (ro o 0 (sumE (fun _ => (-1)) (fun p59 => p59.1))))) (brS (fun o : Unit ⊕ (Int × (List AV) × Int × Bool × Int × Int × Int × Int × Int × Int) => some (AV.int .i64 ((sumE (fun _ => (-1)) (fun p59 => p59.1)) o))) (fun _ => (fun _ => rfl)) (fun p59 => (fun _ => rfl))))))) h)
def m78 : TModel
  | [.agg [.sl g0 a0_0, .sl g1 a0_1, .sl g2 a0_2, .sl g3 a0_3, .int .i64 a0_4], .int .i64 a1] => bif ctsEq g0 ([.int .i64]) && ctsEq g1 ([.int .i64]) && ctsEq g2 ([.int .i64, .int .i64]) && ctsEq g3 ([.sl [.int .i64], .int .i64, .bool, .int .i64, .int .i64, .int .i64, .int .i64, .int .i64, .int .i64]) then some (q78 a0_0 a0_1 a0_2 a0_3 a0_4 a1, AV.int .i64 (v78_0 a0_0 a0_1 a0_2 a0_3 a0_4 a1)) else none
  | _ => none
theorem k78 : Known Try.prog 78 := ⟨Try.f78, Try.func78, by kernel_rfl, by kernel_rfl⟩
theorem meets78 : Meets Try.prog 78 m78 := by
  refine meet (f := Try.f78) (l := [(0, sub [1, 1, 1, 0, 1, 0, 0] (body Try.f78))]) (hs := [(78, 0, [1, 6, 7, 28, 29, 30]), (78, 999, [4]), (78, 1000, []), (78, 1001, [1, 6, 7, 28, 29, 30])]) (ts := [(72, m72), (116, m116)]) (ws := []) (is := []) (ls := [(78, 0, l78_0)]) (lvl := 0) mixed k78 Try.func78 (by kernel_rfl) (loops_cons ok78_0 noLoop) (allT_cons meets72 (allT_cons meets116 allT_nil)) allM_nil noI fun w xs us r hl hv h => ?_
  unfold m78 at h
  split at h
  · rename_i g0 a0_0 g1 a0_1 g2 a0_2 g3 a0_3 a0_4 a1
    obtain ⟨hg, h⟩ := bif_pair h
    simp only [Bool.and_eq_true] at hg
    obtain ⟨⟨⟨q0, q1⟩, q2⟩, q3⟩ := hg
    obtain rfl := ctsEq_eq _ _ q0
    obtain rfl := ctsEq_eq _ _ q1
    obtain rfl := ctsEq_eq _ _ q2
    obtain rfl := ctsEq_eq _ _ q3
    obtain ⟨h1, rfl⟩ := pair_inj h
    exact r78 a0_0 a0_1 a0_2 a0_3 a0_4 a1 h1
  · cases h

/-! ### 24 loop.example/g01984/impl.Blocker -/
noncomputable def c24 : Cfg := cfg Try.prog [(24, 999, [4])] [(20, m20), (77, m77), (78, m78)] [] [] []
def q24 (a0_0 : List AV) (a0_1 : List AV) (a0_2 : List AV) (a0_3 : List AV) (a0_4 : Int) (a1 : Int) : Bool := (q20 a0_0 a0_1 a0_2 a0_3 a0_4 && (bif !(v20_0 a0_0 a0_1 a0_2 a0_3 a0_4) then true else (bif decide (a1 < 0) then true else (bif decide (a1 ≥ (a0_3.length : Int)) then true else ((decide (0 ≤ a1) && decide (a1 < (a0_3.length : Int))) && (bif fB (a0_3.getD a1.toNat AV.undef) 2 then true else (bif decide (fI (a0_3.getD a1.toNat AV.undef) 1 = ((fL (a0_3.getD a1.toNat AV.undef) 0).length : Int)) then true else ((decide (0 ≤ fI (a0_3.getD a1.toNat AV.undef) 1) && decide (fI (a0_3.getD a1.toNat AV.undef) 1 < ((fL (a0_3.getD a1.toNat AV.undef) 0).length : Int))) && (q77 a0_0 a0_1 a0_2 (fI ((fL (a0_3.getD a1.toNat AV.undef) 0).getD (fI (a0_3.getD a1.toNat AV.undef) 1).toNat AV.undef) 0) && (bif (v77_0 a0_0 a0_1 a0_2 (fI ((fL (a0_3.getD a1.toNat AV.undef) 0).getD (fI (a0_3.getD a1.toNat AV.undef) 1).toNat AV.undef) 0)) then true else q78 a0_0 a0_1 a0_2 a0_3 a0_4 a1))))))))))
def v24_0 (a0_0 : List AV) (a0_1 : List AV) (a0_2 : List AV) (a0_3 : List AV) (a0_4 : Int) (a1 : Int) : Int := (bif !(v20_0 a0_0 a0_1 a0_2 a0_3 a0_4) then (-1) else (bif decide (a1 < 0) then (-1) else (bif decide (a1 ≥ (a0_3.length : Int)) then (-1) else (bif fB (a0_3.getD a1.toNat AV.undef) 2 then (-1) else (bif decide (fI (a0_3.getD a1.toNat AV.undef) 1 = ((fL (a0_3.getD a1.toNat AV.undef) 0).length : Int)) then (-1) else (bif (v77_0 a0_0 a0_1 a0_2 (fI ((fL (a0_3.getD a1.toNat AV.undef) 0).getD (fI (a0_3.getD a1.toNat AV.undef) 1).toNat AV.undef) 0)) then (-1) else (v78_0 a0_0 a0_1 a0_2 a0_3 a0_4 a1)))))))
theorem e24 (a0_0 : List AV) (a0_1 : List AV) (a0_2 : List AV) (a0_3 : List AV) (a0_4 : Int) (a1 : Int) : funA c24 0 24 [AV.agg [AV.sl [.int .i64] a0_0, AV.sl [.int .i64] a0_1, AV.sl [.int .i64, .int .i64] a0_2, AV.sl [.sl [.int .i64], .int .i64, .bool, .int .i64, .int .i64, .int .i64, .int .i64, .int .i64, .int .i64] a0_3, AV.int .i64 a0_4], AV.int .i64 a1] = (bif q20 a0_0 a0_1 a0_2 a0_3 a0_4 then (bif !(v20_0 a0_0 a0_1 a0_2 a0_3 a0_4) then some (AV.int .i64 (-1))
  else (bif decide (a1 < 0) then some (AV.int .i64 (-1))
  else (bif decide (a1 ≥ (a0_3.length : Int)) then some (AV.int .i64 (-1))
  else (bif (decide (0 ≤ a1) && decide (a1 < (a0_3.length : Int))) then (bif fB (a0_3.getD a1.toNat AV.undef) 2 then some (AV.int .i64 (-1))
  else (bif decide (fI (a0_3.getD a1.toNat AV.undef) 1 = ((fL (a0_3.getD a1.toNat AV.undef) 0).length : Int)) then some (AV.int .i64 (-1))
  else (bif (decide (0 ≤ fI (a0_3.getD a1.toNat AV.undef) 1) && decide (fI (a0_3.getD a1.toNat AV.undef) 1 < ((fL (a0_3.getD a1.toNat AV.undef) 0).length : Int))) then (bif q77 a0_0 a0_1 a0_2 (fI ((fL (a0_3.getD a1.toNat AV.undef) 0).getD (fI (a0_3.getD a1.toNat AV.undef) 1).toNat AV.undef) 0) then (bif (v77_0 a0_0 a0_1 a0_2 (fI ((fL (a0_3.getD a1.toNat AV.undef) 0).getD (fI (a0_3.getD a1.toNat AV.undef) 1).toNat AV.undef) 0)) then some (AV.int .i64 (-1))
  else (bif q78 a0_0 a0_1 a0_2 a0_3 a0_4 a1 then some (AV.int .i64 (v78_0 a0_0 a0_1 a0_2 a0_3 a0_4 a1))
  else none))
  else none)
  else none)))
  else none))))
  else none) := by kernel_rfl
theorem r24 (a0_0 : List AV) (a0_1 : List AV) (a0_2 : List AV) (a0_3 : List AV) (a0_4 : Int) (a1 : Int) (h : q24 a0_0 a0_1 a0_2 a0_3 a0_4 a1 = true) : funA c24 0 24 [AV.agg [AV.sl [.int .i64] a0_0, AV.sl [.int .i64] a0_1, AV.sl [.int .i64, .int .i64] a0_2, AV.sl [.sl [.int .i64], .int .i64, .bool, .int .i64, .int .i64, .int .i64, .int .i64, .int .i64, .int .i64] a0_3, AV.int .i64 a0_4], AV.int .i64 a1] = some (AV.int .i64 (v24_0 a0_0 a0_1 a0_2 a0_3 a0_4 a1)) := (e24 a0_0 a0_1 a0_2 a0_3 a0_4 a1).trans ((brL (br (fun b => some (AV.int .i64 (bif b then (-1) else (bif decide (a1 < 0) then (-1) else (bif decide (a1 ≥ (a0_3.length : Int)) then (-1) else (bif fB (a0_3.getD a1.toNat AV.undef) 2 then (-1) else (bif decide (fI (a0_3.getD a1.toNat AV.undef) 1 = ((fL (a0_3.getD a1.toNat AV.undef) 0).length : Int)) then (-1) else (bif (v77_0 a0_0 a0_1 a0_2 (fI ((fL (a0_3.getD a1.toNat AV.undef) 0).getD (fI (a0_3.getD a1.toNat AV.undef) 1).toNat AV.undef) 0)) then (-1) else (v78_0 a0_0 a0_1 a0_2 a0_3 a0_4 a1))))))))) (fun _ => rfl) (br (fun b => some (AV.int .i64 (bif b then (-1) else (bif decide (a1 ≥ (a0_3.length : Int)) then (-1) else (bif fB (a0_3.getD a1.toNat AV.undef) 2 then (-1) else (bif decide (fI (a0_3.getD a1.toNat AV.undef) 1 = ((fL (a0_3.getD a1.toNat AV.undef) 0).length : Int)) then (-1) else (bif (v77_0 a0_0 a0_1 a0_2 (fI ((fL (a0_3.getD a1.toNat AV.undef) 0).getD (fI (a0_3.getD a1.toNat AV.undef) 1).toNat AV.undef) 0)) then (-1) else (v78_0 a0_0 a0_1 a0_2 a0_3 a0_4 a1)))))))) (fun _ => rfl) (br (fun b => some (AV.int .i64 (bif b then (-1) else (bif fB (a0_3.getD a1.toNat AV.undef) 2 then (-1) else (bif decide (fI (a0_3.getD a1.toNat AV.undef) 1 = ((fL (a0_3.getD a1.toNat AV.undef) 0).length : Int)) then (-1) else (bif (v77_0 a0_0 a0_1 a0_2 (fI ((fL (a0_3.getD a1.toNat AV.undef) 0).getD (fI (a0_3.getD a1.toNat AV.undef) 1).toNat AV.undef) 0)) then (-1) else (v78_0 a0_0 a0_1 a0_2 a0_3 a0_4 a1))))))) (fun _ => rfl) (brL (br (fun b => some (AV.int .i64 (bif b then (-1) else (bif decide (fI (a0_3.getD a1.toNat AV.undef) 1 = ((fL (a0_3.getD a1.toNat AV.undef) 0).length : Int)) then (-1) else (bif (v77_0 a0_0 a0_1 a0_2 (fI ((fL (a0_3.getD a1.toNat AV.undef) 0).getD (fI (a0_3.getD a1.toNat AV.undef) 1).toNat AV.undef) 0)) then (-1) else (v78_0 a0_0 a0_1 a0_2 a0_3 a0_4 a1)))))) (fun _ => rfl) (br (fun b => some (AV.int .i64 (bif b then (-1) else (bif (v77_0 a0_0 a0_1 a0_2 (fI ((fL (a0_3.getD a1.toNat AV.undef) 0).getD (fI (a0_3.getD a1.toNat AV.undef) 1).toNat AV.undef) 0)) then (-1) else (v78_0 a0_0 a0_1 a0_2 a0_3 a0_4 a1))))) (fun _ => rfl) (brL (brL (br (fun b => some (AV.int .i64 (bif b then (-1) else (v78_0 a0_0 a0_1 a0_2 a0_3 a0_4 a1)))) (fun _ => rfl) (brL1 (fun _ => rfl)))))))))))) h)
def m24 : TModel
  | [.agg [.sl g0 a0_0, .sl g1 a0_1, .sl g2 a0_2, .sl g3 a0_3, .int .i64 a0_4], .int .i64 a1] => bif ctsEq g0 ([.int .i64]) && ctsEq g1 ([.int .i64]) && ctsEq g2 ([.int .i64, .int .i64]) && ctsEq g3 ([.sl [.int .i64], .int .i64, .bool, .int .i64, .int .i64, .int .i64, .int .i64, .int .i64, .int .i64]) then some (q24 a0_0 a0_1 a0_2 a0_3 a0_4 a1, AV.int .i64 (v24_0 a0_0 a0_1 a0_2 a0_3 a0_4 a1)) else none
  | _ => none
theorem k24 : Known Try.prog 24 := ⟨Try.f24, Try.func24, by kernel_rfl, by kernel_rfl⟩
theorem meets24 : Meets Try.prog 24 m24 := by
  refine meet (f := Try.f24) (l := []) (hs := [(24, 999, [4])]) (ts := [(20, m20), (77, m77), (78, m78)]) (ws := []) (is := []) (ls := []) (lvl := 0) mixed k24 Try.func24 (by kernel_rfl) noLoop (allT_cons meets20 (allT_cons meets77 (allT_cons meets78 allT_nil))) allM_nil noI fun w xs us r hl hv h => ?_
  unfold m24 at h
  split at h
  · rename_i g0 a0_0 g1 a0_1 g2 a0_2 g3 a0_3 a0_4 a1
    obtain ⟨hg, h⟩ := bif_pair h
    simp only [Bool.and_eq_true] at hg
    obtain ⟨⟨⟨q0, q1⟩, q2⟩, q3⟩ := hg
    obtain rfl := ctsEq_eq _ _ q0
    obtain rfl := ctsEq_eq _ _ q1
    obtain rfl := ctsEq_eq _ _ q2
    obtain rfl := ctsEq_eq _ _ q3
    obtain ⟨h1, rfl⟩ := pair_inj h
    exact r24 a0_0 a0_1 a0_2 a0_3 a0_4 a1 h1
  · cases h

/-! ### 30 loop.example/g01984/laws.eqIntS -/
def F30_0 (t0 : List AV) (t1 : List AV) (t5 : Int) : Out (Int) (Unit ⊕ Unit) := (bif decide (t5 < (t0.length : Int)) then (bif (decide (0 ≤ t5) && decide (t5 < (t0.length : Int))) then (bif (decide (0 ≤ t5) && decide (t5 < (t1.length : Int))) then (bif !decide (fI (t0.getD t5.toNat AV.undef) 0 = fI (t1.getD t5.toNat AV.undef) 0) then .stop (.inr ())
  else .next (IntKind.i64.wrap (t5 + 1)))
  else .fail)
  else .fail)
  else .stop (.inl ()))
def R30_0 (t0 : List AV) (t1 : List AV) : (Int) → Out (Int) (Unit ⊕ Unit) := fun s : Int => F30_0 t0 t1 s
def l30_0 : LModel := fun _ _ st k => match st with
  | ⟨[(0, .sl g0 t0), (1, .sl g1 t1), (5, .int .i64 t5)], []⟩ => bif ctsEq g0 ([.int .i64]) && ctsEq g1 ([.int .i64]) then ro (runW (R30_0 t0 t1) (((t0.length : Int) - t5).toNat + 1) t5) none (sumE (fun _ : Unit => k (.exit 0) ⟨[], []⟩) (fun _ : Unit => k .ret ⟨[(4, AV.bool false)], []⟩)) else none
  | _ => none
noncomputable def c30 : Cfg := cfg Try.prog [(30, 0, [0, 1, 5]), (30, 999, [4]), (30, 1000, []), (30, 1001, [0, 1, 5])] [] [] [] [(30, 0, l30_0)]
theorem s30_0 (ce : CallE) (t0 : List AV) (t1 : List AV) (t5 : Int) (next : St → Option AV) (k : Kont) : stepA (codeA c30 ce [] 30 0 (sub [1, 1, 0, 1, 0, 0] (body Try.f30))) (normA [] [0, 1, 5]) next ⟨[(0, AV.sl [.int .i64] t0), (1, AV.sl [.int .i64] t1), (5, AV.int .i64 t5)], []⟩ k = (bif decide (t5 < (t0.length : Int)) then (bif (decide (0 ≤ t5) && decide (t5 < (t0.length : Int))) then (bif (decide (0 ≤ t5) && decide (t5 < (t1.length : Int))) then (bif !decide (fI (t0.getD t5.toNat AV.undef) 0 = fI (t1.getD t5.toNat AV.undef) 0) then k .ret ⟨[(4, AV.bool false)], []⟩
  else next ⟨[(0, AV.sl [.int .i64] t0), (1, AV.sl [.int .i64] t1), (5, AV.int .i64 (IntKind.i64.wrap (t5 + 1)))], []⟩)
  else none)
  else none)
  else k (.exit 0) ⟨[], []⟩) := by kernel_rfl
theorem st30_0 (t0 : List AV) (t1 : List AV) (ce : CallE) (k : Kont) (s : Int) (next : St → Option AV) : stepA (codeA c30 ce [] 30 0 (sub [1, 1, 0, 1, 0, 0] (body Try.f30))) (normA [] [0, 1, 5]) next ((fun s : Int => ⟨[(0, AV.sl [.int .i64] t0), (1, AV.sl [.int .i64] t1), (5, AV.int .i64 s)], []⟩) s) k = (R30_0 t0 t1 s).el none (fun s => next ((fun s : Int => ⟨[(0, AV.sl [.int .i64] t0), (1, AV.sl [.int .i64] t1), (5, AV.int .i64 s)], []⟩) s)) (sumE (fun _ : Unit => k (.exit 0) ⟨[], []⟩) (fun _ : Unit => k .ret ⟨[(4, AV.bool false)], []⟩)) := (s30_0 ce t0 t1 s next k).trans (by unfold R30_0; unfold F30_0; simp only [el_cond, el_ro, el_sum, el_fail, el_next, el_stop] <;> rfl)
theorem ok30_0 {ce : CallE} : LoopOK c30 ce [] 30 0 (sub [1, 1, 0, 1, 0, 0] (body Try.f30)) := by
  intro m hm st k r h
  obtain rfl : l30_0 = m := Option.some.inj hm
  unfold l30_0 at h
  split at h
  · rename_i g0 t0 g1 t1 t5
    obtain ⟨hg, h⟩ := bif_some h
    simp only [Bool.and_eq_true] at hg
    obtain ⟨q0, q1⟩ := hg
    obtain rfl := ctsEq_eq _ _ q0
    obtain rfl := ctsEq_eq _ _ q1
    refine ⟨(((t0.length : Int) - t5).toNat + 1), ?_⟩
    rw [← h]
    exact loop_run (fun s : Int => ⟨[(0, AV.sl [.int .i64] t0), (1, AV.sl [.int .i64] t1), (5, AV.int .i64 s)], []⟩) (sumE (fun _ : Unit => k (.exit 0) ⟨[], []⟩) (fun _ : Unit => k .ret ⟨[(4, AV.bool false)], []⟩)) (st30_0 t0 t1 ce k) _ t5
  · cases h
def q30 (a0 : List AV) (a1 : List AV) : Bool := (bif !decide ((a0.length : Int) = (a1.length : Int)) then true else (ro (runW (R30_0 a0 a1) (((a0.length : Int) - 0).toNat + 1) 0) false (sumE (fun _ => true) (fun _ => true))))
def v30_0 (a0 : List AV) (a1 : List AV) : Bool := (bif !decide ((a0.length : Int) = (a1.length : Int)) then false else (ro (runW (R30_0 a0 a1) (((a0.length : Int) - 0).toNat + 1) 0) false (sumE (fun _ => true) (fun _ => false))))
theorem e30 (a0 : List AV) (a1 : List AV) : funA c30 0 30 [AV.sl [.int .i64] a0, AV.sl [.int .i64] a1] = (bif !decide ((a0.length : Int) = (a1.length : Int)) then some (AV.bool false)
  else (ro (runW (R30_0 a0 a1) (((a0.length : Int) - 0).toNat + 1) 0) none (sumE (fun _ => some (AV.bool true)) (fun _ => some (AV.bool false))))) := by kernel_rfl
theorem r30 (a0 : List AV) (a1 : List AV) (h : q30 a0 a1 = true) : funA c30 0 30 [AV.sl [.int .i64] a0, AV.sl [.int .i64] a1] = some (AV.bool (v30_0 a0 a1)) := (e30 a0 a1).trans ((br (fun b => some (AV.bool (bif b then false else (ro (runW (R30_0 a0 a1) (((a0.length : Int) - 0).toNat + 1) 0) false (sumE (fun _ => true) (fun _ => false)))))) (fun _ => rfl) (brO (fun o : Option (Unit ⊕ Unit) => some (AV.bool (ro o false (sumE (fun _ => true) (fun _ => false))))) (brS (fun o : Unit ⊕ Unit => some (AV.bool ((sumE (fun _ => true) (fun _ => false)) o))) (fun _ => (fun _ => rfl)) (fun _ => (fun _ => rfl))))) h)
def m30 : TModel
  | [.sl g0 a0, .sl g1 a1] => bif ctsEq g0 ([.int .i64]) && ctsEq g1 ([.int .i64]) then some (q30 a0 a1, AV.bool (v30_0 a0 a1)) else none
  | _ => none
theorem k30 : Known Try.prog 30 := ⟨Try.f30, Try.func30, by kernel_rfl, by kernel_rfl⟩
theorem meets30 : Meets Try.prog 30 m30 := by
  refine meet (f := Try.f30) (l := [(0, sub [1, 1, 0, 1, 0, 0] (body Try.f30))]) (hs := [(30, 0, [0, 1, 5]), (30, 999, [4]), (30, 1000, []), (30, 1001, [0, 1, 5])]) (ts := []) (ws := []) (is := []) (ls := [(30, 0, l30_0)]) (lvl := 0) mixed k30 Try.func30 (by kernel_rfl) (loops_cons ok30_0 noLoop) allT_nil allM_nil noI fun w xs us r hl hv h => ?_
  unfold m30 at h
  split at h
  · rename_i g0 a0 g1 a1
    obtain ⟨hg, h⟩ := bif_pair h
    simp only [Bool.and_eq_true] at hg
    obtain ⟨q0, q1⟩ := hg
    obtain rfl := ctsEq_eq _ _ q0
    obtain rfl := ctsEq_eq _ _ q1
    obtain ⟨h1, rfl⟩ := pair_inj h
    exact r30 a0 a1 h1
  · cases h

/-! ### 122 loop.example/g01984/laws.eqPivot -/
noncomputable def c122 : Cfg := cfg Try.prog [(122, 999, [4])] [] [] [] []
def q122 (a0_0 : Int) (a0_1 : Int) (a1_0 : Int) (a1_1 : Int) : Bool := true
def v122_0 (a0_0 : Int) (a0_1 : Int) (a1_0 : Int) (a1_1 : Int) : Bool := (bif !decide (a0_0 = a1_0) then false else (bif !decide (a0_1 = a1_1) then false else true))
theorem e122 (a0_0 : Int) (a0_1 : Int) (a1_0 : Int) (a1_1 : Int) : funA c122 0 122 [AV.agg [AV.int .i64 a0_0, AV.int .i64 a0_1], AV.agg [AV.int .i64 a1_0, AV.int .i64 a1_1]] = (bif !decide (a0_0 = a1_0) then some (AV.bool false)
  else (bif !decide (a0_1 = a1_1) then some (AV.bool false)
  else some (AV.bool true))) := by kernel_rfl
theorem r122 (a0_0 : Int) (a0_1 : Int) (a1_0 : Int) (a1_1 : Int) : funA c122 0 122 [AV.agg [AV.int .i64 a0_0, AV.int .i64 a0_1], AV.agg [AV.int .i64 a1_0, AV.int .i64 a1_1]] = some (AV.bool (v122_0 a0_0 a0_1 a1_0 a1_1)) := (e122 a0_0 a0_1 a1_0 a1_1).trans (of_tt (brT (fun b => some (AV.bool (bif b then false else (bif !decide (a0_1 = a1_1) then false else true)))) (fun _ => rfl) (brT (fun b => some (AV.bool (bif b then false else true))) (fun _ => rfl) (fun _ => rfl))))
def m122 : TModel
  | [.agg [.int .i64 a0_0, .int .i64 a0_1], .agg [.int .i64 a1_0, .int .i64 a1_1]] => some (true, AV.bool (v122_0 a0_0 a0_1 a1_0 a1_1))
  | _ => none
theorem k122 : Known Try.prog 122 := ⟨Try.f122, Try.func122, by kernel_rfl, by kernel_rfl⟩
theorem meets122 : Meets Try.prog 122 m122 := by
  refine meet (f := Try.f122) (l := []) (hs := [(122, 999, [4])]) (ts := []) (ws := []) (is := []) (ls := []) (lvl := 0) mixed k122 Try.func122 (by kernel_rfl) noLoop allT_nil allM_nil noI fun w xs us r hl hv h => ?_
  unfold m122 at h
  split at h
  · rename_i a0_0 a0_1 a1_0 a1_1
    obtain ⟨h1, rfl⟩ := pair_inj h
    exact r122 a0_0 a0_1 a1_0 a1_1
  · cases h

/-! ### 90 loop.example/g01984/laws.eqPivotS -/
def F90_0 (t0 : List AV) (t1 : List AV) (t5 : Int) : Out (Int) (Unit ⊕ Unit) := (bif decide (t5 < (t0.length : Int)) then (bif (decide (0 ≤ t5) && decide (t5 < (t0.length : Int))) then (bif (decide (0 ≤ t5) && decide (t5 < (t1.length : Int))) then (bif !(v122_0 (fI (t0.getD t5.toNat AV.undef) 0) (fI (t0.getD t5.toNat AV.undef) 1) (fI (t1.getD t5.toNat AV.undef) 0) (fI (t1.getD t5.toNat AV.undef) 1)) then .stop (.inr ())
  else .next (IntKind.i64.wrap (t5 + 1)))
  else .fail)
  else .fail)
  else .stop (.inl ()))
def R90_0 (t0 : List AV) (t1 : List AV) : (Int) → Out (Int) (Unit ⊕ Unit) := fun s : Int => F90_0 t0 t1 s
def l90_0 : LModel := fun _ _ st k => match st with
  | ⟨[(0, .sl g0 t0), (1, .sl g1 t1), (5, .int .i64 t5)], []⟩ => bif ctsEq g0 ([.int .i64, .int .i64]) && ctsEq g1 ([.int .i64, .int .i64]) then ro (runW (R90_0 t0 t1) (((t0.length : Int) - t5).toNat + 1) t5) none (sumE (fun _ : Unit => k (.exit 0) ⟨[], []⟩) (fun _ : Unit => k .ret ⟨[(4, AV.bool false)], []⟩)) else none
  | _ => none
noncomputable def c90 : Cfg := cfg Try.prog [(90, 0, [0, 1, 5]), (90, 999, [4]), (90, 1000, []), (90, 1001, [0, 1, 5])] [(122, m122)] [] [] [(90, 0, l90_0)]
theorem s90_0 (ce : CallE) (t0 : List AV) (t1 : List AV) (t5 : Int) (next : St → Option AV) (k : Kont) : stepA (codeA c90 ce [] 90 0 (sub [1, 1, 0, 1, 0, 0] (body Try.f90))) (normA [] [0, 1, 5]) next ⟨[(0, AV.sl [.int .i64, .int .i64] t0), (1, AV.sl [.int .i64, .int .i64] t1), (5, AV.int .i64 t5)], []⟩ k = (bif decide (t5 < (t0.length : Int)) then (bif (decide (0 ≤ t5) && decide (t5 < (t0.length : Int))) then (bif (decide (0 ≤ t5) && decide (t5 < (t1.length : Int))) then (bif !(v122_0 (fI (t0.getD t5.toNat AV.undef) 0) (fI (t0.getD t5.toNat AV.undef) 1) (fI (t1.getD t5.toNat AV.undef) 0) (fI (t1.getD t5.toNat AV.undef) 1)) then k .ret ⟨[(4, AV.bool false)], []⟩
  else next ⟨[(0, AV.sl [.int .i64, .int .i64] t0), (1, AV.sl [.int .i64, .int .i64] t1), (5, AV.int .i64 (IntKind.i64.wrap (t5 + 1)))], []⟩)
  else none)
  else none)
  else k (.exit 0) ⟨[], []⟩) := by kernel_rfl
theorem st90_0 (t0 : List AV) (t1 : List AV) (ce : CallE) (k : Kont) (s : Int) (next : St → Option AV) : stepA (codeA c90 ce [] 90 0 (sub [1, 1, 0, 1, 0, 0] (body Try.f90))) (normA [] [0, 1, 5]) next ((fun s : Int => ⟨[(0, AV.sl [.int .i64, .int .i64] t0), (1, AV.sl [.int .i64, .int .i64] t1), (5, AV.int .i64 s)], []⟩) s) k = (R90_0 t0 t1 s).el none (fun s => next ((fun s : Int => ⟨[(0, AV.sl [.int .i64, .int .i64] t0), (1, AV.sl [.int .i64, .int .i64] t1), (5, AV.int .i64 s)], []⟩) s)) (sumE (fun _ : Unit => k (.exit 0) ⟨[], []⟩) (fun _ : Unit => k .ret ⟨[(4, AV.bool false)], []⟩)) := (s90_0 ce t0 t1 s next k).trans (by unfold R90_0; unfold F90_0; simp only [el_cond, el_ro, el_sum, el_fail, el_next, el_stop] <;> rfl)
theorem ok90_0 {ce : CallE} : LoopOK c90 ce [] 90 0 (sub [1, 1, 0, 1, 0, 0] (body Try.f90)) := by
  intro m hm st k r h
  obtain rfl : l90_0 = m := Option.some.inj hm
  unfold l90_0 at h
  split at h
  · rename_i g0 t0 g1 t1 t5
    obtain ⟨hg, h⟩ := bif_some h
    simp only [Bool.and_eq_true] at hg
    obtain ⟨q0, q1⟩ := hg
    obtain rfl := ctsEq_eq _ _ q0
    obtain rfl := ctsEq_eq _ _ q1
    refine ⟨(((t0.length : Int) - t5).toNat + 1), ?_⟩
    rw [← h]
    exact loop_run (fun s : Int => ⟨[(0, AV.sl [.int .i64, .int .i64] t0), (1, AV.sl [.int .i64, .int .i64] t1), (5, AV.int .i64 s)], []⟩) (sumE (fun _ : Unit => k (.exit 0) ⟨[], []⟩) (fun _ : Unit => k .ret ⟨[(4, AV.bool false)], []⟩)) (st90_0 t0 t1 ce k) _ t5
  · cases h
def q90 (a0 : List AV) (a1 : List AV) : Bool := (bif !decide ((a0.length : Int) = (a1.length : Int)) then true else (ro (runW (R90_0 a0 a1) (((a0.length : Int) - 0).toNat + 1) 0) false (sumE (fun _ => true) (fun _ => true))))
def v90_0 (a0 : List AV) (a1 : List AV) : Bool := (bif !decide ((a0.length : Int) = (a1.length : Int)) then false else (ro (runW (R90_0 a0 a1) (((a0.length : Int) - 0).toNat + 1) 0) false (sumE (fun _ => true) (fun _ => false))))
theorem e90 (a0 : List AV) (a1 : List AV) : funA c90 0 90 [AV.sl [.int .i64, .int .i64] a0, AV.sl [.int .i64, .int .i64] a1] = (bif !decide ((a0.length : Int) = (a1.length : Int)) then some (AV.bool false)
  else (ro (runW (R90_0 a0 a1) (((a0.length : Int) - 0).toNat + 1) 0) none (sumE (fun _ => some (AV.bool true)) (fun _ => some (AV.bool false))))) := by kernel_rfl
theorem r90 (a0 : List AV) (a1 : List AV) (h : q90 a0 a1 = true) : funA c90 0 90 [AV.sl [.int .i64, .int .i64] a0, AV.sl [.int .i64, .int .i64] a1] = some (AV.bool (v90_0 a0 a1)) := (e90 a0 a1).trans ((br (fun b => some (AV.bool (bif b then false else (ro (runW (R90_0 a0 a1) (((a0.length : Int) - 0).toNat + 1) 0) false (sumE (fun _ => true) (fun _ => false)))))) (fun _ => rfl) (brO (fun o : Option (Unit ⊕ Unit) => some (AV.bool (ro o false (sumE (fun _ => true) (fun _ => false))))) (brS (fun o : Unit ⊕ Unit => some (AV.bool ((sumE (fun _ => true) (fun _ => false)) o))) (fun _ => (fun _ => rfl)) (fun _ => (fun _ => rfl))))) h)
def m90 : TModel
  | [.sl g0 a0, .sl g1 a1] => bif ctsEq g0 ([.int .i64, .int .i64]) && ctsEq g1 ([.int .i64, .int .i64]) then some (q90 a0 a1, AV.bool (v90_0 a0 a1)) else none
  | _ => none
theorem k90 : Known Try.prog 90 := ⟨Try.f90, Try.func90, by kernel_rfl, by kernel_rfl⟩
theorem meets90 : Meets Try.prog 90 m90 := by
  refine meet (f := Try.f90) (l := [(0, sub [1, 1, 0, 1, 0, 0] (body Try.f90))]) (hs := [(90, 0, [0, 1, 5]), (90, 999, [4]), (90, 1000, []), (90, 1001, [0, 1, 5])]) (ts := [(122, m122)]) (ws := []) (is := []) (ls := [(90, 0, l90_0)]) (lvl := 0) mixed k90 Try.func90 (by kernel_rfl) (loops_cons ok90_0 noLoop) (allT_cons meets122 allT_nil) allM_nil noI fun w xs us r hl hv h => ?_
  unfold m90 at h
  split at h
  · rename_i g0 a0 g1 a1
    obtain ⟨hg, h⟩ := bif_pair h
    simp only [Bool.and_eq_true] at hg
    obtain ⟨q0, q1⟩ := hg
    obtain rfl := ctsEq_eq _ _ q0
    obtain rfl := ctsEq_eq _ _ q1
    obtain ⟨h1, rfl⟩ := pair_inj h
    exact r90 a0 a1 h1
  · cases h

/-! ### 40 loop.example/g01984/laws.eqCracker -/
noncomputable def c40 : Cfg := cfg Try.prog [(40, 999, [4])] [(30, m30), (90, m90)] [] [] []
def q40 (a0_0 : List AV) (a0_1 : List AV) (a0_2 : List AV) (a1_0 : List AV) (a1_1 : List AV) (a1_2 : List AV) : Bool := (q30 a0_0 a1_0 && (bif !(v30_0 a0_0 a1_0) then true else (q30 a0_1 a1_1 && (bif !(v30_0 a0_1 a1_1) then true else q90 a0_2 a1_2))))
def v40_0 (a0_0 : List AV) (a0_1 : List AV) (a0_2 : List AV) (a1_0 : List AV) (a1_1 : List AV) (a1_2 : List AV) : Bool := (bif !(v30_0 a0_0 a1_0) then false else (bif !(v30_0 a0_1 a1_1) then false else (bif !(v90_0 a0_2 a1_2) then false else true)))
theorem e40 (a0_0 : List AV) (a0_1 : List AV) (a0_2 : List AV) (a1_0 : List AV) (a1_1 : List AV) (a1_2 : List AV) : funA c40 0 40 [AV.agg [AV.sl [.int .i64] a0_0, AV.sl [.int .i64] a0_1, AV.sl [.int .i64, .int .i64] a0_2], AV.agg [AV.sl [.int .i64] a1_0, AV.sl [.int .i64] a1_1, AV.sl [.int .i64, .int .i64] a1_2]] = (bif q30 a0_0 a1_0 then (bif !(v30_0 a0_0 a1_0) then some (AV.bool false)
  else (bif q30 a0_1 a1_1 then (bif !(v30_0 a0_1 a1_1) then some (AV.bool false)
  else (bif q90 a0_2 a1_2 then (bif !(v90_0 a0_2 a1_2) then some (AV.bool false)
  else some (AV.bool true))
  else none))
  else none))
  else none) := by kernel_rfl
theorem r40 (a0_0 : List AV) (a0_1 : List AV) (a0_2 : List AV) (a1_0 : List AV) (a1_1 : List AV) (a1_2 : List AV) (h : q40 a0_0 a0_1 a0_2 a1_0 a1_1 a1_2 = true) : funA c40 0 40 [AV.agg [AV.sl [.int .i64] a0_0, AV.sl [.int .i64] a0_1, AV.sl [.int .i64, .int .i64] a0_2], AV.agg [AV.sl [.int .i64] a1_0, AV.sl [.int .i64] a1_1, AV.sl [.int .i64, .int .i64] a1_2]] = some (AV.bool (v40_0 a0_0 a0_1 a0_2 a1_0 a1_1 a1_2)) := (e40 a0_0 a0_1 a0_2 a1_0 a1_1 a1_2).trans ((brL (br (fun b => some (AV.bool (bif b then false else (bif !(v30_0 a0_1 a1_1) then false else (bif !(v90_0 a0_2 a1_2) then false else true))))) (fun _ => rfl) (brL (br (fun b => some (AV.bool (bif b then false else (bif !(v90_0 a0_2 a1_2) then false else true)))) (fun _ => rfl) (brL1 (brT (fun b => some (AV.bool (bif b then false else true))) (fun _ => rfl) (fun _ => rfl))))))) h)
def m40 : TModel
  | [.agg [.sl g0 a0_0, .sl g1 a0_1, .sl g2 a0_2], .agg [.sl g3 a1_0, .sl g4 a1_1, .sl g5 a1_2]] => bif ctsEq g0 ([.int .i64]) && ctsEq g1 ([.int .i64]) && ctsEq g2 ([.int .i64, .int .i64]) && ctsEq g3 ([.int .i64]) && ctsEq g4 ([.int .i64]) && ctsEq g5 ([.int .i64, .int .i64]) then some (q40 a0_0 a0_1 a0_2 a1_0 a1_1 a1_2, AV.bool (v40_0 a0_0 a0_1 a0_2 a1_0 a1_1 a1_2)) else none
  | _ => none
theorem k40 : Known Try.prog 40 := ⟨Try.f40, Try.func40, by kernel_rfl, by kernel_rfl⟩
theorem meets40 : Meets Try.prog 40 m40 := by
  refine meet (f := Try.f40) (l := []) (hs := [(40, 999, [4])]) (ts := [(30, m30), (90, m90)]) (ws := []) (is := []) (ls := []) (lvl := 0) mixed k40 Try.func40 (by kernel_rfl) noLoop (allT_cons meets30 (allT_cons meets90 allT_nil)) allM_nil noI fun w xs us r hl hv h => ?_
  unfold m40 at h
  split at h
  · rename_i g0 a0_0 g1 a0_1 g2 a0_2 g3 a1_0 g4 a1_1 g5 a1_2
    obtain ⟨hg, h⟩ := bif_pair h
    simp only [Bool.and_eq_true] at hg
    obtain ⟨⟨⟨⟨⟨q0, q1⟩, q2⟩, q3⟩, q4⟩, q5⟩ := hg
    obtain rfl := ctsEq_eq _ _ q0
    obtain rfl := ctsEq_eq _ _ q1
    obtain rfl := ctsEq_eq _ _ q2
    obtain rfl := ctsEq_eq _ _ q3
    obtain rfl := ctsEq_eq _ _ q4
    obtain rfl := ctsEq_eq _ _ q5
    obtain ⟨h1, rfl⟩ := pair_inj h
    exact r40 a0_0 a0_1 a0_2 a1_0 a1_1 a1_2 h1
  · cases h

/-! ### 109 loop.example/g01984/laws.eqWorker -/
noncomputable def c109 : Cfg := cfg Try.prog [(109, 999, [4])] [(30, m30)] [] [] []
def q109 (a0_0 : List AV) (a0_1 : Int) (a0_2 : Bool) (a0_3 : Int) (a0_4 : Int) (a0_5 : Int) (a0_6 : Int) (a0_7 : Int) (a0_8 : Int) (a1_0 : List AV) (a1_1 : Int) (a1_2 : Bool) (a1_3 : Int) (a1_4 : Int) (a1_5 : Int) (a1_6 : Int) (a1_7 : Int) (a1_8 : Int) : Bool := q30 a0_0 a1_0
def v109_0 (a0_0 : List AV) (a0_1 : Int) (a0_2 : Bool) (a0_3 : Int) (a0_4 : Int) (a0_5 : Int) (a0_6 : Int) (a0_7 : Int) (a0_8 : Int) (a1_0 : List AV) (a1_1 : Int) (a1_2 : Bool) (a1_3 : Int) (a1_4 : Int) (a1_5 : Int) (a1_6 : Int) (a1_7 : Int) (a1_8 : Int) : Bool := (bif !(v30_0 a0_0 a1_0) then false else (bif !decide (a0_1 = a1_1) then false else (bif !(a0_2 == a1_2) then false else (bif !decide (a0_3 = a1_3) then false else (bif !decide (a0_4 = a1_4) then false else (bif !decide (a0_5 = a1_5) then false else (bif !decide (a0_6 = a1_6) then false else (bif !decide (a0_7 = a1_7) then false else (bif !decide (a0_8 = a1_8) then false else true)))))))))
theorem e109 (a0_0 : List AV) (a0_1 : Int) (a0_2 : Bool) (a0_3 : Int) (a0_4 : Int) (a0_5 : Int) (a0_6 : Int) (a0_7 : Int) (a0_8 : Int) (a1_0 : List AV) (a1_1 : Int) (a1_2 : Bool) (a1_3 : Int) (a1_4 : Int) (a1_5 : Int) (a1_6 : Int) (a1_7 : Int) (a1_8 : Int) : funA c109 0 109 [AV.agg [AV.sl [.int .i64] a0_0, AV.int .i64 a0_1, AV.bool a0_2, AV.int .i64 a0_3, AV.int .i64 a0_4, AV.int .i64 a0_5, AV.int .i64 a0_6, AV.int .i64 a0_7, AV.int .i64 a0_8], AV.agg [AV.sl [.int .i64] a1_0, AV.int .i64 a1_1, AV.bool a1_2, AV.int .i64 a1_3, AV.int .i64 a1_4, AV.int .i64 a1_5, AV.int .i64 a1_6, AV.int .i64 a1_7, AV.int .i64 a1_8]] = (bif q30 a0_0 a1_0 then (bif !(v30_0 a0_0 a1_0) then some (AV.bool false)
  else (bif !decide (a0_1 = a1_1) then some (AV.bool false)
  else (bif !(a0_2 == a1_2) then some (AV.bool false)
  else (bif !decide (a0_3 = a1_3) then some (AV.bool false)
  else (bif !decide (a0_4 = a1_4) then some (AV.bool false)
  else (bif !decide (a0_5 = a1_5) then some (AV.bool false)
  else (bif !decide (a0_6 = a1_6) then some (AV.bool false)
  else (bif !decide (a0_7 = a1_7) then some (AV.bool false)
  else (bif !decide (a0_8 = a1_8) then some (AV.bool false)
  else some (AV.bool true))))))))))
  else none) := by kernel_rfl
theorem r109 (a0_0 : List AV) (a0_1 : Int) (a0_2 : Bool) (a0_3 : Int) (a0_4 : Int) (a0_5 : Int) (a0_6 : Int) (a0_7 : Int) (a0_8 : Int) (a1_0 : List AV) (a1_1 : Int) (a1_2 : Bool) (a1_3 : Int) (a1_4 : Int) (a1_5 : Int) (a1_6 : Int) (a1_7 : Int) (a1_8 : Int) (h : q109 a0_0 a0_1 a0_2 a0_3 a0_4 a0_5 a0_6 a0_7 a0_8 a1_0 a1_1 a1_2 a1_3 a1_4 a1_5 a1_6 a1_7 a1_8 = true) : funA c109 0 109 [AV.agg [AV.sl [.int .i64] a0_0, AV.int .i64 a0_1, AV.bool a0_2, AV.int .i64 a0_3, AV.int .i64 a0_4, AV.int .i64 a0_5, AV.int .i64 a0_6, AV.int .i64 a0_7, AV.int .i64 a0_8], AV.agg [AV.sl [.int .i64] a1_0, AV.int .i64 a1_1, AV.bool a1_2, AV.int .i64 a1_3, AV.int .i64 a1_4, AV.int .i64 a1_5, AV.int .i64 a1_6, AV.int .i64 a1_7, AV.int .i64 a1_8]] = some (AV.bool (v109_0 a0_0 a0_1 a0_2 a0_3 a0_4 a0_5 a0_6 a0_7 a0_8 a1_0 a1_1 a1_2 a1_3 a1_4 a1_5 a1_6 a1_7 a1_8)) := (e109 a0_0 a0_1 a0_2 a0_3 a0_4 a0_5 a0_6 a0_7 a0_8 a1_0 a1_1 a1_2 a1_3 a1_4 a1_5 a1_6 a1_7 a1_8).trans ((brL1 (brT (fun b => some (AV.bool (bif b then false else (bif !decide (a0_1 = a1_1) then false else (bif !(a0_2 == a1_2) then false else (bif !decide (a0_3 = a1_3) then false else (bif !decide (a0_4 = a1_4) then false else (bif !decide (a0_5 = a1_5) then false else (bif !decide (a0_6 = a1_6) then false else (bif !decide (a0_7 = a1_7) then false else (bif !decide (a0_8 = a1_8) then false else true))))))))))) (fun _ => rfl) (brT (fun b => some (AV.bool (bif b then false else (bif !(a0_2 == a1_2) then false else (bif !decide (a0_3 = a1_3) then false else (bif !decide (a0_4 = a1_4) then false else (bif !decide (a0_5 = a1_5) then false else (bif !decide (a0_6 = a1_6) then false else (bif !decide (a0_7 = a1_7) then false else (bif !decide (a0_8 = a1_8) then false else true)))))))))) (fun _ => rfl) (brT (fun b => some (AV.bool (bif b then false else (bif !decide (a0_3 = a1_3) then false else (bif !decide (a0_4 = a1_4) then false else (bif !decide (a0_5 = a1_5) then false else (bif !decide (a0_6 = a1_6) then false else (bif !decide (a0_7 = a1_7) then false else (bif !decide (a0_8 = a1_8) then false else true))))))))) (fun _ => rfl) (brT (fun b => some (AV.bool (bif b then false else (bif !decide (a0_4 = a1_4) then false else (bif !decide (a0_5 = a1_5) then false else (bif !decide (a0_6 = a1_6) then false else (bif !decide (a0_7 = a1_7) then false else (bif !decide (a0_8 = a1_8) then false else true)))))))) (fun _ => rfl) (brT (fun b => some (AV.bool (bif b then false else (bif !decide (a0_5 = a1_5) then false else (bif !decide (a0_6 = a1_6) then false else (bif !decide (a0_7 = a1_7) then false else (bif !decide (a0_8 = a1_8) then false else true))))))) (fun _ => rfl) (brT (fun b => some (AV.bool (bif b then false else (bif !decide (a0_6 = a1_6) then false else (bif !decide (a0_7 = a1_7) then false else (bif !decide (a0_8 = a1_8) then false else true)))))) (fun _ => rfl) (brT (fun b => some (AV.bool (bif b then false else (bif !decide (a0_7 = a1_7) then false else (bif !decide (a0_8 = a1_8) then false else true))))) (fun _ => rfl) (brT (fun b => some (AV.bool (bif b then false else (bif !decide (a0_8 = a1_8) then false else true)))) (fun _ => rfl) (brT (fun b => some (AV.bool (bif b then false else true))) (fun _ => rfl) (fun _ => rfl))))))))))) h)
def m109 : TModel
  | [.agg [.sl g0 a0_0, .int .i64 a0_1, .bool a0_2, .int .i64 a0_3, .int .i64 a0_4, .int .i64 a0_5, .int .i64 a0_6, .int .i64 a0_7, .int .i64 a0_8], .agg [.sl g1 a1_0, .int .i64 a1_1, .bool a1_2, .int .i64 a1_3, .int .i64 a1_4, .int .i64 a1_5, .int .i64 a1_6, .int .i64 a1_7, .int .i64 a1_8]] => bif ctsEq g0 ([.int .i64]) && ctsEq g1 ([.int .i64]) then some (q109 a0_0 a0_1 a0_2 a0_3 a0_4 a0_5 a0_6 a0_7 a0_8 a1_0 a1_1 a1_2 a1_3 a1_4 a1_5 a1_6 a1_7 a1_8, AV.bool (v109_0 a0_0 a0_1 a0_2 a0_3 a0_4 a0_5 a0_6 a0_7 a0_8 a1_0 a1_1 a1_2 a1_3 a1_4 a1_5 a1_6 a1_7 a1_8)) else none
  | _ => none
theorem k109 : Known Try.prog 109 := ⟨Try.f109, Try.func109, by kernel_rfl, by kernel_rfl⟩
theorem meets109 : Meets Try.prog 109 m109 := by
  refine meet (f := Try.f109) (l := []) (hs := [(109, 999, [4])]) (ts := [(30, m30)]) (ws := []) (is := []) (ls := []) (lvl := 0) mixed k109 Try.func109 (by kernel_rfl) noLoop (allT_cons meets30 allT_nil) allM_nil noI fun w xs us r hl hv h => ?_
  unfold m109 at h
  split at h
  · rename_i g0 a0_0 a0_1 a0_2 a0_3 a0_4 a0_5 a0_6 a0_7 a0_8 g1 a1_0 a1_1 a1_2 a1_3 a1_4 a1_5 a1_6 a1_7 a1_8
    obtain ⟨hg, h⟩ := bif_pair h
    simp only [Bool.and_eq_true] at hg
    obtain ⟨q0, q1⟩ := hg
    obtain rfl := ctsEq_eq _ _ q0
    obtain rfl := ctsEq_eq _ _ q1
    obtain ⟨h1, rfl⟩ := pair_inj h
    exact r109 a0_0 a0_1 a0_2 a0_3 a0_4 a0_5 a0_6 a0_7 a0_8 a1_0 a1_1 a1_2 a1_3 a1_4 a1_5 a1_6 a1_7 a1_8 h1
  · cases h

/-! ### 65 loop.example/g01984/laws.eqWorkerS -/
def F65_0 (t0 : List AV) (t1 : List AV) (t5 : Int) : Out (Int) (Unit ⊕ Unit) := (bif decide (t5 < (t0.length : Int)) then (bif (decide (0 ≤ t5) && decide (t5 < (t0.length : Int))) then (bif (decide (0 ≤ t5) && decide (t5 < (t1.length : Int))) then (bif q109 (fL (t0.getD t5.toNat AV.undef) 0) (fI (t0.getD t5.toNat AV.undef) 1) (fB (t0.getD t5.toNat AV.undef) 2) (fI (t0.getD t5.toNat AV.undef) 3) (fI (t0.getD t5.toNat AV.undef) 4) (fI (t0.getD t5.toNat AV.undef) 5) (fI (t0.getD t5.toNat AV.undef) 6) (fI (t0.getD t5.toNat AV.undef) 7) (fI (t0.getD t5.toNat AV.undef) 8) (fL (t1.getD t5.toNat AV.undef) 0) (fI (t1.getD t5.toNat AV.undef) 1) (fB (t1.getD t5.toNat AV.undef) 2) (fI (t1.getD t5.toNat AV.undef) 3) (fI (t1.getD t5.toNat AV.undef) 4) (fI (t1.getD t5.toNat AV.undef) 5) (fI (t1.getD t5.toNat AV.undef) 6) (fI (t1.getD t5.toNat AV.undef) 7) (fI (t1.getD t5.toNat AV.undef) 8) then (bif !(v109_0 (fL (t0.getD t5.toNat AV.undef) 0) (fI (t0.getD t5.toNat AV.undef) 1) (fB (t0.getD t5.toNat AV.undef) 2) (fI (t0.getD t5.toNat AV.undef) 3) (fI (t0.getD t5.toNat AV.undef) 4) (fI (t0.getD t5.toNat AV.undef) 5) (fI (t0.getD t5.toNat AV.undef) 6) (fI (t0.getD t5.toNat AV.undef) 7) (fI (t0.getD t5.toNat AV.undef) 8) (fL (t1.getD t5.toNat AV.undef) 0) (fI (t1.getD t5.toNat AV.undef) 1) (fB (t1.getD t5.toNat AV.undef) 2) (fI (t1.getD t5.toNat AV.undef) 3) (fI (t1.getD t5.toNat AV.undef) 4) (fI (t1.getD t5.toNat AV.undef) 5) (fI (t1.getD t5.toNat AV.undef) 6) (fI (t1.getD t5.toNat AV.undef) 7) (fI (t1.getD t5.toNat AV.undef) 8)) then .stop (.inr ())
  else .next (IntKind.i64.wrap (t5 + 1)))
  else .fail)
  else .fail)
  else .fail)
  else .stop (.inl ()))
def R65_0 (t0 : List AV) (t1 : List AV) : (Int) → Out (Int) (Unit ⊕ Unit) := fun s : Int => F65_0 t0 t1 s
def l65_0 : LModel := fun _ _ st k => match st with
  | ⟨[(0, .sl g0 t0), (1, .sl g1 t1), (5, .int .i64 t5)], []⟩ => bif ctsEq g0 ([.sl [.int .i64], .int .i64, .bool, .int .i64, .int .i64, .int .i64, .int .i64, .int .i64, .int .i64]) && ctsEq g1 ([.sl [.int .i64], .int .i64, .bool, .int .i64, .int .i64, .int .i64, .int .i64, .int .i64, .int .i64]) then ro (runW (R65_0 t0 t1) (((t0.length : Int) - t5).toNat + 1) t5) none (sumE (fun _ : Unit => k (.exit 0) ⟨[], []⟩) (fun _ : Unit => k .ret ⟨[(4, AV.bool false)], []⟩)) else none
  | _ => none
noncomputable def c65 : Cfg := cfg Try.prog [(65, 0, [0, 1, 5]), (65, 999, [4]), (65, 1000, []), (65, 1001, [0, 1, 5])] [(109, m109)] [] [] [(65, 0, l65_0)]
theorem s65_0 (ce : CallE) (t0 : List AV) (t1 : List AV) (t5 : Int) (next : St → Option AV) (k : Kont) : stepA (codeA c65 ce [] 65 0 (sub [1, 1, 0, 1, 0, 0] (body Try.f65))) (normA [] [0, 1, 5]) next ⟨[(0, AV.sl [.sl [.int .i64], .int .i64, .bool, .int .i64, .int .i64, .int .i64, .int .i64, .int .i64, .int .i64] t0), (1, AV.sl [.sl [.int .i64], .int .i64, .bool, .int .i64, .int .i64, .int .i64, .int .i64, .int .i64, .int .i64] t1), (5, AV.int .i64 t5)], []⟩ k = (bif decide (t5 < (t0.length : Int)) then (bif (decide (0 ≤ t5) && decide (t5 < (t0.length : Int))) then (bif (decide (0 ≤ t5) && decide (t5 < (t1.length : Int))) then (bif q109 (fL (t0.getD t5.toNat AV.undef) 0) (fI (t0.getD t5.toNat AV.undef) 1) (fB (t0.getD t5.toNat AV.undef) 2) (fI (t0.getD t5.toNat AV.undef) 3) (fI (t0.getD t5.toNat AV.undef) 4) (fI (t0.getD t5.toNat AV.undef) 5) (fI (t0.getD t5.toNat AV.undef) 6) (fI (t0.getD t5.toNat AV.undef) 7) (fI (t0.getD t5.toNat AV.undef) 8) (fL (t1.getD t5.toNat AV.undef) 0) (fI (t1.getD t5.toNat AV.undef) 1) (fB (t1.getD t5.toNat AV.undef) 2) (fI (t1.getD t5.toNat AV.undef) 3) (fI (t1.getD t5.toNat AV.undef) 4) (fI (t1.getD t5.toNat AV.undef) 5) (fI (t1.getD t5.toNat AV.undef) 6) (fI (t1.getD t5.toNat AV.undef) 7) (fI (t1.getD t5.toNat AV.undef) 8) then (bif !(v109_0 (fL (t0.getD t5.toNat AV.undef) 0) (fI (t0.getD t5.toNat AV.undef) 1) (fB (t0.getD t5.toNat AV.undef) 2) (fI (t0.getD t5.toNat AV.undef) 3) (fI (t0.getD t5.toNat AV.undef) 4) (fI (t0.getD t5.toNat AV.undef) 5) (fI (t0.getD t5.toNat AV.undef) 6) (fI (t0.getD t5.toNat AV.undef) 7) (fI (t0.getD t5.toNat AV.undef) 8) (fL (t1.getD t5.toNat AV.undef) 0) (fI (t1.getD t5.toNat AV.undef) 1) (fB (t1.getD t5.toNat AV.undef) 2) (fI (t1.getD t5.toNat AV.undef) 3) (fI (t1.getD t5.toNat AV.undef) 4) (fI (t1.getD t5.toNat AV.undef) 5) (fI (t1.getD t5.toNat AV.undef) 6) (fI (t1.getD t5.toNat AV.undef) 7) (fI (t1.getD t5.toNat AV.undef) 8)) then k .ret ⟨[(4, AV.bool false)], []⟩
  else next ⟨[(0, AV.sl [.sl [.int .i64], .int .i64, .bool, .int .i64, .int .i64, .int .i64, .int .i64, .int .i64, .int .i64] t0), (1, AV.sl [.sl [.int .i64], .int .i64, .bool, .int .i64, .int .i64, .int .i64, .int .i64, .int .i64, .int .i64] t1), (5, AV.int .i64 (IntKind.i64.wrap (t5 + 1)))], []⟩)
  else none)
  else none)
  else none)
  else k (.exit 0) ⟨[], []⟩) := by kernel_rfl
theorem st65_0 (t0 : List AV) (t1 : List AV) (ce : CallE) (k : Kont) (s : Int) (next : St → Option AV) : stepA (codeA c65 ce [] 65 0 (sub [1, 1, 0, 1, 0, 0] (body Try.f65))) (normA [] [0, 1, 5]) next ((fun s : Int => ⟨[(0, AV.sl [.sl [.int .i64], .int .i64, .bool, .int .i64, .int .i64, .int .i64, .int .i64, .int .i64, .int .i64] t0), (1, AV.sl [.sl [.int .i64], .int .i64, .bool, .int .i64, .int .i64, .int .i64, .int .i64, .int .i64, .int .i64] t1), (5, AV.int .i64 s)], []⟩) s) k = (R65_0 t0 t1 s).el none (fun s => next ((fun s : Int => ⟨[(0, AV.sl [.sl [.int .i64], .int .i64, .bool, .int .i64, .int .i64, .int .i64, .int .i64, .int .i64, .int .i64] t0), (1, AV.sl [.sl [.int .i64], .int .i64, .bool, .int .i64, .int .i64, .int .i64, .int .i64, .int .i64, .int .i64] t1), (5, AV.int .i64 s)], []⟩) s)) (sumE (fun _ : Unit => k (.exit 0) ⟨[], []⟩) (fun _ : Unit => k .ret ⟨[(4, AV.bool false)], []⟩)) := (s65_0 ce t0 t1 s next k).trans (by unfold R65_0; unfold F65_0; simp only [el_cond, el_ro, el_sum, el_fail, el_next, el_stop] <;> rfl)
theorem ok65_0 {ce : CallE} : LoopOK c65 ce [] 65 0 (sub [1, 1, 0, 1, 0, 0] (body Try.f65)) := by
  intro m hm st k r h
  obtain rfl : l65_0 = m := Option.some.inj hm
  unfold l65_0 at h
  split at h
  · rename_i g0 t0 g1 t1 t5
    obtain ⟨hg, h⟩ := bif_some h
    simp only [Bool.and_eq_true] at hg
    obtain ⟨q0, q1⟩ := hg
    obtain rfl := ctsEq_eq _ _ q0
    obtain rfl := ctsEq_eq _ _ q1
    refine ⟨(((t0.length : Int) - t5).toNat + 1), ?_⟩
    rw [← h]
    exact loop_run (fun s : Int => ⟨[(0, AV.sl [.sl [.int .i64], .int .i64, .bool, .int .i64, .int .i64, .int .i64, .int .i64, .int .i64, .int .i64] t0), (1, AV.sl [.sl [.int .i64], .int .i64, .bool, .int .i64, .int .i64, .int .i64, .int .i64, .int .i64, .int .i64] t1), (5, AV.int .i64 s)], []⟩) (sumE (fun _ : Unit => k (.exit 0) ⟨[], []⟩) (fun _ : Unit => k .ret ⟨[(4, AV.bool false)], []⟩)) (st65_0 t0 t1 ce k) _ t5
  · cases h
def q65 (a0 : List AV) (a1 : List AV) : Bool := (bif !decide ((a0.length : Int) = (a1.length : Int)) then true else (ro (runW (R65_0 a0 a1) (((a0.length : Int) - 0).toNat + 1) 0) false (sumE (fun _ => true) (fun _ => true))))
def v65_0 (a0 : List AV) (a1 : List AV) : Bool := (bif !decide ((a0.length : Int) = (a1.length : Int)) then false else (ro (runW (R65_0 a0 a1) (((a0.length : Int) - 0).toNat + 1) 0) false (sumE (fun _ => true) (fun _ => false))))
theorem e65 (a0 : List AV) (a1 : List AV) : funA c65 0 65 [AV.sl [.sl [.int .i64], .int .i64, .bool, .int .i64, .int .i64, .int .i64, .int .i64, .int .i64, .int .i64] a0, AV.sl [.sl [.int .i64], .int .i64, .bool, .int .i64, .int .i64, .int .i64, .int .i64, .int .i64, .int .i64] a1] = (bif !decide ((a0.length : Int) = (a1.length : Int)) then some (AV.bool false)
  else (ro (runW (R65_0 a0 a1) (((a0.length : Int) - 0).toNat + 1) 0) none (sumE (fun _ => some (AV.bool true)) (fun _ => some (AV.bool false))))) := by kernel_rfl
theorem r65 (a0 : List AV) (a1 : List AV) (h : q65 a0 a1 = true) : funA c65 0 65 [AV.sl [.sl [.int .i64], .int .i64, .bool, .int .i64, .int .i64, .int .i64, .int .i64, .int .i64, .int .i64] a0, AV.sl [.sl [.int .i64], .int .i64, .bool, .int .i64, .int .i64, .int .i64, .int .i64, .int .i64, .int .i64] a1] = some (AV.bool (v65_0 a0 a1)) := (e65 a0 a1).trans ((br (fun b => some (AV.bool (bif b then false else (ro (runW (R65_0 a0 a1) (((a0.length : Int) - 0).toNat + 1) 0) false (sumE (fun _ => true) (fun _ => false)))))) (fun _ => rfl) (brO (fun o : Option (Unit ⊕ Unit) => some (AV.bool (ro o false (sumE (fun _ => true) (fun _ => false))))) (brS (fun o : Unit ⊕ Unit => some (AV.bool ((sumE (fun _ => true) (fun _ => false)) o))) (fun _ => (fun _ => rfl)) (fun _ => (fun _ => rfl))))) h)
def m65 : TModel
  | [.sl g0 a0, .sl g1 a1] => bif ctsEq g0 ([.sl [.int .i64], .int .i64, .bool, .int .i64, .int .i64, .int .i64, .int .i64, .int .i64, .int .i64]) && ctsEq g1 ([.sl [.int .i64], .int .i64, .bool, .int .i64, .int .i64, .int .i64, .int .i64, .int .i64, .int .i64]) then some (q65 a0 a1, AV.bool (v65_0 a0 a1)) else none
  | _ => none
theorem k65 : Known Try.prog 65 := ⟨Try.f65, Try.func65, by kernel_rfl, by kernel_rfl⟩
theorem meets65 : Meets Try.prog 65 m65 := by
  refine meet (f := Try.f65) (l := [(0, sub [1, 1, 0, 1, 0, 0] (body Try.f65))]) (hs := [(65, 0, [0, 1, 5]), (65, 999, [4]), (65, 1000, []), (65, 1001, [0, 1, 5])]) (ts := [(109, m109)]) (ws := []) (is := []) (ls := [(65, 0, l65_0)]) (lvl := 0) mixed k65 Try.func65 (by kernel_rfl) (loops_cons ok65_0 noLoop) (allT_cons meets109 allT_nil) allM_nil noI fun w xs us r hl hv h => ?_
  unfold m65 at h
  split at h
  · rename_i g0 a0 g1 a1
    obtain ⟨hg, h⟩ := bif_pair h
    simp only [Bool.and_eq_true] at hg
    obtain ⟨q0, q1⟩ := hg
    obtain rfl := ctsEq_eq _ _ q0
    obtain rfl := ctsEq_eq _ _ q1
    obtain ⟨h1, rfl⟩ := pair_inj h
    exact r65 a0 a1 h1
  · cases h

/-! ### 18 loop.example/g01984/laws.eqBoard -/
noncomputable def c18 : Cfg := cfg Try.prog [(18, 999, [4])] [(40, m40), (65, m65)] [] [] []
def q18 (a0_0 : List AV) (a0_1 : List AV) (a0_2 : List AV) (a0_3 : List AV) (a0_4 : Int) (a1_0 : List AV) (a1_1 : List AV) (a1_2 : List AV) (a1_3 : List AV) (a1_4 : Int) : Bool := (q40 a0_0 a0_1 a0_2 a1_0 a1_1 a1_2 && (bif !(v40_0 a0_0 a0_1 a0_2 a1_0 a1_1 a1_2) then true else q65 a0_3 a1_3))
def v18_0 (a0_0 : List AV) (a0_1 : List AV) (a0_2 : List AV) (a0_3 : List AV) (a0_4 : Int) (a1_0 : List AV) (a1_1 : List AV) (a1_2 : List AV) (a1_3 : List AV) (a1_4 : Int) : Bool := (bif !(v40_0 a0_0 a0_1 a0_2 a1_0 a1_1 a1_2) then false else (bif !(v65_0 a0_3 a1_3) then false else (bif !decide (a0_4 = a1_4) then false else true)))
theorem e18 (a0_0 : List AV) (a0_1 : List AV) (a0_2 : List AV) (a0_3 : List AV) (a0_4 : Int) (a1_0 : List AV) (a1_1 : List AV) (a1_2 : List AV) (a1_3 : List AV) (a1_4 : Int) : funA c18 0 18 [AV.agg [AV.sl [.int .i64] a0_0, AV.sl [.int .i64] a0_1, AV.sl [.int .i64, .int .i64] a0_2, AV.sl [.sl [.int .i64], .int .i64, .bool, .int .i64, .int .i64, .int .i64, .int .i64, .int .i64, .int .i64] a0_3, AV.int .i64 a0_4], AV.agg [AV.sl [.int .i64] a1_0, AV.sl [.int .i64] a1_1, AV.sl [.int .i64, .int .i64] a1_2, AV.sl [.sl [.int .i64], .int .i64, .bool, .int .i64, .int .i64, .int .i64, .int .i64, .int .i64, .int .i64] a1_3, AV.int .i64 a1_4]] = (bif q40 a0_0 a0_1 a0_2 a1_0 a1_1 a1_2 then (bif !(v40_0 a0_0 a0_1 a0_2 a1_0 a1_1 a1_2) then some (AV.bool false)
  else (bif q65 a0_3 a1_3 then (bif !(v65_0 a0_3 a1_3) then some (AV.bool false)
  else (bif !decide (a0_4 = a1_4) then some (AV.bool false)
  else some (AV.bool true)))
  else none))
  else none) := by kernel_rfl
theorem r18 (a0_0 : List AV) (a0_1 : List AV) (a0_2 : List AV) (a0_3 : List AV) (a0_4 : Int) (a1_0 : List AV) (a1_1 : List AV) (a1_2 : List AV) (a1_3 : List AV) (a1_4 : Int) (h : q18 a0_0 a0_1 a0_2 a0_3 a0_4 a1_0 a1_1 a1_2 a1_3 a1_4 = true) : funA c18 0 18 [AV.agg [AV.sl [.int .i64] a0_0, AV.sl [.int .i64] a0_1, AV.sl [.int .i64, .int .i64] a0_2, AV.sl [.sl [.int .i64], .int .i64, .bool, .int .i64, .int .i64, .int .i64, .int .i64, .int .i64, .int .i64] a0_3, AV.int .i64 a0_4], AV.agg [AV.sl [.int .i64] a1_0, AV.sl [.int .i64] a1_1, AV.sl [.int .i64, .int .i64] a1_2, AV.sl [.sl [.int .i64], .int .i64, .bool, .int .i64, .int .i64, .int .i64, .int .i64, .int .i64, .int .i64] a1_3, AV.int .i64 a1_4]] = some (AV.bool (v18_0 a0_0 a0_1 a0_2 a0_3 a0_4 a1_0 a1_1 a1_2 a1_3 a1_4)) := (e18 a0_0 a0_1 a0_2 a0_3 a0_4 a1_0 a1_1 a1_2 a1_3 a1_4).trans ((brL (br (fun b => some (AV.bool (bif b then false else (bif !(v65_0 a0_3 a1_3) then false else (bif !decide (a0_4 = a1_4) then false else true))))) (fun _ => rfl) (brL1 (brT (fun b => some (AV.bool (bif b then false else (bif !decide (a0_4 = a1_4) then false else true)))) (fun _ => rfl) (brT (fun b => some (AV.bool (bif b then false else true))) (fun _ => rfl) (fun _ => rfl)))))) h)
def m18 : TModel
  | [.agg [.sl g0 a0_0, .sl g1 a0_1, .sl g2 a0_2, .sl g3 a0_3, .int .i64 a0_4], .agg [.sl g4 a1_0, .sl g5 a1_1, .sl g6 a1_2, .sl g7 a1_3, .int .i64 a1_4]] => bif ctsEq g0 ([.int .i64]) && ctsEq g1 ([.int .i64]) && ctsEq g2 ([.int .i64, .int .i64]) && ctsEq g3 ([.sl [.int .i64], .int .i64, .bool, .int .i64, .int .i64, .int .i64, .int .i64, .int .i64, .int .i64]) && ctsEq g4 ([.int .i64]) && ctsEq g5 ([.int .i64]) && ctsEq g6 ([.int .i64, .int .i64]) && ctsEq g7 ([.sl [.int .i64], .int .i64, .bool, .int .i64, .int .i64, .int .i64, .int .i64, .int .i64, .int .i64]) then some (q18 a0_0 a0_1 a0_2 a0_3 a0_4 a1_0 a1_1 a1_2 a1_3 a1_4, AV.bool (v18_0 a0_0 a0_1 a0_2 a0_3 a0_4 a1_0 a1_1 a1_2 a1_3 a1_4)) else none
  | _ => none
theorem k18 : Known Try.prog 18 := ⟨Try.f18, Try.func18, by kernel_rfl, by kernel_rfl⟩
theorem meets18 : Meets Try.prog 18 m18 := by
  refine meet (f := Try.f18) (l := []) (hs := [(18, 999, [4])]) (ts := [(40, m40), (65, m65)]) (ws := []) (is := []) (ls := []) (lvl := 0) mixed k18 Try.func18 (by kernel_rfl) noLoop (allT_cons meets40 (allT_cons meets65 allT_nil)) allM_nil noI fun w xs us r hl hv h => ?_
  unfold m18 at h
  split at h
  · rename_i g0 a0_0 g1 a0_1 g2 a0_2 g3 a0_3 a0_4 g4 a1_0 g5 a1_1 g6 a1_2 g7 a1_3 a1_4
    obtain ⟨hg, h⟩ := bif_pair h
    simp only [Bool.and_eq_true] at hg
    obtain ⟨⟨⟨⟨⟨⟨⟨q0, q1⟩, q2⟩, q3⟩, q4⟩, q5⟩, q6⟩, q7⟩ := hg
    obtain rfl := ctsEq_eq _ _ q0
    obtain rfl := ctsEq_eq _ _ q1
    obtain rfl := ctsEq_eq _ _ q2
    obtain rfl := ctsEq_eq _ _ q3
    obtain rfl := ctsEq_eq _ _ q4
    obtain rfl := ctsEq_eq _ _ q5
    obtain rfl := ctsEq_eq _ _ q6
    obtain rfl := ctsEq_eq _ _ q7
    obtain ⟨h1, rfl⟩ := pair_inj h
    exact r18 a0_0 a0_1 a0_2 a0_3 a0_4 a1_0 a1_1 a1_2 a1_3 a1_4 h1
  · cases h

/-! ### 6 loop.example/g01984/laws.FnExactBlocker -/
noncomputable def c6 : Cfg := cfg Try.prog [(6, 999, [4])] [(14, m14), (16, m16), (18, m18), (23, m23), (24, m24)] [] [] []
def raw6 (a0_0 : List AV) (a0_1 : List AV) (a0_2 : List AV) (a0_3 : List AV) (a0_4 : Int) (a1 : Int) : Option AV := (bif q14 a0_0 a0_1 a0_2 a0_3 a0_4 1048576 then (bif decide ((v14_0 a0_0 a0_1 a0_2 a0_3 a0_4 1048576) < 0) then some (AV.bool true)
  else (bif q16 a0_0 a0_1 a0_2 a0_3 a0_4 then (bif q23 (v16_0 a0_0 a0_1 a0_2 a0_3 a0_4) (v16_1 a0_0 a0_1 a0_2 a0_3 a0_4) (v16_2 a0_0 a0_1 a0_2 a0_3 a0_4) (v16_3 a0_0 a0_1 a0_2 a0_3 a0_4) (v16_4 a0_0 a0_1 a0_2 a0_3 a0_4) a1 then (bif q16 a0_0 a0_1 a0_2 a0_3 a0_4 then (bif q24 (v16_0 a0_0 a0_1 a0_2 a0_3 a0_4) (v16_1 a0_0 a0_1 a0_2 a0_3 a0_4) (v16_2 a0_0 a0_1 a0_2 a0_3 a0_4) (v16_3 a0_0 a0_1 a0_2 a0_3 a0_4) (v16_4 a0_0 a0_1 a0_2 a0_3 a0_4) a1 then (bif !decide ((v24_0 (v16_0 a0_0 a0_1 a0_2 a0_3 a0_4) (v16_1 a0_0 a0_1 a0_2 a0_3 a0_4) (v16_2 a0_0 a0_1 a0_2 a0_3 a0_4) (v16_3 a0_0 a0_1 a0_2 a0_3 a0_4) (v16_4 a0_0 a0_1 a0_2 a0_3 a0_4) a1) = (v23_0 (v16_0 a0_0 a0_1 a0_2 a0_3 a0_4) (v16_1 a0_0 a0_1 a0_2 a0_3 a0_4) (v16_2 a0_0 a0_1 a0_2 a0_3 a0_4) (v16_3 a0_0 a0_1 a0_2 a0_3 a0_4) (v16_4 a0_0 a0_1 a0_2 a0_3 a0_4) a1)) then some (AV.bool false)
  else (bif q16 a0_0 a0_1 a0_2 a0_3 a0_4 then (bif q18 (v16_0 a0_0 a0_1 a0_2 a0_3 a0_4) (v16_1 a0_0 a0_1 a0_2 a0_3 a0_4) (v16_2 a0_0 a0_1 a0_2 a0_3 a0_4) (v16_3 a0_0 a0_1 a0_2 a0_3 a0_4) (v16_4 a0_0 a0_1 a0_2 a0_3 a0_4) (v16_0 a0_0 a0_1 a0_2 a0_3 a0_4) (v16_1 a0_0 a0_1 a0_2 a0_3 a0_4) (v16_2 a0_0 a0_1 a0_2 a0_3 a0_4) (v16_3 a0_0 a0_1 a0_2 a0_3 a0_4) (v16_4 a0_0 a0_1 a0_2 a0_3 a0_4) then (bif !(v18_0 (v16_0 a0_0 a0_1 a0_2 a0_3 a0_4) (v16_1 a0_0 a0_1 a0_2 a0_3 a0_4) (v16_2 a0_0 a0_1 a0_2 a0_3 a0_4) (v16_3 a0_0 a0_1 a0_2 a0_3 a0_4) (v16_4 a0_0 a0_1 a0_2 a0_3 a0_4) (v16_0 a0_0 a0_1 a0_2 a0_3 a0_4) (v16_1 a0_0 a0_1 a0_2 a0_3 a0_4) (v16_2 a0_0 a0_1 a0_2 a0_3 a0_4) (v16_3 a0_0 a0_1 a0_2 a0_3 a0_4) (v16_4 a0_0 a0_1 a0_2 a0_3 a0_4)) then some (AV.bool false)
  else some (AV.bool true))
  else none)
  else none))
  else none)
  else none)
  else none)
  else none))
  else none)
theorem e6 (a0_0 : List AV) (a0_1 : List AV) (a0_2 : List AV) (a0_3 : List AV) (a0_4 : Int) (a1 : Int) : funA c6 0 6 [AV.agg [AV.sl [.int .i64] a0_0, AV.sl [.int .i64] a0_1, AV.sl [.int .i64, .int .i64] a0_2, AV.sl [.sl [.int .i64], .int .i64, .bool, .int .i64, .int .i64, .int .i64, .int .i64, .int .i64, .int .i64] a0_3, AV.int .i64 a0_4], AV.int .i64 a1] = raw6 a0_0 a0_1 a0_2 a0_3 a0_4 a1 := by kernel_rfl
def m6 : TModel
  | [.agg [.sl g0 a0_0, .sl g1 a0_1, .sl g2 a0_2, .sl g3 a0_3, .int .i64 a0_4], .int .i64 a1] => bif ctsEq g0 ([.int .i64]) && ctsEq g1 ([.int .i64]) && ctsEq g2 ([.int .i64, .int .i64]) && ctsEq g3 ([.sl [.int .i64], .int .i64, .bool, .int .i64, .int .i64, .int .i64, .int .i64, .int .i64, .int .i64]) then (raw6 a0_0 a0_1 a0_2 a0_3 a0_4 a1).map fun r => (true, r) else none
  | _ => none
theorem k6 : Known Try.prog 6 := ⟨Try.f6, Try.func6, by kernel_rfl, by kernel_rfl⟩
theorem meets6 : Meets Try.prog 6 m6 := by
  refine meet (f := Try.f6) (l := []) (hs := [(6, 999, [4])]) (ts := [(14, m14), (16, m16), (18, m18), (23, m23), (24, m24)]) (ws := []) (is := []) (ls := []) (lvl := 0) mixed k6 Try.func6 (by kernel_rfl) noLoop (allT_cons meets14 (allT_cons meets16 (allT_cons meets18 (allT_cons meets23 (allT_cons meets24 allT_nil))))) allM_nil noI fun w xs us r hl hv h => ?_
  unfold m6 at h
  split at h
  · rename_i g0 a0_0 g1 a0_1 g2 a0_2 g3 a0_3 a0_4 a1
    obtain ⟨hg, h⟩ := bif_pair h
    simp only [Bool.and_eq_true] at hg
    obtain ⟨⟨⟨q0, q1⟩, q2⟩, q3⟩ := hg
    obtain rfl := ctsEq_eq _ _ q0
    obtain rfl := ctsEq_eq _ _ q1
    obtain rfl := ctsEq_eq _ _ q2
    obtain rfl := ctsEq_eq _ _ q3
    obtain ⟨r', h1, h2⟩ := Option.map_eq_some_iff.1 h
    obtain ⟨_, rfl⟩ := Prod.mk.inj h2
    exact (e6 a0_0 a0_1 a0_2 a0_3 a0_4 a1).trans h1
  · cases h
end Go.Proofs.Ytdhhceamknidmaa
