/- The walk of what this claim reaches: printed by a program, each equation checked by the kernel. -/
import Derived.Test.YtdhhceamknidmaaVEy
import Derived.Test.YtdhhceamknidmaaGL6
import Derived.Test.YtdhhceamknidmaaProg
import Derived.KernelRfl
namespace Go.Proofs.Ytdhhceamknidmaa
open Go Go.Proofs.VE
set_option linter.unusedVariables false
set_option linter.unusedSimpArgs false
set_option maxRecDepth 100000
set_option maxHeartbeats 4000000
theorem mixed : Try.prog.follows .mixedOrders = true := by kernel_rfl
/-! ### 79 loop.example/g01984/laws.szIntS -/
noncomputable def c79 : Cfg := cfg Try.prog [(79, 999, [4])] [] [] [] []
def q79 (a0 : List AV) (a1 : Int) : Bool := true
def v79_0 (a0 : List AV) (a1 : Int) : Int := (bif decide (IntKind.i64.wrap (a1 - (a0.length : Int)) < 0) then (-1) else IntKind.i64.wrap (a1 - (a0.length : Int)))
theorem e79 (a0 : List AV) (a1 : Int) : funA c79 0 79 [AV.sl [.int .i64] a0, AV.int .i64 a1] = (bif decide (IntKind.i64.wrap (a1 - (a0.length : Int)) < 0) then some (AV.int .i64 (-1))
  else some (AV.int .i64 (IntKind.i64.wrap (a1 - (a0.length : Int))))) := by kernel_rfl
theorem r79 (a0 : List AV) (a1 : Int) : funA c79 0 79 [AV.sl [.int .i64] a0, AV.int .i64 a1] = some (AV.int .i64 (v79_0 a0 a1)) := (e79 a0 a1).trans (of_tt (brT (fun b => some (AV.int .i64 (bif b then (-1) else IntKind.i64.wrap (a1 - (a0.length : Int))))) (fun _ => rfl) (fun _ => rfl)))
def m79 : TModel
  | [.sl g0 a0, .int .i64 a1] => bif ctsEq g0 ([.int .i64]) then some (true, AV.int .i64 (v79_0 a0 a1)) else none
  | _ => none
theorem k79 : Known Try.prog 79 := ⟨Try.f79, Try.func79, by kernel_rfl, by kernel_rfl⟩
theorem meets79 : Meets Try.prog 79 m79 := by
  refine meet (f := Try.f79) (l := []) (hs := [(79, 999, [4])]) (ts := []) (ws := []) (is := []) (ls := []) (lvl := 0) mixed k79 Try.func79 (by kernel_rfl) noLoop allT_nil allM_nil noI fun w xs us r hl hv h => ?_
  unfold m79 at h
  split at h
  · rename_i g0 a0 a1
    obtain ⟨hg, h⟩ := bif_pair h
    have q0 := hg
    obtain rfl := ctsEq_eq _ _ q0
    obtain ⟨h1, rfl⟩ := pair_inj h
    exact r79 a0 a1
  · cases h

/-! ### 88 loop.example/g01984/laws.szPivotS -/
noncomputable def c88 : Cfg := cfg Try.prog [(88, 999, [4])] [] [] [] []
def q88 (a0 : List AV) (a1 : Int) : Bool := true
def v88_0 (a0 : List AV) (a1 : Int) : Int := (bif decide (IntKind.i64.wrap (a1 - (a0.length : Int)) < 0) then (-1) else IntKind.i64.wrap (a1 - (a0.length : Int)))
theorem e88 (a0 : List AV) (a1 : Int) : funA c88 0 88 [AV.sl [.int .i64, .int .i64] a0, AV.int .i64 a1] = (bif decide (IntKind.i64.wrap (a1 - (a0.length : Int)) < 0) then some (AV.int .i64 (-1))
  else some (AV.int .i64 (IntKind.i64.wrap (a1 - (a0.length : Int))))) := by kernel_rfl
theorem r88 (a0 : List AV) (a1 : Int) : funA c88 0 88 [AV.sl [.int .i64, .int .i64] a0, AV.int .i64 a1] = some (AV.int .i64 (v88_0 a0 a1)) := (e88 a0 a1).trans (of_tt (brT (fun b => some (AV.int .i64 (bif b then (-1) else IntKind.i64.wrap (a1 - (a0.length : Int))))) (fun _ => rfl) (fun _ => rfl)))
def m88 : TModel
  | [.sl g0 a0, .int .i64 a1] => bif ctsEq g0 ([.int .i64, .int .i64]) then some (true, AV.int .i64 (v88_0 a0 a1)) else none
  | _ => none
theorem k88 : Known Try.prog 88 := ⟨Try.f88, Try.func88, by kernel_rfl, by kernel_rfl⟩
theorem meets88 : Meets Try.prog 88 m88 := by
  refine meet (f := Try.f88) (l := []) (hs := [(88, 999, [4])]) (ts := []) (ws := []) (is := []) (ls := []) (lvl := 0) mixed k88 Try.func88 (by kernel_rfl) noLoop allT_nil allM_nil noI fun w xs us r hl hv h => ?_
  unfold m88 at h
  split at h
  · rename_i g0 a0 a1
    obtain ⟨hg, h⟩ := bif_pair h
    have q0 := hg
    obtain rfl := ctsEq_eq _ _ q0
    obtain ⟨h1, rfl⟩ := pair_inj h
    exact r88 a0 a1
  · cases h

/-! ### 36 loop.example/g01984/laws.szCracker -/
noncomputable def c36 : Cfg := cfg Try.prog [(36, 999, [4])] [(79, m79), (88, m88)] [] [] []
def q36 (a0_0 : List AV) (a0_1 : List AV) (a0_2 : List AV) (a1 : Int) : Bool := true
def v36_0 (a0_0 : List AV) (a0_1 : List AV) (a0_2 : List AV) (a1 : Int) : Int := (bif decide ((v79_0 a0_0 a1) < 0) then (-1) else (bif decide ((v79_0 a0_1 (v79_0 a0_0 a1)) < 0) then (-1) else (bif decide ((v88_0 a0_2 (v79_0 a0_1 (v79_0 a0_0 a1))) < 0) then (-1) else (v88_0 a0_2 (v79_0 a0_1 (v79_0 a0_0 a1))))))
theorem e36 (a0_0 : List AV) (a0_1 : List AV) (a0_2 : List AV) (a1 : Int) : funA c36 0 36 [AV.agg [AV.sl [.int .i64] a0_0, AV.sl [.int .i64] a0_1, AV.sl [.int .i64, .int .i64] a0_2], AV.int .i64 a1] = (bif decide ((v79_0 a0_0 a1) < 0) then some (AV.int .i64 (-1))
  else (bif decide ((v79_0 a0_1 (v79_0 a0_0 a1)) < 0) then some (AV.int .i64 (-1))
  else (bif decide ((v88_0 a0_2 (v79_0 a0_1 (v79_0 a0_0 a1))) < 0) then some (AV.int .i64 (-1))
  else some (AV.int .i64 (v88_0 a0_2 (v79_0 a0_1 (v79_0 a0_0 a1))))))) := by kernel_rfl
theorem r36 (a0_0 : List AV) (a0_1 : List AV) (a0_2 : List AV) (a1 : Int) : funA c36 0 36 [AV.agg [AV.sl [.int .i64] a0_0, AV.sl [.int .i64] a0_1, AV.sl [.int .i64, .int .i64] a0_2], AV.int .i64 a1] = some (AV.int .i64 (v36_0 a0_0 a0_1 a0_2 a1)) := (e36 a0_0 a0_1 a0_2 a1).trans (of_tt (brT (fun b => some (AV.int .i64 (bif b then (-1) else (bif decide ((v79_0 a0_1 (v79_0 a0_0 a1)) < 0) then (-1) else (bif decide ((v88_0 a0_2 (v79_0 a0_1 (v79_0 a0_0 a1))) < 0) then (-1) else (v88_0 a0_2 (v79_0 a0_1 (v79_0 a0_0 a1)))))))) (fun _ => rfl) (brT (fun b => some (AV.int .i64 (bif b then (-1) else (bif decide ((v88_0 a0_2 (v79_0 a0_1 (v79_0 a0_0 a1))) < 0) then (-1) else (v88_0 a0_2 (v79_0 a0_1 (v79_0 a0_0 a1))))))) (fun _ => rfl) (brT (fun b => some (AV.int .i64 (bif b then (-1) else (v88_0 a0_2 (v79_0 a0_1 (v79_0 a0_0 a1)))))) (fun _ => rfl) (fun _ => rfl)))))
def m36 : TModel
  | [.agg [.sl g0 a0_0, .sl g1 a0_1, .sl g2 a0_2], .int .i64 a1] => bif ctsEq g0 ([.int .i64]) && ctsEq g1 ([.int .i64]) && ctsEq g2 ([.int .i64, .int .i64]) then some (true, AV.int .i64 (v36_0 a0_0 a0_1 a0_2 a1)) else none
  | _ => none
theorem k36 : Known Try.prog 36 := ⟨Try.f36, Try.func36, by kernel_rfl, by kernel_rfl⟩
theorem meets36 : Meets Try.prog 36 m36 := by
  refine meet (f := Try.f36) (l := []) (hs := [(36, 999, [4])]) (ts := [(79, m79), (88, m88)]) (ws := []) (is := []) (ls := []) (lvl := 0) mixed k36 Try.func36 (by kernel_rfl) noLoop (allT_cons meets79 (allT_cons meets88 allT_nil)) allM_nil noI fun w xs us r hl hv h => ?_
  unfold m36 at h
  split at h
  · rename_i g0 a0_0 g1 a0_1 g2 a0_2 a1
    obtain ⟨hg, h⟩ := bif_pair h
    simp only [Bool.and_eq_true] at hg
    obtain ⟨⟨q0, q1⟩, q2⟩ := hg
    obtain rfl := ctsEq_eq _ _ q0
    obtain rfl := ctsEq_eq _ _ q1
    obtain rfl := ctsEq_eq _ _ q2
    obtain ⟨h1, rfl⟩ := pair_inj h
    exact r36 a0_0 a0_1 a0_2 a1
  · cases h

/-! ### 105 loop.example/g01984/laws.szWorker -/
noncomputable def c105 : Cfg := cfg Try.prog [(105, 999, [4])] [(79, m79)] [] [] []
def q105 (a0_0 : List AV) (a0_1 : Int) (a0_2 : Bool) (a0_3 : Int) (a0_4 : Int) (a0_5 : Int) (a0_6 : Int) (a0_7 : Int) (a0_8 : Int) (a1 : Int) : Bool := true
def v105_0 (a0_0 : List AV) (a0_1 : Int) (a0_2 : Bool) (a0_3 : Int) (a0_4 : Int) (a0_5 : Int) (a0_6 : Int) (a0_7 : Int) (a0_8 : Int) (a1 : Int) : Int := (bif decide ((v79_0 a0_0 a1) < 0) then (-1) else (v79_0 a0_0 a1))
theorem e105 (a0_0 : List AV) (a0_1 : Int) (a0_2 : Bool) (a0_3 : Int) (a0_4 : Int) (a0_5 : Int) (a0_6 : Int) (a0_7 : Int) (a0_8 : Int) (a1 : Int) : funA c105 0 105 [AV.agg [AV.sl [.int .i64] a0_0, AV.int .i64 a0_1, AV.bool a0_2, AV.int .i64 a0_3, AV.int .i64 a0_4, AV.int .i64 a0_5, AV.int .i64 a0_6, AV.int .i64 a0_7, AV.int .i64 a0_8], AV.int .i64 a1] = (bif decide ((v79_0 a0_0 a1) < 0) then some (AV.int .i64 (-1))
  else some (AV.int .i64 (v79_0 a0_0 a1))) := by kernel_rfl
theorem r105 (a0_0 : List AV) (a0_1 : Int) (a0_2 : Bool) (a0_3 : Int) (a0_4 : Int) (a0_5 : Int) (a0_6 : Int) (a0_7 : Int) (a0_8 : Int) (a1 : Int) : funA c105 0 105 [AV.agg [AV.sl [.int .i64] a0_0, AV.int .i64 a0_1, AV.bool a0_2, AV.int .i64 a0_3, AV.int .i64 a0_4, AV.int .i64 a0_5, AV.int .i64 a0_6, AV.int .i64 a0_7, AV.int .i64 a0_8], AV.int .i64 a1] = some (AV.int .i64 (v105_0 a0_0 a0_1 a0_2 a0_3 a0_4 a0_5 a0_6 a0_7 a0_8 a1)) := (e105 a0_0 a0_1 a0_2 a0_3 a0_4 a0_5 a0_6 a0_7 a0_8 a1).trans (of_tt (brT (fun b => some (AV.int .i64 (bif b then (-1) else (v79_0 a0_0 a1)))) (fun _ => rfl) (fun _ => rfl)))
def m105 : TModel
  | [.agg [.sl g0 a0_0, .int .i64 a0_1, .bool a0_2, .int .i64 a0_3, .int .i64 a0_4, .int .i64 a0_5, .int .i64 a0_6, .int .i64 a0_7, .int .i64 a0_8], .int .i64 a1] => bif ctsEq g0 ([.int .i64]) then some (true, AV.int .i64 (v105_0 a0_0 a0_1 a0_2 a0_3 a0_4 a0_5 a0_6 a0_7 a0_8 a1)) else none
  | _ => none
theorem k105 : Known Try.prog 105 := ⟨Try.f105, Try.func105, by kernel_rfl, by kernel_rfl⟩
theorem meets105 : Meets Try.prog 105 m105 := by
  refine meet (f := Try.f105) (l := []) (hs := [(105, 999, [4])]) (ts := [(79, m79)]) (ws := []) (is := []) (ls := []) (lvl := 0) mixed k105 Try.func105 (by kernel_rfl) noLoop (allT_cons meets79 allT_nil) allM_nil noI fun w xs us r hl hv h => ?_
  unfold m105 at h
  split at h
  · rename_i g0 a0_0 a0_1 a0_2 a0_3 a0_4 a0_5 a0_6 a0_7 a0_8 a1
    obtain ⟨hg, h⟩ := bif_pair h
    have q0 := hg
    obtain rfl := ctsEq_eq _ _ q0
    obtain ⟨h1, rfl⟩ := pair_inj h
    exact r105 a0_0 a0_1 a0_2 a0_3 a0_4 a0_5 a0_6 a0_7 a0_8 a1
  · cases h

/-! ### 57 loop.example/g01984/laws.szWorkerS -/
def F57_0 (t0 : List AV) (t1 : Int) (t5 : Int) : Out ((Int × Int)) (Int ⊕ Unit) := (bif decide (t5 < (t0.length : Int)) then (bif (decide (0 ≤ t5) && decide (t5 < (t0.length : Int))) then (bif decide ((v105_0 (fL (t0.getD t5.toNat AV.undef) 0) (fI (t0.getD t5.toNat AV.undef) 1) (fB (t0.getD t5.toNat AV.undef) 2) (fI (t0.getD t5.toNat AV.undef) 3) (fI (t0.getD t5.toNat AV.undef) 4) (fI (t0.getD t5.toNat AV.undef) 5) (fI (t0.getD t5.toNat AV.undef) 6) (fI (t0.getD t5.toNat AV.undef) 7) (fI (t0.getD t5.toNat AV.undef) 8) t1) < 0) then .stop (.inr ())
  else .next ((v105_0 (fL (t0.getD t5.toNat AV.undef) 0) (fI (t0.getD t5.toNat AV.undef) 1) (fB (t0.getD t5.toNat AV.undef) 2) (fI (t0.getD t5.toNat AV.undef) 3) (fI (t0.getD t5.toNat AV.undef) 4) (fI (t0.getD t5.toNat AV.undef) 5) (fI (t0.getD t5.toNat AV.undef) 6) (fI (t0.getD t5.toNat AV.undef) 7) (fI (t0.getD t5.toNat AV.undef) 8) t1), IntKind.i64.wrap (t5 + 1)))
  else .fail)
  else .stop (.inl t1))
def R57_0 (t0 : List AV) : ((Int × Int)) → Out ((Int × Int)) (Int ⊕ Unit) := fun s : Int × Int => F57_0 t0 s.1 s.2
def l57_0 : LModel := fun _ _ st k => match st with
  | ⟨[(0, .sl g0 t0), (1, .int .i64 t1), (5, .int .i64 t5)], []⟩ => bif ctsEq g0 ([.sl [.int .i64], .int .i64, .bool, .int .i64, .int .i64, .int .i64, .int .i64, .int .i64, .int .i64]) then ro (runW (R57_0 t0) (((t0.length : Int) - t5).toNat + 1) (t1, t5)) none (sumE (fun p : Int => k (.exit 0) ⟨[(1, AV.int .i64 p)], []⟩) (fun _ : Unit => k .ret ⟨[(4, AV.int .i64 (-1))], []⟩)) else none
  | _ => none
noncomputable def c57 : Cfg := cfg Try.prog [(57, 0, [0, 1, 5]), (57, 999, [4]), (57, 1000, [1]), (57, 1001, [0, 1, 5])] [(105, m105)] [] [] [(57, 0, l57_0)]
theorem s57_0 (ce : CallE) (t0 : List AV) (t1 : Int) (t5 : Int) (next : St → Option AV) (k : Kont) : stepA (codeA c57 ce [] 57 0 (sub [1, 1, 1, 0, 1, 0, 0] (body Try.f57))) (normA [] [0, 1, 5]) next ⟨[(0, AV.sl [.sl [.int .i64], .int .i64, .bool, .int .i64, .int .i64, .int .i64, .int .i64, .int .i64, .int .i64] t0), (1, AV.int .i64 t1), (5, AV.int .i64 t5)], []⟩ k = (bif decide (t5 < (t0.length : Int)) then (bif (decide (0 ≤ t5) && decide (t5 < (t0.length : Int))) then (bif decide ((v105_0 (fL (t0.getD t5.toNat AV.undef) 0) (fI (t0.getD t5.toNat AV.undef) 1) (fB (t0.getD t5.toNat AV.undef) 2) (fI (t0.getD t5.toNat AV.undef) 3) (fI (t0.getD t5.toNat AV.undef) 4) (fI (t0.getD t5.toNat AV.undef) 5) (fI (t0.getD t5.toNat AV.undef) 6) (fI (t0.getD t5.toNat AV.undef) 7) (fI (t0.getD t5.toNat AV.undef) 8) t1) < 0) then k .ret ⟨[(4, AV.int .i64 (-1))], []⟩
  else next ⟨[(0, AV.sl [.sl [.int .i64], .int .i64, .bool, .int .i64, .int .i64, .int .i64, .int .i64, .int .i64, .int .i64] t0), (1, AV.int .i64 (v105_0 (fL (t0.getD t5.toNat AV.undef) 0) (fI (t0.getD t5.toNat AV.undef) 1) (fB (t0.getD t5.toNat AV.undef) 2) (fI (t0.getD t5.toNat AV.undef) 3) (fI (t0.getD t5.toNat AV.undef) 4) (fI (t0.getD t5.toNat AV.undef) 5) (fI (t0.getD t5.toNat AV.undef) 6) (fI (t0.getD t5.toNat AV.undef) 7) (fI (t0.getD t5.toNat AV.undef) 8) t1)), (5, AV.int .i64 (IntKind.i64.wrap (t5 + 1)))], []⟩)
  else none)
  else k (.exit 0) ⟨[(1, AV.int .i64 t1)], []⟩) := by kernel_rfl
theorem st57_0 (t0 : List AV) (ce : CallE) (k : Kont) (s : (Int × Int)) (next : St → Option AV) : stepA (codeA c57 ce [] 57 0 (sub [1, 1, 1, 0, 1, 0, 0] (body Try.f57))) (normA [] [0, 1, 5]) next ((fun s : Int × Int => ⟨[(0, AV.sl [.sl [.int .i64], .int .i64, .bool, .int .i64, .int .i64, .int .i64, .int .i64, .int .i64, .int .i64] t0), (1, AV.int .i64 s.1), (5, AV.int .i64 s.2)], []⟩) s) k = (R57_0 t0 s).el none (fun s => next ((fun s : Int × Int => ⟨[(0, AV.sl [.sl [.int .i64], .int .i64, .bool, .int .i64, .int .i64, .int .i64, .int .i64, .int .i64, .int .i64] t0), (1, AV.int .i64 s.1), (5, AV.int .i64 s.2)], []⟩) s)) (sumE (fun p : Int => k (.exit 0) ⟨[(1, AV.int .i64 p)], []⟩) (fun _ : Unit => k .ret ⟨[(4, AV.int .i64 (-1))], []⟩)) := (s57_0 ce t0 s.1 s.2 next k).trans (by unfold R57_0; unfold F57_0; simp only [el_cond, el_ro, el_sum, el_fail, el_next, el_stop] <;> rfl)
theorem ok57_0 {ce : CallE} : LoopOK c57 ce [] 57 0 (sub [1, 1, 1, 0, 1, 0, 0] (body Try.f57)) := by
  intro m hm st k r h
  obtain rfl : l57_0 = m := Option.some.inj hm
  unfold l57_0 at h
  split at h
  · rename_i g0 t0 t1 t5
    obtain ⟨hg, h⟩ := bif_some h
    have q0 := hg
    obtain rfl := ctsEq_eq _ _ q0
    refine ⟨(((t0.length : Int) - t5).toNat + 1), ?_⟩
    rw [← h]
    exact loop_run (fun s : Int × Int => ⟨[(0, AV.sl [.sl [.int .i64], .int .i64, .bool, .int .i64, .int .i64, .int .i64, .int .i64, .int .i64, .int .i64] t0), (1, AV.int .i64 s.1), (5, AV.int .i64 s.2)], []⟩) (sumE (fun p : Int => k (.exit 0) ⟨[(1, AV.int .i64 p)], []⟩) (fun _ : Unit => k .ret ⟨[(4, AV.int .i64 (-1))], []⟩)) (st57_0 t0 ce k) _ (t1, t5)
  · cases h
def q57 (a0 : List AV) (a1 : Int) : Bool := (bif decide (IntKind.i64.wrap (a1 - (a0.length : Int)) < 0) then true else (ro (runW (R57_0 a0) (((a0.length : Int) - 0).toNat + 1) (IntKind.i64.wrap (a1 - (a0.length : Int)), 0)) false (sumE (fun p1 => true) (fun _ => true))))
def v57_0 (a0 : List AV) (a1 : Int) : Int := (bif decide (IntKind.i64.wrap (a1 - (a0.length : Int)) < 0) then (-1) else (ro (runW (R57_0 a0) (((a0.length : Int) - 0).toNat + 1) (IntKind.i64.wrap (a1 - (a0.length : Int)), 0)) 0 (sumE (fun p1 => p1) (fun _ => (-1)))))
theorem e57 (a0 : List AV) (a1 : Int) : funA c57 0 57 [AV.sl [.sl [.int .i64], .int .i64, .bool, .int .i64, .int .i64, .int .i64, .int .i64, .int .i64, .int .i64] a0, AV.int .i64 a1] = (bif decide (IntKind.i64.wrap (a1 - (a0.length : Int)) < 0) then some (AV.int .i64 (-1))
  else (ro (runW (R57_0 a0) (((a0.length : Int) - 0).toNat + 1) (IntKind.i64.wrap (a1 - (a0.length : Int)), 0)) none (sumE (fun p1 => some (AV.int .i64 p1)) (fun _ => some (AV.int .i64 (-1)))))) := by kernel_rfl
theorem r57 (a0 : List AV) (a1 : Int) (h : q57 a0 a1 = true) : funA c57 0 57 [AV.sl [.sl [.int .i64], .int .i64, .bool, .int .i64, .int .i64, .int .i64, .int .i64, .int .i64, .int .i64] a0, AV.int .i64 a1] = some (AV.int .i64 (v57_0 a0 a1)) := (e57 a0 a1).trans ((br (fun b => some (AV.int .i64 (bif b then (-1) else (ro (runW (R57_0 a0) (((a0.length : Int) - 0).toNat + 1) (IntKind.i64.wrap (a1 - (a0.length : Int)), 0)) 0 (sumE (fun p1 => p1) (fun _ => (-1))))))) (fun _ => rfl) (brO (fun o : Option (Int ⊕ Unit) => some (AV.int .i64 (ro o 0 (sumE (fun p1 => p1) (fun _ => (-1)))))) (brS (fun o : Int ⊕ Unit => some (AV.int .i64 ((sumE (fun p1 => p1) (fun _ => (-1))) o))) (fun p1 => (fun _ => rfl)) (fun _ => (fun _ => rfl))))) h)
def m57 : TModel
  | [.sl g0 a0, .int .i64 a1] => bif ctsEq g0 ([.sl [.int .i64], .int .i64, .bool, .int .i64, .int .i64, .int .i64, .int .i64, .int .i64, .int .i64]) then some (q57 a0 a1, AV.int .i64 (v57_0 a0 a1)) else none
  | _ => none
theorem k57 : Known Try.prog 57 := ⟨Try.f57, Try.func57, by kernel_rfl, by kernel_rfl⟩
theorem meets57 : Meets Try.prog 57 m57 := by
  refine meet (f := Try.f57) (l := [(0, sub [1, 1, 1, 0, 1, 0, 0] (body Try.f57))]) (hs := [(57, 0, [0, 1, 5]), (57, 999, [4]), (57, 1000, [1]), (57, 1001, [0, 1, 5])]) (ts := [(105, m105)]) (ws := []) (is := []) (ls := [(57, 0, l57_0)]) (lvl := 0) mixed k57 Try.func57 (by kernel_rfl) (loops_cons ok57_0 noLoop) (allT_cons meets105 allT_nil) allM_nil noI fun w xs us r hl hv h => ?_
  unfold m57 at h
  split at h
  · rename_i g0 a0 a1
    obtain ⟨hg, h⟩ := bif_pair h
    have q0 := hg
    obtain rfl := ctsEq_eq _ _ q0
    obtain ⟨h1, rfl⟩ := pair_inj h
    exact r57 a0 a1 h1
  · cases h

/-! ### 14 loop.example/g01984/laws.szBoard -/
noncomputable def c14 : Cfg := cfg Try.prog [(14, 999, [4])] [(36, m36), (57, m57)] [] [] []
def q14 (a0_0 : List AV) (a0_1 : List AV) (a0_2 : List AV) (a0_3 : List AV) (a0_4 : Int) (a1 : Int) : Bool := (bif decide ((v36_0 a0_0 a0_1 a0_2 a1) < 0) then true else q57 a0_3 (v36_0 a0_0 a0_1 a0_2 a1))
def v14_0 (a0_0 : List AV) (a0_1 : List AV) (a0_2 : List AV) (a0_3 : List AV) (a0_4 : Int) (a1 : Int) : Int := (bif decide ((v36_0 a0_0 a0_1 a0_2 a1) < 0) then (-1) else (bif decide ((v57_0 a0_3 (v36_0 a0_0 a0_1 a0_2 a1)) < 0) then (-1) else (v57_0 a0_3 (v36_0 a0_0 a0_1 a0_2 a1))))
theorem e14 (a0_0 : List AV) (a0_1 : List AV) (a0_2 : List AV) (a0_3 : List AV) (a0_4 : Int) (a1 : Int) : funA c14 0 14 [AV.agg [AV.sl [.int .i64] a0_0, AV.sl [.int .i64] a0_1, AV.sl [.int .i64, .int .i64] a0_2, AV.sl [.sl [.int .i64], .int .i64, .bool, .int .i64, .int .i64, .int .i64, .int .i64, .int .i64, .int .i64] a0_3, AV.int .i64 a0_4], AV.int .i64 a1] = (bif decide ((v36_0 a0_0 a0_1 a0_2 a1) < 0) then some (AV.int .i64 (-1))
  else (bif q57 a0_3 (v36_0 a0_0 a0_1 a0_2 a1) then (bif decide ((v57_0 a0_3 (v36_0 a0_0 a0_1 a0_2 a1)) < 0) then some (AV.int .i64 (-1))
  else some (AV.int .i64 (v57_0 a0_3 (v36_0 a0_0 a0_1 a0_2 a1))))
  else none)) := by kernel_rfl
theorem r14 (a0_0 : List AV) (a0_1 : List AV) (a0_2 : List AV) (a0_3 : List AV) (a0_4 : Int) (a1 : Int) (h : q14 a0_0 a0_1 a0_2 a0_3 a0_4 a1 = true) : funA c14 0 14 [AV.agg [AV.sl [.int .i64] a0_0, AV.sl [.int .i64] a0_1, AV.sl [.int .i64, .int .i64] a0_2, AV.sl [.sl [.int .i64], .int .i64, .bool, .int .i64, .int .i64, .int .i64, .int .i64, .int .i64, .int .i64] a0_3, AV.int .i64 a0_4], AV.int .i64 a1] = some (AV.int .i64 (v14_0 a0_0 a0_1 a0_2 a0_3 a0_4 a1)) := (e14 a0_0 a0_1 a0_2 a0_3 a0_4 a1).trans ((br (fun b => some (AV.int .i64 (bif b then (-1) else (bif decide ((v57_0 a0_3 (v36_0 a0_0 a0_1 a0_2 a1)) < 0) then (-1) else (v57_0 a0_3 (v36_0 a0_0 a0_1 a0_2 a1)))))) (fun _ => rfl) (brL1 (brT (fun b => some (AV.int .i64 (bif b then (-1) else (v57_0 a0_3 (v36_0 a0_0 a0_1 a0_2 a1))))) (fun _ => rfl) (fun _ => rfl)))) h)
def m14 : TModel
  | [.agg [.sl g0 a0_0, .sl g1 a0_1, .sl g2 a0_2, .sl g3 a0_3, .int .i64 a0_4], .int .i64 a1] => bif ctsEq g0 ([.int .i64]) && ctsEq g1 ([.int .i64]) && ctsEq g2 ([.int .i64, .int .i64]) && ctsEq g3 ([.sl [.int .i64], .int .i64, .bool, .int .i64, .int .i64, .int .i64, .int .i64, .int .i64, .int .i64]) then some (q14 a0_0 a0_1 a0_2 a0_3 a0_4 a1, AV.int .i64 (v14_0 a0_0 a0_1 a0_2 a0_3 a0_4 a1)) else none
  | _ => none
theorem k14 : Known Try.prog 14 := ⟨Try.f14, Try.func14, by kernel_rfl, by kernel_rfl⟩
theorem meets14 : Meets Try.prog 14 m14 := by
  refine meet (f := Try.f14) (l := []) (hs := [(14, 999, [4])]) (ts := [(36, m36), (57, m57)]) (ws := []) (is := []) (ls := []) (lvl := 0) mixed k14 Try.func14 (by kernel_rfl) noLoop (allT_cons meets36 (allT_cons meets57 allT_nil)) allM_nil noI fun w xs us r hl hv h => ?_
  unfold m14 at h
  split at h
  · rename_i g0 a0_0 g1 a0_1 g2 a0_2 g3 a0_3 a0_4 a1
    obtain ⟨hg, h⟩ := bif_pair h
    simp only [Bool.and_eq_true] at hg
    obtain ⟨⟨⟨q0, q1⟩, q2⟩, q3⟩ := hg
    obtain rfl := ctsEq_eq _ _ q0
    obtain rfl := ctsEq_eq _ _ q1
    obtain rfl := ctsEq_eq _ _ q2
    obtain rfl := ctsEq_eq _ _ q3
    obtain ⟨h1, rfl⟩ := pair_inj h
    exact r14 a0_0 a0_1 a0_2 a0_3 a0_4 a1 h1
  · cases h

/-! ### 27 loop.example/g01984/laws.toIntS -/
def F27_0 (t0 : List AV) (t4 : Int) (h0 : List AV) : Out ((Int × (List AV))) (((List AV))) := (bif decide (t4 < (t0.length : Int)) then (bif (decide (0 ≤ t4) && decide (t4 < (t0.length : Int))) then (bif (decide (0 ≤ t4) && decide (t4 < (h0.length : Int))) then .next (IntKind.i64.wrap (t4 + 1), h0.set t4.toNat (AV.agg [AV.int .i64 (fI (t0.getD t4.toNat AV.undef) 0)]))
  else .fail)
  else .fail)
  else .stop h0)
def R27_0 (t0 : List AV) : ((Int × (List AV))) → Out ((Int × (List AV))) (((List AV))) := fun s : Int × (List AV) => F27_0 t0 s.1 s.2
def l27_0 : LModel := fun _ _ st k => match st with
  | ⟨[(0, .sl g0 t0), (3, .own g1), (4, .int .i64 t4)], [(g2, ⟨false, g3, h0⟩)]⟩ => bif ctsEq g0 ([.int .i64]) && nmEq g1 ([0, 3]) && nmEq g2 ([0, 3]) && ctsEq g3 ([.int .i64]) then ro (runW (R27_0 t0) (((t0.length : Int) - t4).toNat + 1) (t4, h0)) none (fun p : (List AV) => k (.exit 0) ⟨[(3, AV.own [0, 3])], [([0, 3], ⟨false, [.int .i64], p⟩)]⟩) else none
  | _ => none
noncomputable def c27 : Cfg := cfg Try.prog [(27, 0, [0, 3, 4]), (27, 999, [2]), (27, 1000, [3]), (27, 1001, [0, 3, 4])] [] [] [] [(27, 0, l27_0)]
theorem s27_0 (ce : CallE) (t0 : List AV) (t4 : Int) (h0 : List AV) (next : St → Option AV) (k : Kont) : stepA (codeA c27 ce [] 27 0 (sub [1, 1, 0, 1, 0, 0] (body Try.f27))) (normA [] [0, 3, 4]) next ⟨[(0, AV.sl [.int .i64] t0), (3, AV.own [0, 3]), (4, AV.int .i64 t4)], [([0, 3], ⟨false, [.int .i64], h0⟩)]⟩ k = (bif decide (t4 < (t0.length : Int)) then (bif (decide (0 ≤ t4) && decide (t4 < (t0.length : Int))) then (bif (decide (0 ≤ t4) && decide (t4 < (h0.length : Int))) then next ⟨[(0, AV.sl [.int .i64] t0), (3, AV.own [0, 3]), (4, AV.int .i64 (IntKind.i64.wrap (t4 + 1)))], [([0, 3], ⟨false, [.int .i64], h0.set t4.toNat (AV.agg [AV.int .i64 (fI (t0.getD t4.toNat AV.undef) 0)])⟩)]⟩
  else none)
  else none)
  else k (.exit 0) ⟨[(3, AV.own [0, 3])], [([0, 3], ⟨false, [.int .i64], h0⟩)]⟩) := by kernel_rfl
theorem st27_0 (t0 : List AV) (ce : CallE) (k : Kont) (s : (Int × (List AV))) (next : St → Option AV) : stepA (codeA c27 ce [] 27 0 (sub [1, 1, 0, 1, 0, 0] (body Try.f27))) (normA [] [0, 3, 4]) next ((fun s : Int × (List AV) => ⟨[(0, AV.sl [.int .i64] t0), (3, AV.own [0, 3]), (4, AV.int .i64 s.1)], [([0, 3], ⟨false, [.int .i64], s.2⟩)]⟩) s) k = (R27_0 t0 s).el none (fun s => next ((fun s : Int × (List AV) => ⟨[(0, AV.sl [.int .i64] t0), (3, AV.own [0, 3]), (4, AV.int .i64 s.1)], [([0, 3], ⟨false, [.int .i64], s.2⟩)]⟩) s)) (fun p : (List AV) => k (.exit 0) ⟨[(3, AV.own [0, 3])], [([0, 3], ⟨false, [.int .i64], p⟩)]⟩) := (s27_0 ce t0 s.1 s.2 next k).trans (by unfold R27_0; unfold F27_0; simp only [el_cond, el_ro, el_sum, el_fail, el_next, el_stop] <;> rfl)
theorem ok27_0 {ce : CallE} : LoopOK c27 ce [] 27 0 (sub [1, 1, 0, 1, 0, 0] (body Try.f27)) := by
  intro m hm st k r h
  obtain rfl : l27_0 = m := Option.some.inj hm
  unfold l27_0 at h
  split at h
  · rename_i g0 t0 g1 t4 g2 g3 h0
    obtain ⟨hg, h⟩ := bif_some h
    simp only [Bool.and_eq_true] at hg
    obtain ⟨⟨⟨q0, q1⟩, q2⟩, q3⟩ := hg
    obtain rfl := ctsEq_eq _ _ q0
    obtain rfl := (nmEq_iff _ _).1 q1
    obtain rfl := (nmEq_iff _ _).1 q2
    obtain rfl := ctsEq_eq _ _ q3
    refine ⟨(((t0.length : Int) - t4).toNat + 1), ?_⟩
    rw [← h]
    exact loop_run (fun s : Int × (List AV) => ⟨[(0, AV.sl [.int .i64] t0), (3, AV.own [0, 3]), (4, AV.int .i64 s.1)], [([0, 3], ⟨false, [.int .i64], s.2⟩)]⟩) (fun p : (List AV) => k (.exit 0) ⟨[(3, AV.own [0, 3])], [([0, 3], ⟨false, [.int .i64], p⟩)]⟩) (st27_0 t0 ce k) _ (t4, h0)
  · cases h
def q27 (a0 : List AV) : Bool := ((decide (0 ≤ (a0.length : Int)) && decide ((a0.length : Int) ≤ (a0.length : Int)) && decide ((a0.length : Int) * 8 ≤ 140737488355328) && decide ((a0.length : Int) ≤ 140737488355328)) && (ro (runW (R27_0 a0) (((a0.length : Int) - 0).toNat + 1) (0, List.replicate (Int.toNat (a0.length : Int)) (AV.int .i64 0))) false (fun p3 => true)))
def v27_0 (a0 : List AV) : List AV := (ro (runW (R27_0 a0) (((a0.length : Int) - 0).toNat + 1) (0, List.replicate (Int.toNat (a0.length : Int)) (AV.int .i64 0))) [] (fun p3 => p3))
theorem e27 (a0 : List AV) : funA c27 0 27 [AV.sl [.int .i64] a0] = (bif (decide (0 ≤ (a0.length : Int)) && decide ((a0.length : Int) ≤ (a0.length : Int)) && decide ((a0.length : Int) * 8 ≤ 140737488355328) && decide ((a0.length : Int) ≤ 140737488355328)) then (ro (runW (R27_0 a0) (((a0.length : Int) - 0).toNat + 1) (0, List.replicate (Int.toNat (a0.length : Int)) (AV.int .i64 0))) none (fun p3 => some (AV.fl [.int .i64] p3)))
  else none) := by kernel_rfl
theorem r27 (a0 : List AV) (h : q27 a0 = true) : funA c27 0 27 [AV.sl [.int .i64] a0] = some (AV.fl [.int .i64] (v27_0 a0)) := (e27 a0).trans ((brL (brO (fun o : Option (((List AV))) => some (AV.fl [.int .i64] (ro o [] (fun p3 => p3)))) (fun p3 => (fun _ => rfl)))) h)
def m27 : TModel
  | [.sl g0 a0] => bif ctsEq g0 ([.int .i64]) then some (q27 a0, AV.fl [.int .i64] (v27_0 a0)) else none
  | _ => none
theorem k27 : Known Try.prog 27 := ⟨Try.f27, Try.func27, by kernel_rfl, by kernel_rfl⟩
theorem meets27 : Meets Try.prog 27 m27 := by
  refine meet (f := Try.f27) (l := [(0, sub [1, 1, 0, 1, 0, 0] (body Try.f27))]) (hs := [(27, 0, [0, 3, 4]), (27, 999, [2]), (27, 1000, [3]), (27, 1001, [0, 3, 4])]) (ts := []) (ws := []) (is := []) (ls := [(27, 0, l27_0)]) (lvl := 0) mixed k27 Try.func27 (by kernel_rfl) (loops_cons ok27_0 noLoop) allT_nil allM_nil noI fun w xs us r hl hv h => ?_
  unfold m27 at h
  split at h
  · rename_i g0 a0
    obtain ⟨hg, h⟩ := bif_pair h
    have q0 := hg
    obtain rfl := ctsEq_eq _ _ q0
    obtain ⟨h1, rfl⟩ := pair_inj h
    exact r27 a0 h1
  · cases h

/-! ### 121 loop.example/g01984/laws.toPivot -/
noncomputable def c121 : Cfg := cfg Try.prog [(121, 999, [2])] [] [] [] []
def q121 (a0_0 : Int) (a0_1 : Int) : Bool := true
def v121_0 (a0_0 : Int) (a0_1 : Int) : Int := a0_0
def v121_1 (a0_0 : Int) (a0_1 : Int) : Int := a0_1
theorem e121 (a0_0 : Int) (a0_1 : Int) : funA c121 0 121 [AV.agg [AV.int .i64 a0_0, AV.int .i64 a0_1]] = some (AV.agg [AV.int .i64 a0_0, AV.int .i64 a0_1]) := by kernel_rfl
theorem r121 (a0_0 : Int) (a0_1 : Int) : funA c121 0 121 [AV.agg [AV.int .i64 a0_0, AV.int .i64 a0_1]] = some (AV.agg [AV.int .i64 (v121_0 a0_0 a0_1), AV.int .i64 (v121_1 a0_0 a0_1)]) := (e121 a0_0 a0_1).trans (of_tt (fun _ => rfl))
def m121 : TModel
  | [.agg [.int .i64 a0_0, .int .i64 a0_1]] => some (true, AV.agg [AV.int .i64 (v121_0 a0_0 a0_1), AV.int .i64 (v121_1 a0_0 a0_1)])
  | _ => none
theorem k121 : Known Try.prog 121 := ⟨Try.f121, Try.func121, by kernel_rfl, by kernel_rfl⟩
theorem meets121 : Meets Try.prog 121 m121 := by
  refine meet (f := Try.f121) (l := []) (hs := [(121, 999, [2])]) (ts := []) (ws := []) (is := []) (ls := []) (lvl := 0) mixed k121 Try.func121 (by kernel_rfl) noLoop allT_nil allM_nil noI fun w xs us r hl hv h => ?_
  unfold m121 at h
  split at h
  · rename_i a0_0 a0_1
    obtain ⟨h1, rfl⟩ := pair_inj h
    exact r121 a0_0 a0_1
  · cases h

/-! ### 89 loop.example/g01984/laws.toPivotS -/
def F89_0 (t0 : List AV) (t4 : Int) (h0 : List AV) : Out ((Int × (List AV))) (((List AV))) := (bif decide (t4 < (t0.length : Int)) then (bif (decide (0 ≤ t4) && decide (t4 < (t0.length : Int))) then (bif (decide (0 ≤ t4) && decide (t4 < (h0.length : Int))) then .next (IntKind.i64.wrap (t4 + 1), h0.set t4.toNat (AV.agg [AV.int .i64 (v121_0 (fI (t0.getD t4.toNat AV.undef) 0) (fI (t0.getD t4.toNat AV.undef) 1)), AV.int .i64 (v121_1 (fI (t0.getD t4.toNat AV.undef) 0) (fI (t0.getD t4.toNat AV.undef) 1))]))
  else .fail)
  else .fail)
  else .stop h0)
def R89_0 (t0 : List AV) : ((Int × (List AV))) → Out ((Int × (List AV))) (((List AV))) := fun s : Int × (List AV) => F89_0 t0 s.1 s.2
def l89_0 : LModel := fun _ _ st k => match st with
  | ⟨[(0, .sl g0 t0), (3, .own g1), (4, .int .i64 t4)], [(g2, ⟨false, g3, h0⟩)]⟩ => bif ctsEq g0 ([.int .i64, .int .i64]) && nmEq g1 ([0, 3]) && nmEq g2 ([0, 3]) && ctsEq g3 ([.int .i64, .int .i64]) then ro (runW (R89_0 t0) (((t0.length : Int) - t4).toNat + 1) (t4, h0)) none (fun p : (List AV) => k (.exit 0) ⟨[(3, AV.own [0, 3])], [([0, 3], ⟨false, [.int .i64, .int .i64], p⟩)]⟩) else none
  | _ => none
noncomputable def c89 : Cfg := cfg Try.prog [(89, 0, [0, 3, 4]), (89, 999, [2]), (89, 1000, [3]), (89, 1001, [0, 3, 4])] [(121, m121)] [] [] [(89, 0, l89_0)]
theorem s89_0 (ce : CallE) (t0 : List AV) (t4 : Int) (h0 : List AV) (next : St → Option AV) (k : Kont) : stepA (codeA c89 ce [] 89 0 (sub [1, 1, 0, 1, 0, 0] (body Try.f89))) (normA [] [0, 3, 4]) next ⟨[(0, AV.sl [.int .i64, .int .i64] t0), (3, AV.own [0, 3]), (4, AV.int .i64 t4)], [([0, 3], ⟨false, [.int .i64, .int .i64], h0⟩)]⟩ k = (bif decide (t4 < (t0.length : Int)) then (bif (decide (0 ≤ t4) && decide (t4 < (t0.length : Int))) then (bif (decide (0 ≤ t4) && decide (t4 < (h0.length : Int))) then next ⟨[(0, AV.sl [.int .i64, .int .i64] t0), (3, AV.own [0, 3]), (4, AV.int .i64 (IntKind.i64.wrap (t4 + 1)))], [([0, 3], ⟨false, [.int .i64, .int .i64], h0.set t4.toNat (AV.agg [AV.int .i64 (v121_0 (fI (t0.getD t4.toNat AV.undef) 0) (fI (t0.getD t4.toNat AV.undef) 1)), AV.int .i64 (v121_1 (fI (t0.getD t4.toNat AV.undef) 0) (fI (t0.getD t4.toNat AV.undef) 1))])⟩)]⟩
  else none)
  else none)
  else k (.exit 0) ⟨[(3, AV.own [0, 3])], [([0, 3], ⟨false, [.int .i64, .int .i64], h0⟩)]⟩) := by kernel_rfl
theorem st89_0 (t0 : List AV) (ce : CallE) (k : Kont) (s : (Int × (List AV))) (next : St → Option AV) : stepA (codeA c89 ce [] 89 0 (sub [1, 1, 0, 1, 0, 0] (body Try.f89))) (normA [] [0, 3, 4]) next ((fun s : Int × (List AV) => ⟨[(0, AV.sl [.int .i64, .int .i64] t0), (3, AV.own [0, 3]), (4, AV.int .i64 s.1)], [([0, 3], ⟨false, [.int .i64, .int .i64], s.2⟩)]⟩) s) k = (R89_0 t0 s).el none (fun s => next ((fun s : Int × (List AV) => ⟨[(0, AV.sl [.int .i64, .int .i64] t0), (3, AV.own [0, 3]), (4, AV.int .i64 s.1)], [([0, 3], ⟨false, [.int .i64, .int .i64], s.2⟩)]⟩) s)) (fun p : (List AV) => k (.exit 0) ⟨[(3, AV.own [0, 3])], [([0, 3], ⟨false, [.int .i64, .int .i64], p⟩)]⟩) := (s89_0 ce t0 s.1 s.2 next k).trans (by unfold R89_0; unfold F89_0; simp only [el_cond, el_ro, el_sum, el_fail, el_next, el_stop] <;> rfl)
theorem ok89_0 {ce : CallE} : LoopOK c89 ce [] 89 0 (sub [1, 1, 0, 1, 0, 0] (body Try.f89)) := by
  intro m hm st k r h
  obtain rfl : l89_0 = m := Option.some.inj hm
  unfold l89_0 at h
  split at h
  · rename_i g0 t0 g1 t4 g2 g3 h0
    obtain ⟨hg, h⟩ := bif_some h
    simp only [Bool.and_eq_true] at hg
    obtain ⟨⟨⟨q0, q1⟩, q2⟩, q3⟩ := hg
    obtain rfl := ctsEq_eq _ _ q0
    obtain rfl := (nmEq_iff _ _).1 q1
    obtain rfl := (nmEq_iff _ _).1 q2
    obtain rfl := ctsEq_eq _ _ q3
    refine ⟨(((t0.length : Int) - t4).toNat + 1), ?_⟩
    rw [← h]
    exact loop_run (fun s : Int × (List AV) => ⟨[(0, AV.sl [.int .i64, .int .i64] t0), (3, AV.own [0, 3]), (4, AV.int .i64 s.1)], [([0, 3], ⟨false, [.int .i64, .int .i64], s.2⟩)]⟩) (fun p : (List AV) => k (.exit 0) ⟨[(3, AV.own [0, 3])], [([0, 3], ⟨false, [.int .i64, .int .i64], p⟩)]⟩) (st89_0 t0 ce k) _ (t4, h0)
  · cases h
def q89 (a0 : List AV) : Bool := ((decide (0 ≤ (a0.length : Int)) && decide ((a0.length : Int) ≤ (a0.length : Int)) && decide ((a0.length : Int) * 16 ≤ 140737488355328) && decide ((a0.length : Int) ≤ 140737488355328)) && (ro (runW (R89_0 a0) (((a0.length : Int) - 0).toNat + 1) (0, List.replicate (Int.toNat (a0.length : Int)) (AV.agg [AV.int .i64 0, AV.int .i64 0]))) false (fun p4 => true)))
def v89_0 (a0 : List AV) : List AV := (ro (runW (R89_0 a0) (((a0.length : Int) - 0).toNat + 1) (0, List.replicate (Int.toNat (a0.length : Int)) (AV.agg [AV.int .i64 0, AV.int .i64 0]))) [] (fun p4 => p4))
theorem e89 (a0 : List AV) : funA c89 0 89 [AV.sl [.int .i64, .int .i64] a0] = (bif (decide (0 ≤ (a0.length : Int)) && decide ((a0.length : Int) ≤ (a0.length : Int)) && decide ((a0.length : Int) * 16 ≤ 140737488355328) && decide ((a0.length : Int) ≤ 140737488355328)) then (ro (runW (R89_0 a0) (((a0.length : Int) - 0).toNat + 1) (0, List.replicate (Int.toNat (a0.length : Int)) (AV.agg [AV.int .i64 0, AV.int .i64 0]))) none (fun p4 => some (AV.fl [.int .i64, .int .i64] p4)))
  else none) := by kernel_rfl
theorem r89 (a0 : List AV) (h : q89 a0 = true) : funA c89 0 89 [AV.sl [.int .i64, .int .i64] a0] = some (AV.fl [.int .i64, .int .i64] (v89_0 a0)) := (e89 a0).trans ((brL (brO (fun o : Option (((List AV))) => some (AV.fl [.int .i64, .int .i64] (ro o [] (fun p4 => p4)))) (fun p4 => (fun _ => rfl)))) h)
def m89 : TModel
  | [.sl g0 a0] => bif ctsEq g0 ([.int .i64, .int .i64]) then some (q89 a0, AV.fl [.int .i64, .int .i64] (v89_0 a0)) else none
  | _ => none
theorem k89 : Known Try.prog 89 := ⟨Try.f89, Try.func89, by kernel_rfl, by kernel_rfl⟩
theorem meets89 : Meets Try.prog 89 m89 := by
  refine meet (f := Try.f89) (l := [(0, sub [1, 1, 0, 1, 0, 0] (body Try.f89))]) (hs := [(89, 0, [0, 3, 4]), (89, 999, [2]), (89, 1000, [3]), (89, 1001, [0, 3, 4])]) (ts := [(121, m121)]) (ws := []) (is := []) (ls := [(89, 0, l89_0)]) (lvl := 0) mixed k89 Try.func89 (by kernel_rfl) (loops_cons ok89_0 noLoop) (allT_cons meets121 allT_nil) allM_nil noI fun w xs us r hl hv h => ?_
  unfold m89 at h
  split at h
  · rename_i g0 a0
    obtain ⟨hg, h⟩ := bif_pair h
    have q0 := hg
    obtain rfl := ctsEq_eq _ _ q0
    obtain ⟨h1, rfl⟩ := pair_inj h
    exact r89 a0 h1
  · cases h

/-! ### 38 loop.example/g01984/laws.toCracker -/
noncomputable def c38 : Cfg := cfg Try.prog [(38, 999, [2])] [(27, m27), (89, m89)] [] [] []
def q38 (a0_0 : List AV) (a0_1 : List AV) (a0_2 : List AV) : Bool := (q27 a0_0 && (q27 a0_1 && q89 a0_2))
def v38_0 (a0_0 : List AV) (a0_1 : List AV) (a0_2 : List AV) : List AV := (v27_0 a0_0)
def v38_1 (a0_0 : List AV) (a0_1 : List AV) (a0_2 : List AV) : List AV := (v27_0 a0_1)
def v38_2 (a0_0 : List AV) (a0_1 : List AV) (a0_2 : List AV) : List AV := (v89_0 a0_2)
theorem e38 (a0_0 : List AV) (a0_1 : List AV) (a0_2 : List AV) : funA c38 0 38 [AV.agg [AV.sl [.int .i64] a0_0, AV.sl [.int .i64] a0_1, AV.sl [.int .i64, .int .i64] a0_2]] = (bif q27 a0_0 then (bif q27 a0_1 then (bif q89 a0_2 then some (AV.agg [AV.fl [.int .i64] (v27_0 a0_0), AV.fl [.int .i64] (v27_0 a0_1), AV.fl [.int .i64, .int .i64] (v89_0 a0_2)])
  else none)
  else none)
  else none) := by kernel_rfl
theorem r38 (a0_0 : List AV) (a0_1 : List AV) (a0_2 : List AV) (h : q38 a0_0 a0_1 a0_2 = true) : funA c38 0 38 [AV.agg [AV.sl [.int .i64] a0_0, AV.sl [.int .i64] a0_1, AV.sl [.int .i64, .int .i64] a0_2]] = some (AV.agg [AV.fl [.int .i64] (v38_0 a0_0 a0_1 a0_2), AV.fl [.int .i64] (v38_1 a0_0 a0_1 a0_2), AV.fl [.int .i64, .int .i64] (v38_2 a0_0 a0_1 a0_2)]) := (e38 a0_0 a0_1 a0_2).trans ((brL (brL (brL1 (fun _ => rfl)))) h)
def m38 : TModel
  | [.agg [.sl g0 a0_0, .sl g1 a0_1, .sl g2 a0_2]] => bif ctsEq g0 ([.int .i64]) && ctsEq g1 ([.int .i64]) && ctsEq g2 ([.int .i64, .int .i64]) then some (q38 a0_0 a0_1 a0_2, AV.agg [AV.fl [.int .i64] (v38_0 a0_0 a0_1 a0_2), AV.fl [.int .i64] (v38_1 a0_0 a0_1 a0_2), AV.fl [.int .i64, .int .i64] (v38_2 a0_0 a0_1 a0_2)]) else none
  | _ => none
theorem k38 : Known Try.prog 38 := ⟨Try.f38, Try.func38, by kernel_rfl, by kernel_rfl⟩
theorem meets38 : Meets Try.prog 38 m38 := by
  refine meet (f := Try.f38) (l := []) (hs := [(38, 999, [2])]) (ts := [(27, m27), (89, m89)]) (ws := []) (is := []) (ls := []) (lvl := 0) mixed k38 Try.func38 (by kernel_rfl) noLoop (allT_cons meets27 (allT_cons meets89 allT_nil)) allM_nil noI fun w xs us r hl hv h => ?_
  unfold m38 at h
  split at h
  · rename_i g0 a0_0 g1 a0_1 g2 a0_2
    obtain ⟨hg, h⟩ := bif_pair h
    simp only [Bool.and_eq_true] at hg
    obtain ⟨⟨q0, q1⟩, q2⟩ := hg
    obtain rfl := ctsEq_eq _ _ q0
    obtain rfl := ctsEq_eq _ _ q1
    obtain rfl := ctsEq_eq _ _ q2
    obtain ⟨h1, rfl⟩ := pair_inj h
    exact r38 a0_0 a0_1 a0_2 h1
  · cases h

/-! ### 107 loop.example/g01984/laws.toWorker -/
noncomputable def c107 : Cfg := cfg Try.prog [(107, 999, [2])] [(27, m27)] [] [] []
def q107 (a0_0 : List AV) (a0_1 : Int) (a0_2 : Bool) (a0_3 : Int) (a0_4 : Int) (a0_5 : Int) (a0_6 : Int) (a0_7 : Int) (a0_8 : Int) : Bool := q27 a0_0
def v107_0 (a0_0 : List AV) (a0_1 : Int) (a0_2 : Bool) (a0_3 : Int) (a0_4 : Int) (a0_5 : Int) (a0_6 : Int) (a0_7 : Int) (a0_8 : Int) : List AV := (v27_0 a0_0)
def v107_1 (a0_0 : List AV) (a0_1 : Int) (a0_2 : Bool) (a0_3 : Int) (a0_4 : Int) (a0_5 : Int) (a0_6 : Int) (a0_7 : Int) (a0_8 : Int) : Int := a0_1
def v107_2 (a0_0 : List AV) (a0_1 : Int) (a0_2 : Bool) (a0_3 : Int) (a0_4 : Int) (a0_5 : Int) (a0_6 : Int) (a0_7 : Int) (a0_8 : Int) : Bool := a0_2
def v107_3 (a0_0 : List AV) (a0_1 : Int) (a0_2 : Bool) (a0_3 : Int) (a0_4 : Int) (a0_5 : Int) (a0_6 : Int) (a0_7 : Int) (a0_8 : Int) : Int := a0_3
def v107_4 (a0_0 : List AV) (a0_1 : Int) (a0_2 : Bool) (a0_3 : Int) (a0_4 : Int) (a0_5 : Int) (a0_6 : Int) (a0_7 : Int) (a0_8 : Int) : Int := a0_4
def v107_5 (a0_0 : List AV) (a0_1 : Int) (a0_2 : Bool) (a0_3 : Int) (a0_4 : Int) (a0_5 : Int) (a0_6 : Int) (a0_7 : Int) (a0_8 : Int) : Int := a0_5
def v107_6 (a0_0 : List AV) (a0_1 : Int) (a0_2 : Bool) (a0_3 : Int) (a0_4 : Int) (a0_5 : Int) (a0_6 : Int) (a0_7 : Int) (a0_8 : Int) : Int := a0_6
def v107_7 (a0_0 : List AV) (a0_1 : Int) (a0_2 : Bool) (a0_3 : Int) (a0_4 : Int) (a0_5 : Int) (a0_6 : Int) (a0_7 : Int) (a0_8 : Int) : Int := a0_7
def v107_8 (a0_0 : List AV) (a0_1 : Int) (a0_2 : Bool) (a0_3 : Int) (a0_4 : Int) (a0_5 : Int) (a0_6 : Int) (a0_7 : Int) (a0_8 : Int) : Int := a0_8
theorem e107 (a0_0 : List AV) (a0_1 : Int) (a0_2 : Bool) (a0_3 : Int) (a0_4 : Int) (a0_5 : Int) (a0_6 : Int) (a0_7 : Int) (a0_8 : Int) : funA c107 0 107 [AV.agg [AV.sl [.int .i64] a0_0, AV.int .i64 a0_1, AV.bool a0_2, AV.int .i64 a0_3, AV.int .i64 a0_4, AV.int .i64 a0_5, AV.int .i64 a0_6, AV.int .i64 a0_7, AV.int .i64 a0_8]] = (bif q27 a0_0 then some (AV.agg [AV.fl [.int .i64] (v27_0 a0_0), AV.int .i64 a0_1, AV.bool a0_2, AV.int .i64 a0_3, AV.int .i64 a0_4, AV.int .i64 a0_5, AV.int .i64 a0_6, AV.int .i64 a0_7, AV.int .i64 a0_8])
  else none) := by kernel_rfl
theorem r107 (a0_0 : List AV) (a0_1 : Int) (a0_2 : Bool) (a0_3 : Int) (a0_4 : Int) (a0_5 : Int) (a0_6 : Int) (a0_7 : Int) (a0_8 : Int) (h : q107 a0_0 a0_1 a0_2 a0_3 a0_4 a0_5 a0_6 a0_7 a0_8 = true) : funA c107 0 107 [AV.agg [AV.sl [.int .i64] a0_0, AV.int .i64 a0_1, AV.bool a0_2, AV.int .i64 a0_3, AV.int .i64 a0_4, AV.int .i64 a0_5, AV.int .i64 a0_6, AV.int .i64 a0_7, AV.int .i64 a0_8]] = some (AV.agg [AV.fl [.int .i64] (v107_0 a0_0 a0_1 a0_2 a0_3 a0_4 a0_5 a0_6 a0_7 a0_8), AV.int .i64 (v107_1 a0_0 a0_1 a0_2 a0_3 a0_4 a0_5 a0_6 a0_7 a0_8), AV.bool (v107_2 a0_0 a0_1 a0_2 a0_3 a0_4 a0_5 a0_6 a0_7 a0_8), AV.int .i64 (v107_3 a0_0 a0_1 a0_2 a0_3 a0_4 a0_5 a0_6 a0_7 a0_8), AV.int .i64 (v107_4 a0_0 a0_1 a0_2 a0_3 a0_4 a0_5 a0_6 a0_7 a0_8), AV.int .i64 (v107_5 a0_0 a0_1 a0_2 a0_3 a0_4 a0_5 a0_6 a0_7 a0_8), AV.int .i64 (v107_6 a0_0 a0_1 a0_2 a0_3 a0_4 a0_5 a0_6 a0_7 a0_8), AV.int .i64 (v107_7 a0_0 a0_1 a0_2 a0_3 a0_4 a0_5 a0_6 a0_7 a0_8), AV.int .i64 (v107_8 a0_0 a0_1 a0_2 a0_3 a0_4 a0_5 a0_6 a0_7 a0_8)]) := (e107 a0_0 a0_1 a0_2 a0_3 a0_4 a0_5 a0_6 a0_7 a0_8).trans ((brL1 (fun _ => rfl)) h)
def m107 : TModel
  | [.agg [.sl g0 a0_0, .int .i64 a0_1, .bool a0_2, .int .i64 a0_3, .int .i64 a0_4, .int .i64 a0_5, .int .i64 a0_6, .int .i64 a0_7, .int .i64 a0_8]] => bif ctsEq g0 ([.int .i64]) then some (q107 a0_0 a0_1 a0_2 a0_3 a0_4 a0_5 a0_6 a0_7 a0_8, AV.agg [AV.fl [.int .i64] (v107_0 a0_0 a0_1 a0_2 a0_3 a0_4 a0_5 a0_6 a0_7 a0_8), AV.int .i64 (v107_1 a0_0 a0_1 a0_2 a0_3 a0_4 a0_5 a0_6 a0_7 a0_8), AV.bool (v107_2 a0_0 a0_1 a0_2 a0_3 a0_4 a0_5 a0_6 a0_7 a0_8), AV.int .i64 (v107_3 a0_0 a0_1 a0_2 a0_3 a0_4 a0_5 a0_6 a0_7 a0_8), AV.int .i64 (v107_4 a0_0 a0_1 a0_2 a0_3 a0_4 a0_5 a0_6 a0_7 a0_8), AV.int .i64 (v107_5 a0_0 a0_1 a0_2 a0_3 a0_4 a0_5 a0_6 a0_7 a0_8), AV.int .i64 (v107_6 a0_0 a0_1 a0_2 a0_3 a0_4 a0_5 a0_6 a0_7 a0_8), AV.int .i64 (v107_7 a0_0 a0_1 a0_2 a0_3 a0_4 a0_5 a0_6 a0_7 a0_8), AV.int .i64 (v107_8 a0_0 a0_1 a0_2 a0_3 a0_4 a0_5 a0_6 a0_7 a0_8)]) else none
  | _ => none
theorem k107 : Known Try.prog 107 := ⟨Try.f107, Try.func107, by kernel_rfl, by kernel_rfl⟩
theorem meets107 : Meets Try.prog 107 m107 := by
  refine meet (f := Try.f107) (l := []) (hs := [(107, 999, [2])]) (ts := [(27, m27)]) (ws := []) (is := []) (ls := []) (lvl := 0) mixed k107 Try.func107 (by kernel_rfl) noLoop (allT_cons meets27 allT_nil) allM_nil noI fun w xs us r hl hv h => ?_
  unfold m107 at h
  split at h
  · rename_i g0 a0_0 a0_1 a0_2 a0_3 a0_4 a0_5 a0_6 a0_7 a0_8
    obtain ⟨hg, h⟩ := bif_pair h
    have q0 := hg
    obtain rfl := ctsEq_eq _ _ q0
    obtain ⟨h1, rfl⟩ := pair_inj h
    exact r107 a0_0 a0_1 a0_2 a0_3 a0_4 a0_5 a0_6 a0_7 a0_8 h1
  · cases h

/-! ### 60 loop.example/g01984/laws.toWorkerS -/
def F60_0 (t0 : List AV) (t4 : Int) (h0 : List AV) : Out ((Int × (List AV))) (((List AV))) := (bif decide (t4 < (t0.length : Int)) then (bif (decide (0 ≤ t4) && decide (t4 < (t0.length : Int))) then (bif q107 (fL (t0.getD t4.toNat AV.undef) 0) (fI (t0.getD t4.toNat AV.undef) 1) (fB (t0.getD t4.toNat AV.undef) 2) (fI (t0.getD t4.toNat AV.undef) 3) (fI (t0.getD t4.toNat AV.undef) 4) (fI (t0.getD t4.toNat AV.undef) 5) (fI (t0.getD t4.toNat AV.undef) 6) (fI (t0.getD t4.toNat AV.undef) 7) (fI (t0.getD t4.toNat AV.undef) 8) then (bif (decide (0 ≤ t4) && decide (t4 < (h0.length : Int))) then .next (IntKind.i64.wrap (t4 + 1), h0.set t4.toNat (AV.agg [AV.sl [.int .i64] (v107_0 (fL (t0.getD t4.toNat AV.undef) 0) (fI (t0.getD t4.toNat AV.undef) 1) (fB (t0.getD t4.toNat AV.undef) 2) (fI (t0.getD t4.toNat AV.undef) 3) (fI (t0.getD t4.toNat AV.undef) 4) (fI (t0.getD t4.toNat AV.undef) 5) (fI (t0.getD t4.toNat AV.undef) 6) (fI (t0.getD t4.toNat AV.undef) 7) (fI (t0.getD t4.toNat AV.undef) 8)), AV.int .i64 (v107_1 (fL (t0.getD t4.toNat AV.undef) 0) (fI (t0.getD t4.toNat AV.undef) 1) (fB (t0.getD t4.toNat AV.undef) 2) (fI (t0.getD t4.toNat AV.undef) 3) (fI (t0.getD t4.toNat AV.undef) 4) (fI (t0.getD t4.toNat AV.undef) 5) (fI (t0.getD t4.toNat AV.undef) 6) (fI (t0.getD t4.toNat AV.undef) 7) (fI (t0.getD t4.toNat AV.undef) 8)), AV.bool (v107_2 (fL (t0.getD t4.toNat AV.undef) 0) (fI (t0.getD t4.toNat AV.undef) 1) (fB (t0.getD t4.toNat AV.undef) 2) (fI (t0.getD t4.toNat AV.undef) 3) (fI (t0.getD t4.toNat AV.undef) 4) (fI (t0.getD t4.toNat AV.undef) 5) (fI (t0.getD t4.toNat AV.undef) 6) (fI (t0.getD t4.toNat AV.undef) 7) (fI (t0.getD t4.toNat AV.undef) 8)), AV.int .i64 (v107_3 (fL (t0.getD t4.toNat AV.undef) 0) (fI (t0.getD t4.toNat AV.undef) 1) (fB (t0.getD t4.toNat AV.undef) 2) (fI (t0.getD t4.toNat AV.undef) 3) (fI (t0.getD t4.toNat AV.undef) 4) (fI (t0.getD t4.toNat AV.undef) 5) (fI (t0.getD t4.toNat AV.undef) 6) (fI (t0.getD t4.toNat AV.undef) 7) (fI (t0.getD t4.toNat AV.undef) 8)), AV.int .i64 (v107_4 (fL (t0.getD t4.toNat AV.undef) 0) (fI (t0.getD t4.toNat AV.undef) 1) (fB (t0.getD t4.toNat AV.undef) 2) (fI (t0.getD t4.toNat AV.undef) 3) (fI (t0.getD t4.toNat AV.undef) 4) (fI (t0.getD t4.toNat AV.undef) 5) (fI (t0.getD t4.toNat AV.undef) 6) (fI (t0.getD t4.toNat AV.undef) 7) (fI (t0.getD t4.toNat AV.undef) 8)), AV.int .i64 (v107_5 (fL (t0.getD t4.toNat AV.undef) 0) (fI (t0.getD t4.toNat AV.undef) 1) (fB (t0.getD t4.toNat AV.undef) 2) (fI (t0.getD t4.toNat AV.undef) 3) (fI (t0.getD t4.toNat AV.undef) 4) (fI (t0.getD t4.toNat AV.undef) 5) (fI (t0.getD t4.toNat AV.undef) 6) (fI (t0.getD t4.toNat AV.undef) 7) (fI (t0.getD t4.toNat AV.undef) 8)), AV.int .i64 (v107_6 (fL (t0.getD t4.toNat AV.undef) 0) (fI (t0.getD t4.toNat AV.undef) 1) (fB (t0.getD t4.toNat AV.undef) 2) (fI (t0.getD t4.toNat AV.undef) 3) (fI (t0.getD t4.toNat AV.undef) 4) (fI (t0.getD t4.toNat AV.undef) 5) (fI (t0.getD t4.toNat AV.undef) 6) (fI (t0.getD t4.toNat AV.undef) 7) (fI (t0.getD t4.toNat AV.undef) 8)), AV.int .i64 (v107_7 (fL (t0.getD t4.toNat AV.undef) 0) (fI (t0.getD t4.toNat AV.undef) 1) (fB (t0.getD t4.toNat AV.undef) 2) (fI (t0.getD t4.toNat AV.undef) 3) (fI (t0.getD t4.toNat AV.undef) 4) (fI (t0.getD t4.toNat AV.undef) 5) (fI (t0.getD t4.toNat AV.undef) 6) (fI (t0.getD t4.toNat AV.undef) 7) (fI (t0.getD t4.toNat AV.undef) 8)), AV.int .i64 (v107_8 (fL (t0.getD t4.toNat AV.undef) 0) (fI (t0.getD t4.toNat AV.undef) 1) (fB (t0.getD t4.toNat AV.undef) 2) (fI (t0.getD t4.toNat AV.undef) 3) (fI (t0.getD t4.toNat AV.undef) 4) (fI (t0.getD t4.toNat AV.undef) 5) (fI (t0.getD t4.toNat AV.undef) 6) (fI (t0.getD t4.toNat AV.undef) 7) (fI (t0.getD t4.toNat AV.undef) 8))]))
  else .fail)
  else .fail)
  else .fail)
  else .stop h0)
def R60_0 (t0 : List AV) : ((Int × (List AV))) → Out ((Int × (List AV))) (((List AV))) := fun s : Int × (List AV) => F60_0 t0 s.1 s.2
def l60_0 : LModel := fun _ _ st k => match st with
  | ⟨[(0, .sl g0 t0), (3, .own g1), (4, .int .i64 t4)], [(g2, ⟨false, g3, h0⟩)]⟩ => bif ctsEq g0 ([.sl [.int .i64], .int .i64, .bool, .int .i64, .int .i64, .int .i64, .int .i64, .int .i64, .int .i64]) && nmEq g1 ([0, 3]) && nmEq g2 ([0, 3]) && ctsEq g3 ([.sl [.int .i64], .int .i64, .bool, .int .i64, .int .i64, .int .i64, .int .i64, .int .i64, .int .i64]) then ro (runW (R60_0 t0) (((t0.length : Int) - t4).toNat + 1) (t4, h0)) none (fun p : (List AV) => k (.exit 0) ⟨[(3, AV.own [0, 3])], [([0, 3], ⟨false, [.sl [.int .i64], .int .i64, .bool, .int .i64, .int .i64, .int .i64, .int .i64, .int .i64, .int .i64], p⟩)]⟩) else none
  | _ => none
noncomputable def c60 : Cfg := cfg Try.prog [(60, 0, [0, 3, 4]), (60, 999, [2]), (60, 1000, [3]), (60, 1001, [0, 3, 4])] [(107, m107)] [] [] [(60, 0, l60_0)]
theorem s60_0 (ce : CallE) (t0 : List AV) (t4 : Int) (h0 : List AV) (next : St → Option AV) (k : Kont) : stepA (codeA c60 ce [] 60 0 (sub [1, 1, 0, 1, 0, 0] (body Try.f60))) (normA [] [0, 3, 4]) next ⟨[(0, AV.sl [.sl [.int .i64], .int .i64, .bool, .int .i64, .int .i64, .int .i64, .int .i64, .int .i64, .int .i64] t0), (3, AV.own [0, 3]), (4, AV.int .i64 t4)], [([0, 3], ⟨false, [.sl [.int .i64], .int .i64, .bool, .int .i64, .int .i64, .int .i64, .int .i64, .int .i64, .int .i64], h0⟩)]⟩ k = (bif decide (t4 < (t0.length : Int)) then (bif (decide (0 ≤ t4) && decide (t4 < (t0.length : Int))) then (bif q107 (fL (t0.getD t4.toNat AV.undef) 0) (fI (t0.getD t4.toNat AV.undef) 1) (fB (t0.getD t4.toNat AV.undef) 2) (fI (t0.getD t4.toNat AV.undef) 3) (fI (t0.getD t4.toNat AV.undef) 4) (fI (t0.getD t4.toNat AV.undef) 5) (fI (t0.getD t4.toNat AV.undef) 6) (fI (t0.getD t4.toNat AV.undef) 7) (fI (t0.getD t4.toNat AV.undef) 8) then (bif (decide (0 ≤ t4) && decide (t4 < (h0.length : Int))) then next ⟨[(0, AV.sl [.sl [.int .i64], .int .i64, .bool, .int .i64, .int .i64, .int .i64, .int .i64, .int .i64, .int .i64] t0), (3, AV.own [0, 3]), (4, AV.int .i64 (IntKind.i64.wrap (t4 + 1)))], [([0, 3], ⟨false, [.sl [.int .i64], .int .i64, .bool, .int .i64, .int .i64, .int .i64, .int .i64, .int .i64, .int .i64], h0.set t4.toNat (AV.agg [AV.sl [.int .i64] (v107_0 (fL (t0.getD t4.toNat AV.undef) 0) (fI (t0.getD t4.toNat AV.undef) 1) (fB (t0.getD t4.toNat AV.undef) 2) (fI (t0.getD t4.toNat AV.undef) 3) (fI (t0.getD t4.toNat AV.undef) 4) (fI (t0.getD t4.toNat AV.undef) 5) (fI (t0.getD t4.toNat AV.undef) 6) (fI (t0.getD t4.toNat AV.undef) 7) (fI (t0.getD t4.toNat AV.undef) 8)), AV.int .i64 (v107_1 (fL (t0.getD t4.toNat AV.undef) 0) (fI (t0.getD t4.toNat AV.undef) 1) (fB (t0.getD t4.toNat AV.undef) 2) (fI (t0.getD t4.toNat AV.undef) 3) (fI (t0.getD t4.toNat AV.undef) 4) (fI (t0.getD t4.toNat AV.undef) 5) (fI (t0.getD t4.toNat AV.undef) 6) (fI (t0.getD t4.toNat AV.undef) 7) (fI (t0.getD t4.toNat AV.undef) 8)), AV.bool (v107_2 (fL (t0.getD t4.toNat AV.undef) 0) (fI (t0.getD t4.toNat AV.undef) 1) (fB (t0.getD t4.toNat AV.undef) 2) (fI (t0.getD t4.toNat AV.undef) 3) (fI (t0.getD t4.toNat AV.undef) 4) (fI (t0.getD t4.toNat AV.undef) 5) (fI (t0.getD t4.toNat AV.undef) 6) (fI (t0.getD t4.toNat AV.undef) 7) (fI (t0.getD t4.toNat AV.undef) 8)), AV.int .i64 (v107_3 (fL (t0.getD t4.toNat AV.undef) 0) (fI (t0.getD t4.toNat AV.undef) 1) (fB (t0.getD t4.toNat AV.undef) 2) (fI (t0.getD t4.toNat AV.undef) 3) (fI (t0.getD t4.toNat AV.undef) 4) (fI (t0.getD t4.toNat AV.undef) 5) (fI (t0.getD t4.toNat AV.undef) 6) (fI (t0.getD t4.toNat AV.undef) 7) (fI (t0.getD t4.toNat AV.undef) 8)), AV.int .i64 (v107_4 (fL (t0.getD t4.toNat AV.undef) 0) (fI (t0.getD t4.toNat AV.undef) 1) (fB (t0.getD t4.toNat AV.undef) 2) (fI (t0.getD t4.toNat AV.undef) 3) (fI (t0.getD t4.toNat AV.undef) 4) (fI (t0.getD t4.toNat AV.undef) 5) (fI (t0.getD t4.toNat AV.undef) 6) (fI (t0.getD t4.toNat AV.undef) 7) (fI (t0.getD t4.toNat AV.undef) 8)), AV.int .i64 (v107_5 (fL (t0.getD t4.toNat AV.undef) 0) (fI (t0.getD t4.toNat AV.undef) 1) (fB (t0.getD t4.toNat AV.undef) 2) (fI (t0.getD t4.toNat AV.undef) 3) (fI (t0.getD t4.toNat AV.undef) 4) (fI (t0.getD t4.toNat AV.undef) 5) (fI (t0.getD t4.toNat AV.undef) 6) (fI (t0.getD t4.toNat AV.undef) 7) (fI (t0.getD t4.toNat AV.undef) 8)), AV.int .i64 (v107_6 (fL (t0.getD t4.toNat AV.undef) 0) (fI (t0.getD t4.toNat AV.undef) 1) (fB (t0.getD t4.toNat AV.undef) 2) (fI (t0.getD t4.toNat AV.undef) 3) (fI (t0.getD t4.toNat AV.undef) 4) (fI (t0.getD t4.toNat AV.undef) 5) (fI (t0.getD t4.toNat AV.undef) 6) (fI (t0.getD t4.toNat AV.undef) 7) (fI (t0.getD t4.toNat AV.undef) 8)), AV.int .i64 (v107_7 (fL (t0.getD t4.toNat AV.undef) 0) (fI (t0.getD t4.toNat AV.undef) 1) (fB (t0.getD t4.toNat AV.undef) 2) (fI (t0.getD t4.toNat AV.undef) 3) (fI (t0.getD t4.toNat AV.undef) 4) (fI (t0.getD t4.toNat AV.undef) 5) (fI (t0.getD t4.toNat AV.undef) 6) (fI (t0.getD t4.toNat AV.undef) 7) (fI (t0.getD t4.toNat AV.undef) 8)), AV.int .i64 (v107_8 (fL (t0.getD t4.toNat AV.undef) 0) (fI (t0.getD t4.toNat AV.undef) 1) (fB (t0.getD t4.toNat AV.undef) 2) (fI (t0.getD t4.toNat AV.undef) 3) (fI (t0.getD t4.toNat AV.undef) 4) (fI (t0.getD t4.toNat AV.undef) 5) (fI (t0.getD t4.toNat AV.undef) 6) (fI (t0.getD t4.toNat AV.undef) 7) (fI (t0.getD t4.toNat AV.undef) 8))])⟩)]⟩
  else none)
  else none)
  else none)
  else k (.exit 0) ⟨[(3, AV.own [0, 3])], [([0, 3], ⟨false, [.sl [.int .i64], .int .i64, .bool, .int .i64, .int .i64, .int .i64, .int .i64, .int .i64, .int .i64], h0⟩)]⟩) := by kernel_rfl
theorem st60_0 (t0 : List AV) (ce : CallE) (k : Kont) (s : (Int × (List AV))) (next : St → Option AV) : stepA (codeA c60 ce [] 60 0 (sub [1, 1, 0, 1, 0, 0] (body Try.f60))) (normA [] [0, 3, 4]) next ((fun s : Int × (List AV) => ⟨[(0, AV.sl [.sl [.int .i64], .int .i64, .bool, .int .i64, .int .i64, .int .i64, .int .i64, .int .i64, .int .i64] t0), (3, AV.own [0, 3]), (4, AV.int .i64 s.1)], [([0, 3], ⟨false, [.sl [.int .i64], .int .i64, .bool, .int .i64, .int .i64, .int .i64, .int .i64, .int .i64, .int .i64], s.2⟩)]⟩) s) k = (R60_0 t0 s).el none (fun s => next ((fun s : Int × (List AV) => ⟨[(0, AV.sl [.sl [.int .i64], .int .i64, .bool, .int .i64, .int .i64, .int .i64, .int .i64, .int .i64, .int .i64] t0), (3, AV.own [0, 3]), (4, AV.int .i64 s.1)], [([0, 3], ⟨false, [.sl [.int .i64], .int .i64, .bool, .int .i64, .int .i64, .int .i64, .int .i64, .int .i64, .int .i64], s.2⟩)]⟩) s)) (fun p : (List AV) => k (.exit 0) ⟨[(3, AV.own [0, 3])], [([0, 3], ⟨false, [.sl [.int .i64], .int .i64, .bool, .int .i64, .int .i64, .int .i64, .int .i64, .int .i64, .int .i64], p⟩)]⟩) := (s60_0 ce t0 s.1 s.2 next k).trans (by unfold R60_0; unfold F60_0; simp only [el_cond, el_ro, el_sum, el_fail, el_next, el_stop] <;> rfl)
theorem ok60_0 {ce : CallE} : LoopOK c60 ce [] 60 0 (sub [1, 1, 0, 1, 0, 0] (body Try.f60)) := by
  intro m hm st k r h
  obtain rfl : l60_0 = m := Option.some.inj hm
  unfold l60_0 at h
  split at h
  · rename_i g0 t0 g1 t4 g2 g3 h0
    obtain ⟨hg, h⟩ := bif_some h
    simp only [Bool.and_eq_true] at hg
    obtain ⟨⟨⟨q0, q1⟩, q2⟩, q3⟩ := hg
    obtain rfl := ctsEq_eq _ _ q0
    obtain rfl := (nmEq_iff _ _).1 q1
    obtain rfl := (nmEq_iff _ _).1 q2
    obtain rfl := ctsEq_eq _ _ q3
    refine ⟨(((t0.length : Int) - t4).toNat + 1), ?_⟩
    rw [← h]
    exact loop_run (fun s : Int × (List AV) => ⟨[(0, AV.sl [.sl [.int .i64], .int .i64, .bool, .int .i64, .int .i64, .int .i64, .int .i64, .int .i64, .int .i64] t0), (3, AV.own [0, 3]), (4, AV.int .i64 s.1)], [([0, 3], ⟨false, [.sl [.int .i64], .int .i64, .bool, .int .i64, .int .i64, .int .i64, .int .i64, .int .i64, .int .i64], s.2⟩)]⟩) (fun p : (List AV) => k (.exit 0) ⟨[(3, AV.own [0, 3])], [([0, 3], ⟨false, [.sl [.int .i64], .int .i64, .bool, .int .i64, .int .i64, .int .i64, .int .i64, .int .i64, .int .i64], p⟩)]⟩) (st60_0 t0 ce k) _ (t4, h0)
  · cases h
def q60 (a0 : List AV) : Bool := ((decide (0 ≤ (a0.length : Int)) && decide ((a0.length : Int) ≤ (a0.length : Int)) && decide ((a0.length : Int) * 88 ≤ 140737488355328) && decide ((a0.length : Int) ≤ 140737488355328)) && (ro (runW (R60_0 a0) (((a0.length : Int) - 0).toNat + 1) (0, List.replicate (Int.toNat (a0.length : Int)) (AV.agg [AV.sl [.int .i64] ([] : List AV), AV.int .i64 0, AV.bool false, AV.int .i64 0, AV.int .i64 0, AV.int .i64 0, AV.int .i64 0, AV.int .i64 0, AV.int .i64 0]))) false (fun p5 => true)))
def v60_0 (a0 : List AV) : List AV := (ro (runW (R60_0 a0) (((a0.length : Int) - 0).toNat + 1) (0, List.replicate (Int.toNat (a0.length : Int)) (AV.agg [AV.sl [.int .i64] ([] : List AV), AV.int .i64 0, AV.bool false, AV.int .i64 0, AV.int .i64 0, AV.int .i64 0, AV.int .i64 0, AV.int .i64 0, AV.int .i64 0]))) [] (fun p5 => p5))
theorem e60 (a0 : List AV) : funA c60 0 60 [AV.sl [.sl [.int .i64], .int .i64, .bool, .int .i64, .int .i64, .int .i64, .int .i64, .int .i64, .int .i64] a0] = (bif (decide (0 ≤ (a0.length : Int)) && decide ((a0.length : Int) ≤ (a0.length : Int)) && decide ((a0.length : Int) * 88 ≤ 140737488355328) && decide ((a0.length : Int) ≤ 140737488355328)) then (ro (runW (R60_0 a0) (((a0.length : Int) - 0).toNat + 1) (0, List.replicate (Int.toNat (a0.length : Int)) (AV.agg [AV.sl [.int .i64] ([] : List AV), AV.int .i64 0, AV.bool false, AV.int .i64 0, AV.int .i64 0, AV.int .i64 0, AV.int .i64 0, AV.int .i64 0, AV.int .i64 0]))) none (fun p5 => some (AV.fl [.sl [.int .i64], .int .i64, .bool, .int .i64, .int .i64, .int .i64, .int .i64, .int .i64, .int .i64] p5)))
  else none) := by kernel_rfl
theorem r60 (a0 : List AV) (h : q60 a0 = true) : funA c60 0 60 [AV.sl [.sl [.int .i64], .int .i64, .bool, .int .i64, .int .i64, .int .i64, .int .i64, .int .i64, .int .i64] a0] = some (AV.fl [.sl [.int .i64], .int .i64, .bool, .int .i64, .int .i64, .int .i64, .int .i64, .int .i64, .int .i64] (v60_0 a0)) := (e60 a0).trans ((brL (brO (fun o : Option (((List AV))) => some (AV.fl [.sl [.int .i64], .int .i64, .bool, .int .i64, .int .i64, .int .i64, .int .i64, .int .i64, .int .i64] (ro o [] (fun p5 => p5)))) (fun p5 => (fun _ => rfl)))) h)
def m60 : TModel
  | [.sl g0 a0] => bif ctsEq g0 ([.sl [.int .i64], .int .i64, .bool, .int .i64, .int .i64, .int .i64, .int .i64, .int .i64, .int .i64]) then some (q60 a0, AV.fl [.sl [.int .i64], .int .i64, .bool, .int .i64, .int .i64, .int .i64, .int .i64, .int .i64, .int .i64] (v60_0 a0)) else none
  | _ => none
theorem k60 : Known Try.prog 60 := ⟨Try.f60, Try.func60, by kernel_rfl, by kernel_rfl⟩
theorem meets60 : Meets Try.prog 60 m60 := by
  refine meet (f := Try.f60) (l := [(0, sub [1, 1, 0, 1, 0, 0] (body Try.f60))]) (hs := [(60, 0, [0, 3, 4]), (60, 999, [2]), (60, 1000, [3]), (60, 1001, [0, 3, 4])]) (ts := [(107, m107)]) (ws := []) (is := []) (ls := [(60, 0, l60_0)]) (lvl := 0) mixed k60 Try.func60 (by kernel_rfl) (loops_cons ok60_0 noLoop) (allT_cons meets107 allT_nil) allM_nil noI fun w xs us r hl hv h => ?_
  unfold m60 at h
  split at h
  · rename_i g0 a0
    obtain ⟨hg, h⟩ := bif_pair h
    have q0 := hg
    obtain rfl := ctsEq_eq _ _ q0
    obtain ⟨h1, rfl⟩ := pair_inj h
    exact r60 a0 h1
  · cases h

/-! ### 16 loop.example/g01984/laws.toBoard -/
noncomputable def c16 : Cfg := cfg Try.prog [(16, 999, [2])] [(38, m38), (60, m60)] [] [] []
def q16 (a0_0 : List AV) (a0_1 : List AV) (a0_2 : List AV) (a0_3 : List AV) (a0_4 : Int) : Bool := (q38 a0_0 a0_1 a0_2 && q60 a0_3)
def v16_0 (a0_0 : List AV) (a0_1 : List AV) (a0_2 : List AV) (a0_3 : List AV) (a0_4 : Int) : List AV := (v38_0 a0_0 a0_1 a0_2)
def v16_1 (a0_0 : List AV) (a0_1 : List AV) (a0_2 : List AV) (a0_3 : List AV) (a0_4 : Int) : List AV := (v38_1 a0_0 a0_1 a0_2)
def v16_2 (a0_0 : List AV) (a0_1 : List AV) (a0_2 : List AV) (a0_3 : List AV) (a0_4 : Int) : List AV := (v38_2 a0_0 a0_1 a0_2)
def v16_3 (a0_0 : List AV) (a0_1 : List AV) (a0_2 : List AV) (a0_3 : List AV) (a0_4 : Int) : List AV := (v60_0 a0_3)
def v16_4 (a0_0 : List AV) (a0_1 : List AV) (a0_2 : List AV) (a0_3 : List AV) (a0_4 : Int) : Int := a0_4
theorem e16 (a0_0 : List AV) (a0_1 : List AV) (a0_2 : List AV) (a0_3 : List AV) (a0_4 : Int) : funA c16 0 16 [AV.agg [AV.sl [.int .i64] a0_0, AV.sl [.int .i64] a0_1, AV.sl [.int .i64, .int .i64] a0_2, AV.sl [.sl [.int .i64], .int .i64, .bool, .int .i64, .int .i64, .int .i64, .int .i64, .int .i64, .int .i64] a0_3, AV.int .i64 a0_4]] = (bif q38 a0_0 a0_1 a0_2 then (bif q60 a0_3 then some (AV.agg [AV.fl [.int .i64] (v38_0 a0_0 a0_1 a0_2), AV.fl [.int .i64] (v38_1 a0_0 a0_1 a0_2), AV.fl [.int .i64, .int .i64] (v38_2 a0_0 a0_1 a0_2), AV.fl [.sl [.int .i64], .int .i64, .bool, .int .i64, .int .i64, .int .i64, .int .i64, .int .i64, .int .i64] (v60_0 a0_3), AV.int .i64 a0_4])
  else none)
  else none) := by kernel_rfl
theorem r16 (a0_0 : List AV) (a0_1 : List AV) (a0_2 : List AV) (a0_3 : List AV) (a0_4 : Int) (h : q16 a0_0 a0_1 a0_2 a0_3 a0_4 = true) : funA c16 0 16 [AV.agg [AV.sl [.int .i64] a0_0, AV.sl [.int .i64] a0_1, AV.sl [.int .i64, .int .i64] a0_2, AV.sl [.sl [.int .i64], .int .i64, .bool, .int .i64, .int .i64, .int .i64, .int .i64, .int .i64, .int .i64] a0_3, AV.int .i64 a0_4]] = some (AV.agg [AV.fl [.int .i64] (v16_0 a0_0 a0_1 a0_2 a0_3 a0_4), AV.fl [.int .i64] (v16_1 a0_0 a0_1 a0_2 a0_3 a0_4), AV.fl [.int .i64, .int .i64] (v16_2 a0_0 a0_1 a0_2 a0_3 a0_4), AV.fl [.sl [.int .i64], .int .i64, .bool, .int .i64, .int .i64, .int .i64, .int .i64, .int .i64, .int .i64] (v16_3 a0_0 a0_1 a0_2 a0_3 a0_4), AV.int .i64 (v16_4 a0_0 a0_1 a0_2 a0_3 a0_4)]) := (e16 a0_0 a0_1 a0_2 a0_3 a0_4).trans ((brL (brL1 (fun _ => rfl))) h)
def m16 : TModel
  | [.agg [.sl g0 a0_0, .sl g1 a0_1, .sl g2 a0_2, .sl g3 a0_3, .int .i64 a0_4]] => bif ctsEq g0 ([.int .i64]) && ctsEq g1 ([.int .i64]) && ctsEq g2 ([.int .i64, .int .i64]) && ctsEq g3 ([.sl [.int .i64], .int .i64, .bool, .int .i64, .int .i64, .int .i64, .int .i64, .int .i64, .int .i64]) then some (q16 a0_0 a0_1 a0_2 a0_3 a0_4, AV.agg [AV.fl [.int .i64] (v16_0 a0_0 a0_1 a0_2 a0_3 a0_4), AV.fl [.int .i64] (v16_1 a0_0 a0_1 a0_2 a0_3 a0_4), AV.fl [.int .i64, .int .i64] (v16_2 a0_0 a0_1 a0_2 a0_3 a0_4), AV.fl [.sl [.int .i64], .int .i64, .bool, .int .i64, .int .i64, .int .i64, .int .i64, .int .i64, .int .i64] (v16_3 a0_0 a0_1 a0_2 a0_3 a0_4), AV.int .i64 (v16_4 a0_0 a0_1 a0_2 a0_3 a0_4)]) else none
  | _ => none
theorem k16 : Known Try.prog 16 := ⟨Try.f16, Try.func16, by kernel_rfl, by kernel_rfl⟩
theorem meets16 : Meets Try.prog 16 m16 := by
  refine meet (f := Try.f16) (l := []) (hs := [(16, 999, [2])]) (ts := [(38, m38), (60, m60)]) (ws := []) (is := []) (ls := []) (lvl := 0) mixed k16 Try.func16 (by kernel_rfl) noLoop (allT_cons meets38 (allT_cons meets60 allT_nil)) allM_nil noI fun w xs us r hl hv h => ?_
  unfold m16 at h
  split at h
  · rename_i g0 a0_0 g1 a0_1 g2 a0_2 g3 a0_3 a0_4
    obtain ⟨hg, h⟩ := bif_pair h
    simp only [Bool.and_eq_true] at hg
    obtain ⟨⟨⟨q0, q1⟩, q2⟩, q3⟩ := hg
    obtain rfl := ctsEq_eq _ _ q0
    obtain rfl := ctsEq_eq _ _ q1
    obtain rfl := ctsEq_eq _ _ q2
    obtain rfl := ctsEq_eq _ _ q3
    obtain ⟨h1, rfl⟩ := pair_inj h
    exact r16 a0_0 a0_1 a0_2 a0_3 a0_4 h1
  · cases h

/-! ### 67 loop.example/g01984/spec.l1In -/
noncomputable def c67 : Cfg := cfg Try.prog [(67, 999, [6])] [] [] [] []
def q67 (a0 : Int) (a1 : Int) (a2 : Int) : Bool := true
def v67_0 (a0 : Int) (a1 : Int) (a2 : Int) : Bool := (bif decide (a0 ≥ a1) then decide (a0 ≤ a2) else false)
theorem e67 (a0 : Int) (a1 : Int) (a2 : Int) : funA c67 0 67 [AV.int .i64 a0, AV.int .i64 a1, AV.int .i64 a2] = (bif decide (a0 ≥ a1) then some (AV.bool (decide (a0 ≤ a2)))
  else some (AV.bool false)) := by kernel_rfl
theorem r67 (a0 : Int) (a1 : Int) (a2 : Int) : funA c67 0 67 [AV.int .i64 a0, AV.int .i64 a1, AV.int .i64 a2] = some (AV.bool (v67_0 a0 a1 a2)) := (e67 a0 a1 a2).trans (of_tt (brT (fun b => some (AV.bool (bif b then decide (a0 ≤ a2) else false))) (fun _ => rfl) (fun _ => rfl)))
def m67 : TModel
  | [.int .i64 a0, .int .i64 a1, .int .i64 a2] => some (true, AV.bool (v67_0 a0 a1 a2))
  | _ => none
theorem k67 : Known Try.prog 67 := ⟨Try.f67, Try.func67, by kernel_rfl, by kernel_rfl⟩
theorem meets67 : Meets Try.prog 67 m67 := by
  refine meet (f := Try.f67) (l := []) (hs := [(67, 999, [6])]) (ts := []) (ws := []) (is := []) (ls := []) (lvl := 0) mixed k67 Try.func67 (by kernel_rfl) noLoop allT_nil allM_nil noI fun w xs us r hl hv h => ?_
  unfold m67 at h
  split at h
  · rename_i a0 a1 a2
    obtain ⟨h1, rfl⟩ := pair_inj h
    exact r67 a0 a1 a2
  · cases h

/-! ### 81 loop.example/g01984/spec.AreValues -/
def F81_0 (t0 : List AV) (t3 : Int) : Out (Int) (Unit ⊕ Unit) := (bif decide (t3 < (t0.length : Int)) then (bif (decide (0 ≤ t3) && decide (t3 < (t0.length : Int))) then (bif !(v67_0 (fI (t0.getD t3.toNat AV.undef) 0) (-999) 999) then .stop (.inr ())
  else .next (IntKind.i64.wrap (t3 + 1)))
  else .fail)
  else .stop (.inl ()))
def R81_0 (t0 : List AV) : (Int) → Out (Int) (Unit ⊕ Unit) := fun s : Int => F81_0 t0 s
def l81_0 : LModel := fun _ _ st k => match st with
  | ⟨[(0, .sl g0 t0), (3, .int .i64 t3)], []⟩ => bif ctsEq g0 ([.int .i64]) then ro (runW (R81_0 t0) (((t0.length : Int) - t3).toNat + 1) t3) none (sumE (fun _ : Unit => k (.exit 0) ⟨[(0, AV.sl [.int .i64] t0)], []⟩) (fun _ : Unit => k .ret ⟨[(2, AV.bool false)], []⟩)) else none
  | _ => none
noncomputable def c81 : Cfg := cfg Try.prog [(81, 0, [0, 3]), (81, 999, [2]), (81, 1000, [0]), (81, 1001, [0, 3])] [(67, m67)] [] [] [(81, 0, l81_0)]
theorem s81_0 (ce : CallE) (t0 : List AV) (t3 : Int) (next : St → Option AV) (k : Kont) : stepA (codeA c81 ce [] 81 0 (sub [1, 0, 1, 0, 0] (body Try.f81))) (normA [] [0, 3]) next ⟨[(0, AV.sl [.int .i64] t0), (3, AV.int .i64 t3)], []⟩ k = (bif decide (t3 < (t0.length : Int)) then (bif (decide (0 ≤ t3) && decide (t3 < (t0.length : Int))) then (bif !(v67_0 (fI (t0.getD t3.toNat AV.undef) 0) (-999) 999) then k .ret ⟨[(2, AV.bool false)], []⟩
  else next ⟨[(0, AV.sl [.int .i64] t0), (3, AV.int .i64 (IntKind.i64.wrap (t3 + 1)))], []⟩)
  else none)
  else k (.exit 0) ⟨[(0, AV.sl [.int .i64] t0)], []⟩) := by kernel_rfl
theorem st81_0 (t0 : List AV) (ce : CallE) (k : Kont) (s : Int) (next : St → Option AV) : stepA (codeA c81 ce [] 81 0 (sub [1, 0, 1, 0, 0] (body Try.f81))) (normA [] [0, 3]) next ((fun s : Int => ⟨[(0, AV.sl [.int .i64] t0), (3, AV.int .i64 s)], []⟩) s) k = (R81_0 t0 s).el none (fun s => next ((fun s : Int => ⟨[(0, AV.sl [.int .i64] t0), (3, AV.int .i64 s)], []⟩) s)) (sumE (fun _ : Unit => k (.exit 0) ⟨[(0, AV.sl [.int .i64] t0)], []⟩) (fun _ : Unit => k .ret ⟨[(2, AV.bool false)], []⟩)) := (s81_0 ce t0 s next k).trans (by unfold R81_0; unfold F81_0; simp only [el_cond, el_ro, el_sum, el_fail, el_next, el_stop] <;> rfl)
theorem ok81_0 {ce : CallE} : LoopOK c81 ce [] 81 0 (sub [1, 0, 1, 0, 0] (body Try.f81)) := by
  intro m hm st k r h
  obtain rfl : l81_0 = m := Option.some.inj hm
  unfold l81_0 at h
  split at h
  · rename_i g0 t0 t3
    obtain ⟨hg, h⟩ := bif_some h
    have q0 := hg
    obtain rfl := ctsEq_eq _ _ q0
    refine ⟨(((t0.length : Int) - t3).toNat + 1), ?_⟩
    rw [← h]
    exact loop_run (fun s : Int => ⟨[(0, AV.sl [.int .i64] t0), (3, AV.int .i64 s)], []⟩) (sumE (fun _ : Unit => k (.exit 0) ⟨[(0, AV.sl [.int .i64] t0)], []⟩) (fun _ : Unit => k .ret ⟨[(2, AV.bool false)], []⟩)) (st81_0 t0 ce k) _ t3
  · cases h
def q81 (a0 : List AV) : Bool := (ro (runW (R81_0 a0) (((a0.length : Int) - 0).toNat + 1) 0) false (sumE (fun _ => true) (fun _ => true)))
def v81_0 (a0 : List AV) : Bool := (ro (runW (R81_0 a0) (((a0.length : Int) - 0).toNat + 1) 0) false (sumE (fun _ => decide ((a0.length : Int) ≤ 64)) (fun _ => false)))
theorem e81 (a0 : List AV) : funA c81 0 81 [AV.sl [.int .i64] a0] = (ro (runW (R81_0 a0) (((a0.length : Int) - 0).toNat + 1) 0) none (sumE (fun _ => some (AV.bool (decide ((a0.length : Int) ≤ 64)))) (fun _ => some (AV.bool false)))) := by kernel_rfl
theorem r81 (a0 : List AV) (h : q81 a0 = true) : funA c81 0 81 [AV.sl [.int .i64] a0] = some (AV.bool (v81_0 a0)) := (e81 a0).trans ((brO (fun o : Option (Unit ⊕ Unit) => some (AV.bool (ro o false (sumE (fun _ => decide ((a0.length : Int) ≤ 64)) (fun _ => false))))) (brS (fun o : Unit ⊕ Unit => some (AV.bool ((sumE (fun _ => decide ((a0.length : Int) ≤ 64)) (fun _ => false)) o))) (fun _ => (fun _ => rfl)) (fun _ => (fun _ => rfl)))) h)
def m81 : TModel
  | [.sl g0 a0] => bif ctsEq g0 ([.int .i64]) then some (q81 a0, AV.bool (v81_0 a0)) else none
  | _ => none
theorem k81 : Known Try.prog 81 := ⟨Try.f81, Try.func81, by kernel_rfl, by kernel_rfl⟩
theorem meets81 : Meets Try.prog 81 m81 := by
  refine meet (f := Try.f81) (l := [(0, sub [1, 0, 1, 0, 0] (body Try.f81))]) (hs := [(81, 0, [0, 3]), (81, 999, [2]), (81, 1000, [0]), (81, 1001, [0, 3])]) (ts := [(67, m67)]) (ws := []) (is := []) (ls := [(81, 0, l81_0)]) (lvl := 0) mixed k81 Try.func81 (by kernel_rfl) (loops_cons ok81_0 noLoop) (allT_cons meets67 allT_nil) allM_nil noI fun w xs us r hl hv h => ?_
  unfold m81 at h
  split at h
  · rename_i g0 a0
    obtain ⟨hg, h⟩ := bif_pair h
    have q0 := hg
    obtain rfl := ctsEq_eq _ _ q0
    obtain ⟨h1, rfl⟩ := pair_inj h
    exact r81 a0 h1
  · cases h

/-! ### 91 loop.example/g01984/spec.l4Has -/
def F91_0 (t0 : List AV) (t1 : Int) (t5 : Int) : Out (Int) (Unit ⊕ Unit) := (bif decide (t5 < (t0.length : Int)) then (bif (decide (0 ≤ t5) && decide (t5 < (t0.length : Int))) then (bif decide (fI (t0.getD t5.toNat AV.undef) 0 = t1) then .stop (.inr ())
  else .next (IntKind.i64.wrap (t5 + 1)))
  else .fail)
  else .stop (.inl ()))
def R91_0 (t0 : List AV) (t1 : Int) : (Int) → Out (Int) (Unit ⊕ Unit) := fun s : Int => F91_0 t0 t1 s
def l91_0 : LModel := fun _ _ st k => match st with
  | ⟨[(0, .sl g0 t0), (1, .int .i64 t1), (5, .int .i64 t5)], []⟩ => bif ctsEq g0 ([.int .i64]) then ro (runW (R91_0 t0 t1) (((t0.length : Int) - t5).toNat + 1) t5) none (sumE (fun _ : Unit => k (.exit 0) ⟨[], []⟩) (fun _ : Unit => k .ret ⟨[(4, AV.bool true)], []⟩)) else none
  | _ => none
noncomputable def c91 : Cfg := cfg Try.prog [(91, 0, [0, 1, 5]), (91, 999, [4]), (91, 1000, []), (91, 1001, [0, 1, 5])] [] [] [] [(91, 0, l91_0)]
theorem s91_0 (ce : CallE) (t0 : List AV) (t1 : Int) (t5 : Int) (next : St → Option AV) (k : Kont) : stepA (codeA c91 ce [] 91 0 (sub [1, 0, 1, 0, 0] (body Try.f91))) (normA [] [0, 1, 5]) next ⟨[(0, AV.sl [.int .i64] t0), (1, AV.int .i64 t1), (5, AV.int .i64 t5)], []⟩ k = (bif decide (t5 < (t0.length : Int)) then (bif (decide (0 ≤ t5) && decide (t5 < (t0.length : Int))) then (bif decide (fI (t0.getD t5.toNat AV.undef) 0 = t1) then k .ret ⟨[(4, AV.bool true)], []⟩
  else next ⟨[(0, AV.sl [.int .i64] t0), (1, AV.int .i64 t1), (5, AV.int .i64 (IntKind.i64.wrap (t5 + 1)))], []⟩)
  else none)
  else k (.exit 0) ⟨[], []⟩) := by kernel_rfl
theorem st91_0 (t0 : List AV) (t1 : Int) (ce : CallE) (k : Kont) (s : Int) (next : St → Option AV) : stepA (codeA c91 ce [] 91 0 (sub [1, 0, 1, 0, 0] (body Try.f91))) (normA [] [0, 1, 5]) next ((fun s : Int => ⟨[(0, AV.sl [.int .i64] t0), (1, AV.int .i64 t1), (5, AV.int .i64 s)], []⟩) s) k = (R91_0 t0 t1 s).el none (fun s => next ((fun s : Int => ⟨[(0, AV.sl [.int .i64] t0), (1, AV.int .i64 t1), (5, AV.int .i64 s)], []⟩) s)) (sumE (fun _ : Unit => k (.exit 0) ⟨[], []⟩) (fun _ : Unit => k .ret ⟨[(4, AV.bool true)], []⟩)) := (s91_0 ce t0 t1 s next k).trans (by unfold R91_0; unfold F91_0; simp only [el_cond, el_ro, el_sum, el_fail, el_next, el_stop] <;> rfl)
theorem ok91_0 {ce : CallE} : LoopOK c91 ce [] 91 0 (sub [1, 0, 1, 0, 0] (body Try.f91)) := by
  intro m hm st k r h
  obtain rfl : l91_0 = m := Option.some.inj hm
  unfold l91_0 at h
  split at h
  · rename_i g0 t0 t1 t5
    obtain ⟨hg, h⟩ := bif_some h
    have q0 := hg
    obtain rfl := ctsEq_eq _ _ q0
    refine ⟨(((t0.length : Int) - t5).toNat + 1), ?_⟩
    rw [← h]
    exact loop_run (fun s : Int => ⟨[(0, AV.sl [.int .i64] t0), (1, AV.int .i64 t1), (5, AV.int .i64 s)], []⟩) (sumE (fun _ : Unit => k (.exit 0) ⟨[], []⟩) (fun _ : Unit => k .ret ⟨[(4, AV.bool true)], []⟩)) (st91_0 t0 t1 ce k) _ t5
  · cases h
def q91 (a0 : List AV) (a1 : Int) : Bool := (ro (runW (R91_0 a0 a1) (((a0.length : Int) - 0).toNat + 1) 0) false (sumE (fun _ => true) (fun _ => true)))
def v91_0 (a0 : List AV) (a1 : Int) : Bool := (ro (runW (R91_0 a0 a1) (((a0.length : Int) - 0).toNat + 1) 0) false (sumE (fun _ => false) (fun _ => true)))
theorem e91 (a0 : List AV) (a1 : Int) : funA c91 0 91 [AV.sl [.int .i64] a0, AV.int .i64 a1] = (ro (runW (R91_0 a0 a1) (((a0.length : Int) - 0).toNat + 1) 0) none (sumE (fun _ => some (AV.bool false)) (fun _ => some (AV.bool true)))) := by kernel_rfl
theorem r91 (a0 : List AV) (a1 : Int) (h : q91 a0 a1 = true) : funA c91 0 91 [AV.sl [.int .i64] a0, AV.int .i64 a1] = some (AV.bool (v91_0 a0 a1)) := (e91 a0 a1).trans ((brO (fun o : Option (Unit ⊕ Unit) => some (AV.bool (ro o false (sumE (fun _ => false) (fun _ => true))))) (brS (fun o : Unit ⊕ Unit => some (AV.bool ((sumE (fun _ => false) (fun _ => true)) o))) (fun _ => (fun _ => rfl)) (fun _ => (fun _ => rfl)))) h)
def m91 : TModel
  | [.sl g0 a0, .int .i64 a1] => bif ctsEq g0 ([.int .i64]) then some (q91 a0 a1, AV.bool (v91_0 a0 a1)) else none
  | _ => none
theorem k91 : Known Try.prog 91 := ⟨Try.f91, Try.func91, by kernel_rfl, by kernel_rfl⟩
theorem meets91 : Meets Try.prog 91 m91 := by
  refine meet (f := Try.f91) (l := [(0, sub [1, 0, 1, 0, 0] (body Try.f91))]) (hs := [(91, 0, [0, 1, 5]), (91, 999, [4]), (91, 1000, []), (91, 1001, [0, 1, 5])]) (ts := []) (ws := []) (is := []) (ls := [(91, 0, l91_0)]) (lvl := 0) mixed k91 Try.func91 (by kernel_rfl) (loops_cons ok91_0 noLoop) allT_nil allM_nil noI fun w xs us r hl hv h => ?_
  unfold m91 at h
  split at h
  · rename_i g0 a0 a1
    obtain ⟨hg, h⟩ := bif_pair h
    have q0 := hg
    obtain rfl := ctsEq_eq _ _ q0
    obtain ⟨h1, rfl⟩ := pair_inj h
    exact r91 a0 a1 h1
  · cases h

/-! ### 110 loop.example/g01984/spec.l4Pivots -/
def F110_2 (t0 : List AV) (t1 : List AV) (t5 : Int) (h0_0 : Int) (h0_1 : Int) (t7 : Int) : Out (Int) (Unit ⊕ Unit) := (bif decide (t7 < (t0.length : Int)) then (bif (decide (0 ≤ t7) && decide (t7 < (t0.length : Int))) then (bif !(decide (fI (t0.getD t7.toNat AV.undef) 0 < h0_0) == decide (t7 < h0_1)) then .stop (.inr ())
  else .next (IntKind.i64.wrap (t7 + 1)))
  else .fail)
  else .stop (.inl ()))
def R110_2 (t0 : List AV) (t1 : List AV) (t5 : Int) (h0_0 : Int) (h0_1 : Int) : (Int) → Out (Int) (Unit ⊕ Unit) := fun s : Int => F110_2 t0 t1 t5 h0_0 h0_1 s
def l110_2 : LModel := fun _ _ st k => match st with
  | ⟨[(0, .sl g0 t0), (1, .sl g1 t1), (5, .int .i64 t5), (6, .ptr g2 g3 g4), (7, .int .i64 t7)], [(g5, ⟨true, [], [.agg [.int .i64 h0_0, .int .i64 h0_1]]⟩)]⟩ => bif ctsEq g0 ([.int .i64]) && ctsEq g1 ([.int .i64, .int .i64]) && nmEq g2 ([0, 6]) && Nat.beq g3 0 && Nat.beq g4 0 && nmEq g5 ([0, 6]) then ro (runW (R110_2 t0 t1 t5 h0_0 h0_1) (((t0.length : Int) - t7).toNat + 1) t7) none (sumE (fun _ : Unit => k (.exit 2) ⟨[(0, AV.sl [.int .i64] t0), (1, AV.sl [.int .i64, .int .i64] t1), (5, AV.int .i64 t5)], [([0, 6], ⟨true, [], [AV.agg [AV.int .i64 h0_0, AV.int .i64 h0_1]]⟩)]⟩) (fun _ : Unit => k .ret ⟨[(4, AV.bool false)], [([0, 6], ⟨true, [], [AV.agg [AV.int .i64 h0_0, AV.int .i64 h0_1]]⟩)]⟩)) else none
  | _ => none
def F110_0 (t0 : List AV) (t1 : List AV) (t5 : Int) : Out (Int) (Unit ⊕ (Int × Int) ⊕ (Int × Int)) := (bif decide (t5 < (t1.length : Int)) then (bif (decide (0 ≤ t5) && decide (t5 < (t1.length : Int))) then (bif !(v67_0 (fI (t1.getD t5.toNat AV.undef) 0) (-1000) 1000) then .stop (.inr (.inl (fI (t1.getD t5.toNat AV.undef) 0, fI (t1.getD t5.toNat AV.undef) 1)))
  else (bif !(v67_0 (fI (t1.getD t5.toNat AV.undef) 1) 0 (t0.length : Int)) then .stop (.inr (.inl (fI (t1.getD t5.toNat AV.undef) 0, fI (t1.getD t5.toNat AV.undef) 1)))
  else (bif decide (t5 > 0) then (bif (decide (0 ≤ IntKind.i64.wrap (t5 - 1)) && decide (IntKind.i64.wrap (t5 - 1) < (t1.length : Int))) then (bif decide (fI (t1.getD t5.toNat AV.undef) 0 ≤ fI (t1.getD (IntKind.i64.wrap (t5 - 1)).toNat AV.undef) 0) then .stop (.inr (.inl (fI (t1.getD t5.toNat AV.undef) 0, fI (t1.getD t5.toNat AV.undef) 1)))
  else (bif (decide (0 ≤ IntKind.i64.wrap (t5 - 1)) && decide (IntKind.i64.wrap (t5 - 1) < (t1.length : Int))) then (bif decide (fI (t1.getD t5.toNat AV.undef) 1 < fI (t1.getD (IntKind.i64.wrap (t5 - 1)).toNat AV.undef) 1) then .stop (.inr (.inl (fI (t1.getD t5.toNat AV.undef) 0, fI (t1.getD t5.toNat AV.undef) 1)))
  else (ro (runW (R110_2 t0 t1 t5 (fI (t1.getD t5.toNat AV.undef) 0) (fI (t1.getD t5.toNat AV.undef) 1)) (((t0.length : Int) - 0).toNat + 1) 0) .fail (sumE (fun _ => .next (IntKind.i64.wrap (t5 + 1))) (fun _ => .stop (.inr (.inr (fI (t1.getD t5.toNat AV.undef) 0, fI (t1.getD t5.toNat AV.undef) 1)))))))
  else .fail))
  else .fail)
  else (ro (runW (R110_2 t0 t1 t5 (fI (t1.getD t5.toNat AV.undef) 0) (fI (t1.getD t5.toNat AV.undef) 1)) (((t0.length : Int) - 0).toNat + 1) 0) .fail (sumE (fun _ => .next (IntKind.i64.wrap (t5 + 1))) (fun _ => .stop (.inr (.inr (fI (t1.getD t5.toNat AV.undef) 0, fI (t1.getD t5.toNat AV.undef) 1)))))))))
  else .fail)
  else .stop (.inl ()))
def R110_0 (t0 : List AV) (t1 : List AV) : (Int) → Out (Int) (Unit ⊕ (Int × Int) ⊕ (Int × Int)) := fun s : Int => F110_0 t0 t1 s
def l110_0 : LModel := fun _ _ st k => match st with
  | ⟨[(0, .sl g0 t0), (1, .sl g1 t1), (5, .int .i64 t5)], []⟩ => bif ctsEq g0 ([.int .i64]) && ctsEq g1 ([.int .i64, .int .i64]) then ro (runW (R110_0 t0 t1) (((t1.length : Int) - t5).toNat + 1) t5) none (sumE (fun _ : Unit => k (.exit 0) ⟨[], []⟩) (sumE (fun p : Int × Int => k .ret ⟨[(4, AV.bool false)], [([1, 6], ⟨true, [], [AV.agg [AV.int .i64 p.1, AV.int .i64 p.2]]⟩)]⟩) (fun p : Int × Int => k .ret ⟨[(4, AV.bool false)], [([0, 6], ⟨true, [], [AV.agg [AV.int .i64 p.1, AV.int .i64 p.2]]⟩)]⟩))) else none
  | _ => none
noncomputable def c110 : Cfg := cfg Try.prog [(110, 0, [0, 1, 5]), (110, 2, [0, 1, 5, 6, 7]), (110, 999, [4]), (110, 1000, []), (110, 1001, [0, 1, 5]), (110, 1002, [0, 1, 5]), (110, 1003, [0, 1, 5, 6, 7])] [(67, m67)] [] [] [(110, 0, l110_0), (110, 2, l110_2)]
theorem s110_2 (ce : CallE) (t0 : List AV) (t1 : List AV) (t5 : Int) (t7 : Int) (h0_0 : Int) (h0_1 : Int) (next : St → Option AV) (k : Kont) : stepA (codeA c110 ce [] 110 2 (sub [1, 0, 1, 0, 0, 1, 0, 0, 1, 1, 1, 0, 0] (body Try.f110))) (normA [] [0, 1, 5, 6, 7]) next ⟨[(0, AV.sl [.int .i64] t0), (1, AV.sl [.int .i64, .int .i64] t1), (5, AV.int .i64 t5), (6, AV.ptr [0, 6] 0 0), (7, AV.int .i64 t7)], [([0, 6], ⟨true, [], [AV.agg [AV.int .i64 h0_0, AV.int .i64 h0_1]]⟩)]⟩ k = (bif decide (t7 < (t0.length : Int)) then (bif (decide (0 ≤ t7) && decide (t7 < (t0.length : Int))) then (bif !(decide (fI (t0.getD t7.toNat AV.undef) 0 < h0_0) == decide (t7 < h0_1)) then k .ret ⟨[(4, AV.bool false)], [([0, 6], ⟨true, [], [AV.agg [AV.int .i64 h0_0, AV.int .i64 h0_1]]⟩)]⟩
  else next ⟨[(0, AV.sl [.int .i64] t0), (1, AV.sl [.int .i64, .int .i64] t1), (5, AV.int .i64 t5), (6, AV.ptr [0, 6] 0 0), (7, AV.int .i64 (IntKind.i64.wrap (t7 + 1)))], [([0, 6], ⟨true, [], [AV.agg [AV.int .i64 h0_0, AV.int .i64 h0_1]]⟩)]⟩)
  else none)
  else k (.exit 2) ⟨[(0, AV.sl [.int .i64] t0), (1, AV.sl [.int .i64, .int .i64] t1), (5, AV.int .i64 t5)], [([0, 6], ⟨true, [], [AV.agg [AV.int .i64 h0_0, AV.int .i64 h0_1]]⟩)]⟩) := by kernel_rfl
theorem st110_2 (t0 : List AV) (t1 : List AV) (t5 : Int) (h0_0 : Int) (h0_1 : Int) (ce : CallE) (k : Kont) (s : Int) (next : St → Option AV) : stepA (codeA c110 ce [] 110 2 (sub [1, 0, 1, 0, 0, 1, 0, 0, 1, 1, 1, 0, 0] (body Try.f110))) (normA [] [0, 1, 5, 6, 7]) next ((fun s : Int => ⟨[(0, AV.sl [.int .i64] t0), (1, AV.sl [.int .i64, .int .i64] t1), (5, AV.int .i64 t5), (6, AV.ptr [0, 6] 0 0), (7, AV.int .i64 s)], [([0, 6], ⟨true, [], [AV.agg [AV.int .i64 h0_0, AV.int .i64 h0_1]]⟩)]⟩) s) k = (R110_2 t0 t1 t5 h0_0 h0_1 s).el none (fun s => next ((fun s : Int => ⟨[(0, AV.sl [.int .i64] t0), (1, AV.sl [.int .i64, .int .i64] t1), (5, AV.int .i64 t5), (6, AV.ptr [0, 6] 0 0), (7, AV.int .i64 s)], [([0, 6], ⟨true, [], [AV.agg [AV.int .i64 h0_0, AV.int .i64 h0_1]]⟩)]⟩) s)) (sumE (fun _ : Unit => k (.exit 2) ⟨[(0, AV.sl [.int .i64] t0), (1, AV.sl [.int .i64, .int .i64] t1), (5, AV.int .i64 t5)], [([0, 6], ⟨true, [], [AV.agg [AV.int .i64 h0_0, AV.int .i64 h0_1]]⟩)]⟩) (fun _ : Unit => k .ret ⟨[(4, AV.bool false)], [([0, 6], ⟨true, [], [AV.agg [AV.int .i64 h0_0, AV.int .i64 h0_1]]⟩)]⟩)) := (s110_2 ce t0 t1 t5 s h0_0 h0_1 next k).trans (by unfold R110_2; unfold F110_2; simp only [el_cond, el_ro, el_sum, el_fail, el_next, el_stop] <;> rfl)
theorem ok110_2 {ce : CallE} : LoopOK c110 ce [] 110 2 (sub [1, 0, 1, 0, 0, 1, 0, 0, 1, 1, 1, 0, 0] (body Try.f110)) := by
  intro m hm st k r h
  obtain rfl : l110_2 = m := Option.some.inj hm
  unfold l110_2 at h
  split at h
  · rename_i g0 t0 g1 t1 t5 g2 g3 g4 t7 g5 h0_0 h0_1
    obtain ⟨hg, h⟩ := bif_some h
    simp only [Bool.and_eq_true] at hg
    obtain ⟨⟨⟨⟨⟨q0, q1⟩, q2⟩, q3⟩, q4⟩, q5⟩ := hg
    obtain rfl := ctsEq_eq _ _ q0
    obtain rfl := ctsEq_eq _ _ q1
    obtain rfl := (nmEq_iff _ _).1 q2
    obtain rfl := Nat.eq_of_beq_eq_true q3
    obtain rfl := Nat.eq_of_beq_eq_true q4
    obtain rfl := (nmEq_iff _ _).1 q5
    refine ⟨(((t0.length : Int) - t7).toNat + 1), ?_⟩
    rw [← h]
    exact loop_run (fun s : Int => ⟨[(0, AV.sl [.int .i64] t0), (1, AV.sl [.int .i64, .int .i64] t1), (5, AV.int .i64 t5), (6, AV.ptr [0, 6] 0 0), (7, AV.int .i64 s)], [([0, 6], ⟨true, [], [AV.agg [AV.int .i64 h0_0, AV.int .i64 h0_1]]⟩)]⟩) (sumE (fun _ : Unit => k (.exit 2) ⟨[(0, AV.sl [.int .i64] t0), (1, AV.sl [.int .i64, .int .i64] t1), (5, AV.int .i64 t5)], [([0, 6], ⟨true, [], [AV.agg [AV.int .i64 h0_0, AV.int .i64 h0_1]]⟩)]⟩) (fun _ : Unit => k .ret ⟨[(4, AV.bool false)], [([0, 6], ⟨true, [], [AV.agg [AV.int .i64 h0_0, AV.int .i64 h0_1]]⟩)]⟩)) (st110_2 t0 t1 t5 h0_0 h0_1 ce k) _ t7
  · cases h
theorem s110_0 (ce : CallE) (t0 : List AV) (t1 : List AV) (t5 : Int) (next : St → Option AV) (k : Kont) : stepA (codeA c110 ce [] 110 0 (sub [1, 0, 1, 0, 0] (body Try.f110))) (normA [] [0, 1, 5]) next ⟨[(0, AV.sl [.int .i64] t0), (1, AV.sl [.int .i64, .int .i64] t1), (5, AV.int .i64 t5)], []⟩ k = (bif decide (t5 < (t1.length : Int)) then (bif (decide (0 ≤ t5) && decide (t5 < (t1.length : Int))) then (bif !(v67_0 (fI (t1.getD t5.toNat AV.undef) 0) (-1000) 1000) then k .ret ⟨[(4, AV.bool false)], [([1, 6], ⟨true, [], [AV.agg [AV.int .i64 (fI (t1.getD t5.toNat AV.undef) 0), AV.int .i64 (fI (t1.getD t5.toNat AV.undef) 1)]]⟩)]⟩
  else (bif !(v67_0 (fI (t1.getD t5.toNat AV.undef) 1) 0 (t0.length : Int)) then k .ret ⟨[(4, AV.bool false)], [([1, 6], ⟨true, [], [AV.agg [AV.int .i64 (fI (t1.getD t5.toNat AV.undef) 0), AV.int .i64 (fI (t1.getD t5.toNat AV.undef) 1)]]⟩)]⟩
  else (bif decide (t5 > 0) then (bif (decide (0 ≤ IntKind.i64.wrap (t5 - 1)) && decide (IntKind.i64.wrap (t5 - 1) < (t1.length : Int))) then (bif decide (fI (t1.getD t5.toNat AV.undef) 0 ≤ fI (t1.getD (IntKind.i64.wrap (t5 - 1)).toNat AV.undef) 0) then k .ret ⟨[(4, AV.bool false)], [([1, 6], ⟨true, [], [AV.agg [AV.int .i64 (fI (t1.getD t5.toNat AV.undef) 0), AV.int .i64 (fI (t1.getD t5.toNat AV.undef) 1)]]⟩)]⟩
  else (bif (decide (0 ≤ IntKind.i64.wrap (t5 - 1)) && decide (IntKind.i64.wrap (t5 - 1) < (t1.length : Int))) then (bif decide (fI (t1.getD t5.toNat AV.undef) 1 < fI (t1.getD (IntKind.i64.wrap (t5 - 1)).toNat AV.undef) 1) then k .ret ⟨[(4, AV.bool false)], [([1, 6], ⟨true, [], [AV.agg [AV.int .i64 (fI (t1.getD t5.toNat AV.undef) 0), AV.int .i64 (fI (t1.getD t5.toNat AV.undef) 1)]]⟩)]⟩
  else (ro (runW (R110_2 t0 t1 t5 (fI (t1.getD t5.toNat AV.undef) 0) (fI (t1.getD t5.toNat AV.undef) 1)) (((t0.length : Int) - 0).toNat + 1) 0) none (sumE (fun _ => next ⟨[(0, AV.sl [.int .i64] t0), (1, AV.sl [.int .i64, .int .i64] t1), (5, AV.int .i64 (IntKind.i64.wrap (t5 + 1)))], []⟩) (fun _ => k .ret ⟨[(4, AV.bool false)], [([0, 6], ⟨true, [], [AV.agg [AV.int .i64 (fI (t1.getD t5.toNat AV.undef) 0), AV.int .i64 (fI (t1.getD t5.toNat AV.undef) 1)]]⟩)]⟩))))
  else none))
  else none)
  else (ro (runW (R110_2 t0 t1 t5 (fI (t1.getD t5.toNat AV.undef) 0) (fI (t1.getD t5.toNat AV.undef) 1)) (((t0.length : Int) - 0).toNat + 1) 0) none (sumE (fun _ => next ⟨[(0, AV.sl [.int .i64] t0), (1, AV.sl [.int .i64, .int .i64] t1), (5, AV.int .i64 (IntKind.i64.wrap (t5 + 1)))], []⟩) (fun _ => k .ret ⟨[(4, AV.bool false)], [([0, 6], ⟨true, [], [AV.agg [AV.int .i64 (fI (t1.getD t5.toNat AV.undef) 0), AV.int .i64 (fI (t1.getD t5.toNat AV.undef) 1)]]⟩)]⟩))))))
  else none)
  else k (.exit 0) ⟨[], []⟩) := by kernel_rfl
theorem st110_0 (t0 : List AV) (t1 : List AV) (ce : CallE) (k : Kont) (s : Int) (next : St → Option AV) : stepA (codeA c110 ce [] 110 0 (sub [1, 0, 1, 0, 0] (body Try.f110))) (normA [] [0, 1, 5]) next ((fun s : Int => ⟨[(0, AV.sl [.int .i64] t0), (1, AV.sl [.int .i64, .int .i64] t1), (5, AV.int .i64 s)], []⟩) s) k = (R110_0 t0 t1 s).el none (fun s => next ((fun s : Int => ⟨[(0, AV.sl [.int .i64] t0), (1, AV.sl [.int .i64, .int .i64] t1), (5, AV.int .i64 s)], []⟩) s)) (sumE (fun _ : Unit => k (.exit 0) ⟨[], []⟩) (sumE (fun p : Int × Int => k .ret ⟨[(4, AV.bool false)], [([1, 6], ⟨true, [], [AV.agg [AV.int .i64 p.1, AV.int .i64 p.2]]⟩)]⟩) (fun p : Int × Int => k .ret ⟨[(4, AV.bool false)], [([0, 6], ⟨true, [], [AV.agg [AV.int .i64 p.1, AV.int .i64 p.2]]⟩)]⟩))) := (s110_0 ce t0 t1 s next k).trans (by unfold R110_0; unfold F110_0; simp only [el_cond, el_ro, el_sum, el_fail, el_next, el_stop] <;> rfl)
theorem ok110_0 {ce : CallE} : LoopOK c110 ce [] 110 0 (sub [1, 0, 1, 0, 0] (body Try.f110)) := by
  intro m hm st k r h
  obtain rfl : l110_0 = m := Option.some.inj hm
  unfold l110_0 at h
  split at h
  · rename_i g0 t0 g1 t1 t5
    obtain ⟨hg, h⟩ := bif_some h
    simp only [Bool.and_eq_true] at hg
    obtain ⟨q0, q1⟩ := hg
    obtain rfl := ctsEq_eq _ _ q0
    obtain rfl := ctsEq_eq _ _ q1
    refine ⟨(((t1.length : Int) - t5).toNat + 1), ?_⟩
    rw [← h]
    exact loop_run (fun s : Int => ⟨[(0, AV.sl [.int .i64] t0), (1, AV.sl [.int .i64, .int .i64] t1), (5, AV.int .i64 s)], []⟩) (sumE (fun _ : Unit => k (.exit 0) ⟨[], []⟩) (sumE (fun p : Int × Int => k .ret ⟨[(4, AV.bool false)], [([1, 6], ⟨true, [], [AV.agg [AV.int .i64 p.1, AV.int .i64 p.2]]⟩)]⟩) (fun p : Int × Int => k .ret ⟨[(4, AV.bool false)], [([0, 6], ⟨true, [], [AV.agg [AV.int .i64 p.1, AV.int .i64 p.2]]⟩)]⟩))) (st110_0 t0 t1 ce k) _ t5
  · cases h
def q110 (a0 : List AV) (a1 : List AV) : Bool := (ro (runW (R110_0 a0 a1) (((a1.length : Int) - 0).toNat + 1) 0) false (sumE (fun _ => true) (sumE (fun p16 => true) (fun p17 => true))))
def v110_0 (a0 : List AV) (a1 : List AV) : Bool := (ro (runW (R110_0 a0 a1) (((a1.length : Int) - 0).toNat + 1) 0) false (sumE (fun _ => true) (sumE (fun p16 => false) (fun p17 => false))))
theorem e110 (a0 : List AV) (a1 : List AV) : funA c110 0 110 [AV.sl [.int .i64] a0, AV.sl [.int .i64, .int .i64] a1] = (ro (runW (R110_0 a0 a1) (((a1.length : Int) - 0).toNat + 1) 0) none (sumE (fun _ => some (AV.bool true)) (sumE (fun p16 => some (AV.bool false)) (fun p17 => some (AV.bool false))))) := by kernel_rfl
theorem r110 (a0 : List AV) (a1 : List AV) (h : q110 a0 a1 = true) : funA c110 0 110 [AV.sl [.int .i64] a0, AV.sl [.int .i64, .int .i64] a1] = some (AV.bool (v110_0 a0 a1)) := (e110 a0 a1).trans ((brO (fun o : Option (Unit ⊕ (Int × Int) ⊕ (Int × Int)) => some (AV.bool (ro o false (sumE (fun _ => true) (sumE (fun p16 => false) (fun p17 => false)))))) (brS (fun o : Unit ⊕ (Int × Int) ⊕ (Int × Int) => some (AV.bool ((sumE (fun _ => true) (sumE (fun p16 => false) (fun p17 => false))) o))) (fun _ => (fun _ => rfl)) (brS (fun o : (Int × Int) ⊕ (Int × Int) => some (AV.bool ((sumE (fun p16 => false) (fun p17 => false)) o))) (fun p16 => (fun _ => rfl)) (fun p17 => (fun _ => rfl))))) h)
def m110 : TModel
  | [.sl g0 a0, .sl g1 a1] => bif ctsEq g0 ([.int .i64]) && ctsEq g1 ([.int .i64, .int .i64]) then some (q110 a0 a1, AV.bool (v110_0 a0 a1)) else none
  | _ => none
theorem k110 : Known Try.prog 110 := ⟨Try.f110, Try.func110, by kernel_rfl, by kernel_rfl⟩
theorem meets110 : Meets Try.prog 110 m110 := by
  refine meet (f := Try.f110) (l := [(0, sub [1, 0, 1, 0, 0] (body Try.f110)), (2, sub [1, 0, 1, 0, 0, 1, 0, 0, 1, 1, 1, 0, 0] (body Try.f110))]) (hs := [(110, 0, [0, 1, 5]), (110, 2, [0, 1, 5, 6, 7]), (110, 999, [4]), (110, 1000, []), (110, 1001, [0, 1, 5]), (110, 1002, [0, 1, 5]), (110, 1003, [0, 1, 5, 6, 7])]) (ts := [(67, m67)]) (ws := []) (is := []) (ls := [(110, 0, l110_0), (110, 2, l110_2)]) (lvl := 0) mixed k110 Try.func110 (by kernel_rfl) (loops_cons ok110_0 (loops_cons ok110_2 noLoop)) (allT_cons meets67 allT_nil) allM_nil noI fun w xs us r hl hv h => ?_
  unfold m110 at h
  split at h
  · rename_i g0 a0 g1 a1
    obtain ⟨hg, h⟩ := bif_pair h
    simp only [Bool.and_eq_true] at hg
    obtain ⟨q0, q1⟩ := hg
    obtain rfl := ctsEq_eq _ _ q0
    obtain rfl := ctsEq_eq _ _ q1
    obtain ⟨h1, rfl⟩ := pair_inj h
    exact r110 a0 a1 h1
  · cases h

/-! ### 66 loop.example/g01984/spec.IsCracker -/
def F66_0 (h0_0 : List AV) (h0_1 : List AV) (h0_2 : List AV) (t3 : Int) : Out (Int) (Unit ⊕ Unit) := (bif decide (t3 < (h0_1.length : Int)) then (bif (decide (0 ≤ t3) && decide (t3 < (h0_1.length : Int))) then (bif !(v67_0 (fI (h0_1.getD t3.toNat AV.undef) 0) 0 999) then .stop (.inr ())
  else (bif (decide (0 ≤ 0) && decide (0 ≤ t3) && decide (t3 ≤ (h0_1.length : Int))) then (bif (decide (0 ≤ t3) && decide (t3 < (h0_1.length : Int))) then (bif q91 ((h0_1.take (Int.toNat t3)).drop (Int.toNat 0)) (fI (h0_1.getD t3.toNat AV.undef) 0) then (bif (v91_0 ((h0_1.take (Int.toNat t3)).drop (Int.toNat 0)) (fI (h0_1.getD t3.toNat AV.undef) 0)) then .stop (.inr ())
  else .next (IntKind.i64.wrap (t3 + 1)))
  else .fail)
  else .fail)
  else .fail))
  else .fail)
  else .stop (.inl ()))
def R66_0 (h0_0 : List AV) (h0_1 : List AV) (h0_2 : List AV) : (Int) → Out (Int) (Unit ⊕ Unit) := fun s : Int => F66_0 h0_0 h0_1 h0_2 s
def l66_0 : LModel := fun _ _ st k => match st with
  | ⟨[(1, .ptr g0 g1 g2), (3, .int .i64 t3)], [(g3, ⟨true, [], [.agg [.sl g4 h0_0, .sl g5 h0_1, .sl g6 h0_2]]⟩)]⟩ => bif nmEq g0 ([0, 1]) && Nat.beq g1 0 && Nat.beq g2 0 && nmEq g3 ([0, 1]) && ctsEq g4 ([.int .i64]) && ctsEq g5 ([.int .i64]) && ctsEq g6 ([.int .i64, .int .i64]) then ro (runW (R66_0 h0_0 h0_1 h0_2) (((h0_1.length : Int) - t3).toNat + 1) t3) none (sumE (fun _ : Unit => k (.exit 0) ⟨[(1, AV.ptr [0, 1] 0 0)], [([0, 1], ⟨true, [], [AV.agg [AV.sl [.int .i64] h0_0, AV.sl [.int .i64] h0_1, AV.sl [.int .i64, .int .i64] h0_2]]⟩)]⟩) (fun _ : Unit => k .ret ⟨[(2, AV.bool false)], [([0, 1], ⟨true, [], [AV.agg [AV.sl [.int .i64] h0_0, AV.sl [.int .i64] h0_1, AV.sl [.int .i64, .int .i64] h0_2]]⟩)]⟩)) else none
  | _ => none
noncomputable def c66 : Cfg := cfg Try.prog [(66, 0, [1, 3]), (66, 999, [2]), (66, 1000, [1]), (66, 1001, [1, 3])] [(67, m67), (81, m81), (91, m91), (110, m110)] [] [] [(66, 0, l66_0)]
theorem s66_0 (ce : CallE) (t3 : Int) (h0_0 : List AV) (h0_1 : List AV) (h0_2 : List AV) (next : St → Option AV) (k : Kont) : stepA (codeA c66 ce [] 66 0 (sub [1, 1, 0, 1, 0, 0] (body Try.f66))) (normA [] [1, 3]) next ⟨[(1, AV.ptr [0, 1] 0 0), (3, AV.int .i64 t3)], [([0, 1], ⟨true, [], [AV.agg [AV.sl [.int .i64] h0_0, AV.sl [.int .i64] h0_1, AV.sl [.int .i64, .int .i64] h0_2]]⟩)]⟩ k = (bif decide (t3 < (h0_1.length : Int)) then (bif (decide (0 ≤ t3) && decide (t3 < (h0_1.length : Int))) then (bif !(v67_0 (fI (h0_1.getD t3.toNat AV.undef) 0) 0 999) then k .ret ⟨[(2, AV.bool false)], [([0, 1], ⟨true, [], [AV.agg [AV.sl [.int .i64] h0_0, AV.sl [.int .i64] h0_1, AV.sl [.int .i64, .int .i64] h0_2]]⟩)]⟩
  else (bif (decide (0 ≤ 0) && decide (0 ≤ t3) && decide (t3 ≤ (h0_1.length : Int))) then (bif (decide (0 ≤ t3) && decide (t3 < (h0_1.length : Int))) then (bif q91 ((h0_1.take (Int.toNat t3)).drop (Int.toNat 0)) (fI (h0_1.getD t3.toNat AV.undef) 0) then (bif (v91_0 ((h0_1.take (Int.toNat t3)).drop (Int.toNat 0)) (fI (h0_1.getD t3.toNat AV.undef) 0)) then k .ret ⟨[(2, AV.bool false)], [([0, 1], ⟨true, [], [AV.agg [AV.sl [.int .i64] h0_0, AV.sl [.int .i64] h0_1, AV.sl [.int .i64, .int .i64] h0_2]]⟩)]⟩
  else next ⟨[(1, AV.ptr [0, 1] 0 0), (3, AV.int .i64 (IntKind.i64.wrap (t3 + 1)))], [([0, 1], ⟨true, [], [AV.agg [AV.sl [.int .i64] h0_0, AV.sl [.int .i64] h0_1, AV.sl [.int .i64, .int .i64] h0_2]]⟩)]⟩)
  else none)
  else none)
  else none))
  else none)
  else k (.exit 0) ⟨[(1, AV.ptr [0, 1] 0 0)], [([0, 1], ⟨true, [], [AV.agg [AV.sl [.int .i64] h0_0, AV.sl [.int .i64] h0_1, AV.sl [.int .i64, .int .i64] h0_2]]⟩)]⟩) := by kernel_rfl
theorem st66_0 (h0_0 : List AV) (h0_1 : List AV) (h0_2 : List AV) (ce : CallE) (k : Kont) (s : Int) (next : St → Option AV) : stepA (codeA c66 ce [] 66 0 (sub [1, 1, 0, 1, 0, 0] (body Try.f66))) (normA [] [1, 3]) next ((fun s : Int => ⟨[(1, AV.ptr [0, 1] 0 0), (3, AV.int .i64 s)], [([0, 1], ⟨true, [], [AV.agg [AV.sl [.int .i64] h0_0, AV.sl [.int .i64] h0_1, AV.sl [.int .i64, .int .i64] h0_2]]⟩)]⟩) s) k = (R66_0 h0_0 h0_1 h0_2 s).el none (fun s => next ((fun s : Int => ⟨[(1, AV.ptr [0, 1] 0 0), (3, AV.int .i64 s)], [([0, 1], ⟨true, [], [AV.agg [AV.sl [.int .i64] h0_0, AV.sl [.int .i64] h0_1, AV.sl [.int .i64, .int .i64] h0_2]]⟩)]⟩) s)) (sumE (fun _ : Unit => k (.exit 0) ⟨[(1, AV.ptr [0, 1] 0 0)], [([0, 1], ⟨true, [], [AV.agg [AV.sl [.int .i64] h0_0, AV.sl [.int .i64] h0_1, AV.sl [.int .i64, .int .i64] h0_2]]⟩)]⟩) (fun _ : Unit => k .ret ⟨[(2, AV.bool false)], [([0, 1], ⟨true, [], [AV.agg [AV.sl [.int .i64] h0_0, AV.sl [.int .i64] h0_1, AV.sl [.int .i64, .int .i64] h0_2]]⟩)]⟩)) := (s66_0 ce s h0_0 h0_1 h0_2 next k).trans (by unfold R66_0; unfold F66_0; simp only [el_cond, el_ro, el_sum, el_fail, el_next, el_stop] <;> rfl)
theorem ok66_0 {ce : CallE} : LoopOK c66 ce [] 66 0 (sub [1, 1, 0, 1, 0, 0] (body Try.f66)) := by
  intro m hm st k r h
  obtain rfl : l66_0 = m := Option.some.inj hm
  unfold l66_0 at h
  split at h
  · rename_i g0 g1 g2 t3 g3 g4 h0_0 g5 h0_1 g6 h0_2
    obtain ⟨hg, h⟩ := bif_some h
    simp only [Bool.and_eq_true] at hg
    obtain ⟨⟨⟨⟨⟨⟨q0, q1⟩, q2⟩, q3⟩, q4⟩, q5⟩, q6⟩ := hg
    obtain rfl := (nmEq_iff _ _).1 q0
    obtain rfl := Nat.eq_of_beq_eq_true q1
    obtain rfl := Nat.eq_of_beq_eq_true q2
    obtain rfl := (nmEq_iff _ _).1 q3
    obtain rfl := ctsEq_eq _ _ q4
    obtain rfl := ctsEq_eq _ _ q5
    obtain rfl := ctsEq_eq _ _ q6
    refine ⟨(((h0_1.length : Int) - t3).toNat + 1), ?_⟩
    rw [← h]
    exact loop_run (fun s : Int => ⟨[(1, AV.ptr [0, 1] 0 0), (3, AV.int .i64 s)], [([0, 1], ⟨true, [], [AV.agg [AV.sl [.int .i64] h0_0, AV.sl [.int .i64] h0_1, AV.sl [.int .i64, .int .i64] h0_2]]⟩)]⟩) (sumE (fun _ : Unit => k (.exit 0) ⟨[(1, AV.ptr [0, 1] 0 0)], [([0, 1], ⟨true, [], [AV.agg [AV.sl [.int .i64] h0_0, AV.sl [.int .i64] h0_1, AV.sl [.int .i64, .int .i64] h0_2]]⟩)]⟩) (fun _ : Unit => k .ret ⟨[(2, AV.bool false)], [([0, 1], ⟨true, [], [AV.agg [AV.sl [.int .i64] h0_0, AV.sl [.int .i64] h0_1, AV.sl [.int .i64, .int .i64] h0_2]]⟩)]⟩)) (st66_0 h0_0 h0_1 h0_2 ce k) _ t3
  · cases h
def q66 (a0_0 : List AV) (a0_1 : List AV) (a0_2 : List AV) : Bool := (q81 a0_0 && (bif !(v81_0 a0_0) then true else (bif !decide ((a0_1.length : Int) = (a0_0.length : Int)) then true else (ro (runW (R66_0 a0_0 a0_1 a0_2) (((a0_1.length : Int) - 0).toNat + 1) 0) false (sumE (fun _ => q110 a0_0 a0_2) (fun _ => true))))))
def v66_0 (a0_0 : List AV) (a0_1 : List AV) (a0_2 : List AV) : Bool := (bif !(v81_0 a0_0) then false else (bif !decide ((a0_1.length : Int) = (a0_0.length : Int)) then false else (ro (runW (R66_0 a0_0 a0_1 a0_2) (((a0_1.length : Int) - 0).toNat + 1) 0) false (sumE (fun _ => (v110_0 a0_0 a0_2)) (fun _ => false)))))
theorem e66 (a0_0 : List AV) (a0_1 : List AV) (a0_2 : List AV) : funA c66 0 66 [AV.agg [AV.sl [.int .i64] a0_0, AV.sl [.int .i64] a0_1, AV.sl [.int .i64, .int .i64] a0_2]] = (bif q81 a0_0 then (bif !(v81_0 a0_0) then some (AV.bool false)
  else (bif !decide ((a0_1.length : Int) = (a0_0.length : Int)) then some (AV.bool false)
  else (ro (runW (R66_0 a0_0 a0_1 a0_2) (((a0_1.length : Int) - 0).toNat + 1) 0) none (sumE (fun _ => (bif q110 a0_0 a0_2 then some (AV.bool (v110_0 a0_0 a0_2))
  else none)) (fun _ => some (AV.bool false))))))
  else none) := by kernel_rfl
theorem r66 (a0_0 : List AV) (a0_1 : List AV) (a0_2 : List AV) (h : q66 a0_0 a0_1 a0_2 = true) : funA c66 0 66 [AV.agg [AV.sl [.int .i64] a0_0, AV.sl [.int .i64] a0_1, AV.sl [.int .i64, .int .i64] a0_2]] = some (AV.bool (v66_0 a0_0 a0_1 a0_2)) := (e66 a0_0 a0_1 a0_2).trans ((brL (br (fun b => some (AV.bool (bif b then false else (bif !decide ((a0_1.length : Int) = (a0_0.length : Int)) then false else (ro (runW (R66_0 a0_0 a0_1 a0_2) (((a0_1.length : Int) - 0).toNat + 1) 0) false (sumE (fun _ => (v110_0 a0_0 a0_2)) (fun _ => false))))))) (fun _ => rfl) (br (fun b => some (AV.bool (bif b then false else (ro (runW (R66_0 a0_0 a0_1 a0_2) (((a0_1.length : Int) - 0).toNat + 1) 0) false (sumE (fun _ => (v110_0 a0_0 a0_2)) (fun _ => false)))))) (fun _ => rfl) (brO (fun o : Option (Unit ⊕ Unit) => some (AV.bool (ro o false (sumE (fun _ => (v110_0 a0_0 a0_2)) (fun _ => false))))) (brS (fun o : Unit ⊕ Unit => some (AV.bool ((sumE (fun _ => (v110_0 a0_0 a0_2)) (fun _ => false)) o))) (fun _ => (brL1 (fun _ => rfl))) (fun _ => (fun _ => rfl))))))) h)
def m66 : TModel
  | [.agg [.sl g0 a0_0, .sl g1 a0_1, .sl g2 a0_2]] => bif ctsEq g0 ([.int .i64]) && ctsEq g1 ([.int .i64]) && ctsEq g2 ([.int .i64, .int .i64]) then some (q66 a0_0 a0_1 a0_2, AV.bool (v66_0 a0_0 a0_1 a0_2)) else none
  | _ => none
theorem k66 : Known Try.prog 66 := ⟨Try.f66, Try.func66, by kernel_rfl, by kernel_rfl⟩
theorem meets66 : Meets Try.prog 66 m66 := by
  refine meet (f := Try.f66) (l := [(0, sub [1, 1, 0, 1, 0, 0] (body Try.f66))]) (hs := [(66, 0, [1, 3]), (66, 999, [2]), (66, 1000, [1]), (66, 1001, [1, 3])]) (ts := [(67, m67), (81, m81), (91, m91), (110, m110)]) (ws := []) (is := []) (ls := [(66, 0, l66_0)]) (lvl := 0) mixed k66 Try.func66 (by kernel_rfl) (loops_cons ok66_0 noLoop) (allT_cons meets67 (allT_cons meets81 (allT_cons meets91 (allT_cons meets110 allT_nil)))) allM_nil noI fun w xs us r hl hv h => ?_
  unfold m66 at h
  split at h
  · rename_i g0 a0_0 g1 a0_1 g2 a0_2
    obtain ⟨hg, h⟩ := bif_pair h
    simp only [Bool.and_eq_true] at hg
    obtain ⟨⟨q0, q1⟩, q2⟩ := hg
    obtain rfl := ctsEq_eq _ _ q0
    obtain rfl := ctsEq_eq _ _ q1
    obtain rfl := ctsEq_eq _ _ q2
    obtain ⟨h1, rfl⟩ := pair_inj h
    exact r66 a0_0 a0_1 a0_2 h1
  · cases h

/-! ### 111 loop.example/g01984/spec.l12History -/
def F111_0 (t0 : List AV) (t3 : Int) : Out (Int) (Unit ⊕ Unit) := (bif decide (t3 < (t0.length : Int)) then (bif (decide (0 ≤ t3) && decide (t3 < (t0.length : Int))) then (bif !(v67_0 (fI (t0.getD t3.toNat AV.undef) 0) (-1000) 1000) then .stop (.inr ())
  else .next (IntKind.i64.wrap (t3 + 1)))
  else .fail)
  else .stop (.inl ()))
def R111_0 (t0 : List AV) : (Int) → Out (Int) (Unit ⊕ Unit) := fun s : Int => F111_0 t0 s
def l111_0 : LModel := fun _ _ st k => match st with
  | ⟨[(0, .sl g0 t0), (3, .int .i64 t3)], []⟩ => bif ctsEq g0 ([.int .i64]) then ro (runW (R111_0 t0) (((t0.length : Int) - t3).toNat + 1) t3) none (sumE (fun _ : Unit => k (.exit 0) ⟨[(0, AV.sl [.int .i64] t0)], []⟩) (fun _ : Unit => k .ret ⟨[(2, AV.bool false)], []⟩)) else none
  | _ => none
noncomputable def c111 : Cfg := cfg Try.prog [(111, 0, [0, 3]), (111, 999, [2]), (111, 1000, [0]), (111, 1001, [0, 3])] [(67, m67)] [] [] [(111, 0, l111_0)]
theorem s111_0 (ce : CallE) (t0 : List AV) (t3 : Int) (next : St → Option AV) (k : Kont) : stepA (codeA c111 ce [] 111 0 (sub [1, 0, 1, 0, 0] (body Try.f111))) (normA [] [0, 3]) next ⟨[(0, AV.sl [.int .i64] t0), (3, AV.int .i64 t3)], []⟩ k = (bif decide (t3 < (t0.length : Int)) then (bif (decide (0 ≤ t3) && decide (t3 < (t0.length : Int))) then (bif !(v67_0 (fI (t0.getD t3.toNat AV.undef) 0) (-1000) 1000) then k .ret ⟨[(2, AV.bool false)], []⟩
  else next ⟨[(0, AV.sl [.int .i64] t0), (3, AV.int .i64 (IntKind.i64.wrap (t3 + 1)))], []⟩)
  else none)
  else k (.exit 0) ⟨[(0, AV.sl [.int .i64] t0)], []⟩) := by kernel_rfl
theorem st111_0 (t0 : List AV) (ce : CallE) (k : Kont) (s : Int) (next : St → Option AV) : stepA (codeA c111 ce [] 111 0 (sub [1, 0, 1, 0, 0] (body Try.f111))) (normA [] [0, 3]) next ((fun s : Int => ⟨[(0, AV.sl [.int .i64] t0), (3, AV.int .i64 s)], []⟩) s) k = (R111_0 t0 s).el none (fun s => next ((fun s : Int => ⟨[(0, AV.sl [.int .i64] t0), (3, AV.int .i64 s)], []⟩) s)) (sumE (fun _ : Unit => k (.exit 0) ⟨[(0, AV.sl [.int .i64] t0)], []⟩) (fun _ : Unit => k .ret ⟨[(2, AV.bool false)], []⟩)) := (s111_0 ce t0 s next k).trans (by unfold R111_0; unfold F111_0; simp only [el_cond, el_ro, el_sum, el_fail, el_next, el_stop] <;> rfl)
theorem ok111_0 {ce : CallE} : LoopOK c111 ce [] 111 0 (sub [1, 0, 1, 0, 0] (body Try.f111)) := by
  intro m hm st k r h
  obtain rfl : l111_0 = m := Option.some.inj hm
  unfold l111_0 at h
  split at h
  · rename_i g0 t0 t3
    obtain ⟨hg, h⟩ := bif_some h
    have q0 := hg
    obtain rfl := ctsEq_eq _ _ q0
    refine ⟨(((t0.length : Int) - t3).toNat + 1), ?_⟩
    rw [← h]
    exact loop_run (fun s : Int => ⟨[(0, AV.sl [.int .i64] t0), (3, AV.int .i64 s)], []⟩) (sumE (fun _ : Unit => k (.exit 0) ⟨[(0, AV.sl [.int .i64] t0)], []⟩) (fun _ : Unit => k .ret ⟨[(2, AV.bool false)], []⟩)) (st111_0 t0 ce k) _ t3
  · cases h
def q111 (a0 : List AV) : Bool := (ro (runW (R111_0 a0) (((a0.length : Int) - 0).toNat + 1) 0) false (sumE (fun _ => true) (fun _ => true)))
def v111_0 (a0 : List AV) : Bool := (ro (runW (R111_0 a0) (((a0.length : Int) - 0).toNat + 1) 0) false (sumE (fun _ => decide ((a0.length : Int) ≤ 60)) (fun _ => false)))
theorem e111 (a0 : List AV) : funA c111 0 111 [AV.sl [.int .i64] a0] = (ro (runW (R111_0 a0) (((a0.length : Int) - 0).toNat + 1) 0) none (sumE (fun _ => some (AV.bool (decide ((a0.length : Int) ≤ 60)))) (fun _ => some (AV.bool false)))) := by kernel_rfl
theorem r111 (a0 : List AV) (h : q111 a0 = true) : funA c111 0 111 [AV.sl [.int .i64] a0] = some (AV.bool (v111_0 a0)) := (e111 a0).trans ((brO (fun o : Option (Unit ⊕ Unit) => some (AV.bool (ro o false (sumE (fun _ => decide ((a0.length : Int) ≤ 60)) (fun _ => false))))) (brS (fun o : Unit ⊕ Unit => some (AV.bool ((sumE (fun _ => decide ((a0.length : Int) ≤ 60)) (fun _ => false)) o))) (fun _ => (fun _ => rfl)) (fun _ => (fun _ => rfl)))) h)
def m111 : TModel
  | [.sl g0 a0] => bif ctsEq g0 ([.int .i64]) then some (q111 a0, AV.bool (v111_0 a0)) else none
  | _ => none
theorem k111 : Known Try.prog 111 := ⟨Try.f111, Try.func111, by kernel_rfl, by kernel_rfl⟩
theorem meets111 : Meets Try.prog 111 m111 := by
  refine meet (f := Try.f111) (l := [(0, sub [1, 0, 1, 0, 0] (body Try.f111))]) (hs := [(111, 0, [0, 3]), (111, 999, [2]), (111, 1000, [0]), (111, 1001, [0, 3])]) (ts := [(67, m67)]) (ws := []) (is := []) (ls := [(111, 0, l111_0)]) (lvl := 0) mixed k111 Try.func111 (by kernel_rfl) (loops_cons ok111_0 noLoop) (allT_cons meets67 allT_nil) allM_nil noI fun w xs us r hl hv h => ?_
  unfold m111 at h
  split at h
  · rename_i g0 a0
    obtain ⟨hg, h⟩ := bif_pair h
    have q0 := hg
    obtain rfl := ctsEq_eq _ _ q0
    obtain ⟨h1, rfl⟩ := pair_inj h
    exact r111 a0 h1
  · cases h

/-! ### 118 loop.example/g01984/spec.l4Piece -/
def F118_2 (t1 : List AV) (t2 : Int) (t8 : Int) (t9 : Int) (t11 : Int) : Out ((Int × Int)) (Int) := (bif decide (t11 ≥ 0) then (bif (decide (0 ≤ t11) && decide (t11 < (t1.length : Int))) then (bif decide (fI (t1.getD t11.toNat AV.undef) 0 ≥ t2) then (bif (decide (0 ≤ t11) && decide (t11 < (t1.length : Int))) then .next (fI (t1.getD t11.toNat AV.undef) 1, IntKind.i64.wrap (t11 - 1))
  else .fail)
  else .next (t9, IntKind.i64.wrap (t11 - 1)))
  else .fail)
  else .stop t9)
def R118_2 (t1 : List AV) (t2 : Int) (t8 : Int) : ((Int × Int)) → Out ((Int × Int)) (Int) := fun s : Int × Int => F118_2 t1 t2 t8 s.1 s.2
def l118_2 : LModel := fun _ _ st k => match st with
  | ⟨[(1, .sl g0 t1), (2, .int .i64 t2), (8, .int .i64 t8), (9, .int .i64 t9), (11, .int .i64 t11)], []⟩ => bif ctsEq g0 ([.int .i64, .int .i64]) then ro (runW (R118_2 t1 t2 t8) ((t11 - 0 + 1).toNat + 1) (t9, t11)) none (fun p : Int => k (.exit 2) ⟨[(8, AV.int .i64 t8), (9, AV.int .i64 p)], []⟩) else none
  | _ => none
def F118_0 (t1 : List AV) (t2 : Int) (t9 : Int) (t8 : Int) (t10 : Int) : Out ((Int × Int)) (Int) := (bif decide (t10 < (t1.length : Int)) then (bif (decide (0 ≤ t10) && decide (t10 < (t1.length : Int))) then (bif decide (fI (t1.getD t10.toNat AV.undef) 0 ≤ t2) then (bif (decide (0 ≤ t10) && decide (t10 < (t1.length : Int))) then .next (fI (t1.getD t10.toNat AV.undef) 1, IntKind.i64.wrap (t10 + 1))
  else .fail)
  else .next (t8, IntKind.i64.wrap (t10 + 1)))
  else .fail)
  else .stop t8)
def R118_0 (t1 : List AV) (t2 : Int) (t9 : Int) : ((Int × Int)) → Out ((Int × Int)) (Int) := fun s : Int × Int => F118_0 t1 t2 t9 s.1 s.2
def l118_0 : LModel := fun _ _ st k => match st with
  | ⟨[(1, .sl g0 t1), (2, .int .i64 t2), (8, .int .i64 t8), (9, .int .i64 t9), (10, .int .i64 t10)], []⟩ => bif ctsEq g0 ([.int .i64, .int .i64]) then ro (runW (R118_0 t1 t2 t9) (((t1.length : Int) - t10).toNat + 1) (t8, t10)) none (fun p : Int => k (.exit 0) ⟨[(1, AV.sl [.int .i64, .int .i64] t1), (2, AV.int .i64 t2), (8, AV.int .i64 p), (9, AV.int .i64 t9)], []⟩) else none
  | _ => none
noncomputable def c118 : Cfg := cfg Try.prog [(118, 0, [1, 2, 8, 9, 10]), (118, 2, [1, 2, 8, 9, 11]), (118, 999, [6, 7]), (118, 1000, [1, 2, 8, 9]), (118, 1001, [1, 2, 8, 9, 10]), (118, 1002, [8, 9]), (118, 1003, [1, 2, 8, 9, 11])] [] [] [] [(118, 0, l118_0), (118, 2, l118_2)]
theorem s118_2 (ce : CallE) (t1 : List AV) (t2 : Int) (t8 : Int) (t9 : Int) (t11 : Int) (next : St → Option AV) (k : Kont) : stepA (codeA c118 ce [] 118 2 (sub [1, 1, 1, 1, 0, 1, 0, 0] (body Try.f118))) (normA [] [1, 2, 8, 9, 11]) next ⟨[(1, AV.sl [.int .i64, .int .i64] t1), (2, AV.int .i64 t2), (8, AV.int .i64 t8), (9, AV.int .i64 t9), (11, AV.int .i64 t11)], []⟩ k = (bif decide (t11 ≥ 0) then (bif (decide (0 ≤ t11) && decide (t11 < (t1.length : Int))) then (bif decide (fI (t1.getD t11.toNat AV.undef) 0 ≥ t2) then (bif (decide (0 ≤ t11) && decide (t11 < (t1.length : Int))) then next ⟨[(1, AV.sl [.int .i64, .int .i64] t1), (2, AV.int .i64 t2), (8, AV.int .i64 t8), (9, AV.int .i64 (fI (t1.getD t11.toNat AV.undef) 1)), (11, AV.int .i64 (IntKind.i64.wrap (t11 - 1)))], []⟩
  else none)
  else next ⟨[(1, AV.sl [.int .i64, .int .i64] t1), (2, AV.int .i64 t2), (8, AV.int .i64 t8), (9, AV.int .i64 t9), (11, AV.int .i64 (IntKind.i64.wrap (t11 - 1)))], []⟩)
  else none)
  else k (.exit 2) ⟨[(8, AV.int .i64 t8), (9, AV.int .i64 t9)], []⟩) := by kernel_rfl
theorem st118_2 (t1 : List AV) (t2 : Int) (t8 : Int) (ce : CallE) (k : Kont) (s : (Int × Int)) (next : St → Option AV) : stepA (codeA c118 ce [] 118 2 (sub [1, 1, 1, 1, 0, 1, 0, 0] (body Try.f118))) (normA [] [1, 2, 8, 9, 11]) next ((fun s : Int × Int => ⟨[(1, AV.sl [.int .i64, .int .i64] t1), (2, AV.int .i64 t2), (8, AV.int .i64 t8), (9, AV.int .i64 s.1), (11, AV.int .i64 s.2)], []⟩) s) k = (R118_2 t1 t2 t8 s).el none (fun s => next ((fun s : Int × Int => ⟨[(1, AV.sl [.int .i64, .int .i64] t1), (2, AV.int .i64 t2), (8, AV.int .i64 t8), (9, AV.int .i64 s.1), (11, AV.int .i64 s.2)], []⟩) s)) (fun p : Int => k (.exit 2) ⟨[(8, AV.int .i64 t8), (9, AV.int .i64 p)], []⟩) := (s118_2 ce t1 t2 t8 s.1 s.2 next k).trans (by unfold R118_2; unfold F118_2; simp only [el_cond, el_ro, el_sum, el_fail, el_next, el_stop] <;> rfl)
theorem ok118_2 {ce : CallE} : LoopOK c118 ce [] 118 2 (sub [1, 1, 1, 1, 0, 1, 0, 0] (body Try.f118)) := by
  intro m hm st k r h
  obtain rfl : l118_2 = m := Option.some.inj hm
  unfold l118_2 at h
  split at h
  · rename_i g0 t1 t2 t8 t9 t11
    obtain ⟨hg, h⟩ := bif_some h
    have q0 := hg
    obtain rfl := ctsEq_eq _ _ q0
    refine ⟨((t11 - 0 + 1).toNat + 1), ?_⟩
    rw [← h]
    exact loop_run (fun s : Int × Int => ⟨[(1, AV.sl [.int .i64, .int .i64] t1), (2, AV.int .i64 t2), (8, AV.int .i64 t8), (9, AV.int .i64 s.1), (11, AV.int .i64 s.2)], []⟩) (fun p : Int => k (.exit 2) ⟨[(8, AV.int .i64 t8), (9, AV.int .i64 p)], []⟩) (st118_2 t1 t2 t8 ce k) _ (t9, t11)
  · cases h
theorem s118_0 (ce : CallE) (t1 : List AV) (t2 : Int) (t8 : Int) (t9 : Int) (t10 : Int) (next : St → Option AV) (k : Kont) : stepA (codeA c118 ce [] 118 0 (sub [1, 1, 1, 0, 1, 0, 0] (body Try.f118))) (normA [] [1, 2, 8, 9, 10]) next ⟨[(1, AV.sl [.int .i64, .int .i64] t1), (2, AV.int .i64 t2), (8, AV.int .i64 t8), (9, AV.int .i64 t9), (10, AV.int .i64 t10)], []⟩ k = (bif decide (t10 < (t1.length : Int)) then (bif (decide (0 ≤ t10) && decide (t10 < (t1.length : Int))) then (bif decide (fI (t1.getD t10.toNat AV.undef) 0 ≤ t2) then (bif (decide (0 ≤ t10) && decide (t10 < (t1.length : Int))) then next ⟨[(1, AV.sl [.int .i64, .int .i64] t1), (2, AV.int .i64 t2), (8, AV.int .i64 (fI (t1.getD t10.toNat AV.undef) 1)), (9, AV.int .i64 t9), (10, AV.int .i64 (IntKind.i64.wrap (t10 + 1)))], []⟩
  else none)
  else next ⟨[(1, AV.sl [.int .i64, .int .i64] t1), (2, AV.int .i64 t2), (8, AV.int .i64 t8), (9, AV.int .i64 t9), (10, AV.int .i64 (IntKind.i64.wrap (t10 + 1)))], []⟩)
  else none)
  else k (.exit 0) ⟨[(1, AV.sl [.int .i64, .int .i64] t1), (2, AV.int .i64 t2), (8, AV.int .i64 t8), (9, AV.int .i64 t9)], []⟩) := by kernel_rfl
theorem st118_0 (t1 : List AV) (t2 : Int) (t9 : Int) (ce : CallE) (k : Kont) (s : (Int × Int)) (next : St → Option AV) : stepA (codeA c118 ce [] 118 0 (sub [1, 1, 1, 0, 1, 0, 0] (body Try.f118))) (normA [] [1, 2, 8, 9, 10]) next ((fun s : Int × Int => ⟨[(1, AV.sl [.int .i64, .int .i64] t1), (2, AV.int .i64 t2), (8, AV.int .i64 s.1), (9, AV.int .i64 t9), (10, AV.int .i64 s.2)], []⟩) s) k = (R118_0 t1 t2 t9 s).el none (fun s => next ((fun s : Int × Int => ⟨[(1, AV.sl [.int .i64, .int .i64] t1), (2, AV.int .i64 t2), (8, AV.int .i64 s.1), (9, AV.int .i64 t9), (10, AV.int .i64 s.2)], []⟩) s)) (fun p : Int => k (.exit 0) ⟨[(1, AV.sl [.int .i64, .int .i64] t1), (2, AV.int .i64 t2), (8, AV.int .i64 p), (9, AV.int .i64 t9)], []⟩) := (s118_0 ce t1 t2 s.1 t9 s.2 next k).trans (by unfold R118_0; unfold F118_0; simp only [el_cond, el_ro, el_sum, el_fail, el_next, el_stop] <;> rfl)
theorem ok118_0 {ce : CallE} : LoopOK c118 ce [] 118 0 (sub [1, 1, 1, 0, 1, 0, 0] (body Try.f118)) := by
  intro m hm st k r h
  obtain rfl : l118_0 = m := Option.some.inj hm
  unfold l118_0 at h
  split at h
  · rename_i g0 t1 t2 t8 t9 t10
    obtain ⟨hg, h⟩ := bif_some h
    have q0 := hg
    obtain rfl := ctsEq_eq _ _ q0
    refine ⟨(((t1.length : Int) - t10).toNat + 1), ?_⟩
    rw [← h]
    exact loop_run (fun s : Int × Int => ⟨[(1, AV.sl [.int .i64, .int .i64] t1), (2, AV.int .i64 t2), (8, AV.int .i64 s.1), (9, AV.int .i64 t9), (10, AV.int .i64 s.2)], []⟩) (fun p : Int => k (.exit 0) ⟨[(1, AV.sl [.int .i64, .int .i64] t1), (2, AV.int .i64 t2), (8, AV.int .i64 p), (9, AV.int .i64 t9)], []⟩) (st118_0 t1 t2 t9 ce k) _ (t8, t10)
  · cases h
def q118 (a0 : Int) (a1 : List AV) (a2 : Int) : Bool := (ro (runW (R118_0 a1 a2 a0) (((a1.length : Int) - 0).toNat + 1) (0, 0)) false (fun p21 => (ro (runW (R118_2 a1 a2 p21) (((IntKind.i64.wrap ((a1.length : Int) - 1)) - 0 + 1).toNat + 1) (a0, IntKind.i64.wrap ((a1.length : Int) - 1))) false (fun p22 => true))))
def v118_0 (a0 : Int) (a1 : List AV) (a2 : Int) : Int := (ro (runW (R118_0 a1 a2 a0) (((a1.length : Int) - 0).toNat + 1) (0, 0)) 0 (fun p21 => p21))
def v118_1 (a0 : Int) (a1 : List AV) (a2 : Int) : Int := (ro (runW (R118_0 a1 a2 a0) (((a1.length : Int) - 0).toNat + 1) (0, 0)) 0 (fun p21 => (ro (runW (R118_2 a1 a2 p21) (((IntKind.i64.wrap ((a1.length : Int) - 1)) - 0 + 1).toNat + 1) (a0, IntKind.i64.wrap ((a1.length : Int) - 1))) 0 (fun p22 => p22))))
theorem e118 (a0 : Int) (a1 : List AV) (a2 : Int) : funA c118 0 118 [AV.int .i64 a0, AV.sl [.int .i64, .int .i64] a1, AV.int .i64 a2] = (ro (runW (R118_0 a1 a2 a0) (((a1.length : Int) - 0).toNat + 1) (0, 0)) none (fun p21 => (ro (runW (R118_2 a1 a2 p21) (((IntKind.i64.wrap ((a1.length : Int) - 1)) - 0 + 1).toNat + 1) (a0, IntKind.i64.wrap ((a1.length : Int) - 1))) none (fun p22 => some (AV.tup [AV.int .i64 p21, AV.int .i64 p22]))))) := by kernel_rfl
theorem r118 (a0 : Int) (a1 : List AV) (a2 : Int) (h : q118 a0 a1 a2 = true) : funA c118 0 118 [AV.int .i64 a0, AV.sl [.int .i64, .int .i64] a1, AV.int .i64 a2] = some (AV.tup [AV.int .i64 (v118_0 a0 a1 a2), AV.int .i64 (v118_1 a0 a1 a2)]) := (e118 a0 a1 a2).trans ((brO (fun o : Option (Int) => some (AV.tup [AV.int .i64 (ro o 0 (fun p21 => p21)), AV.int .i64 (ro o 0 (fun p21 => (ro (runW (R118_2 a1 a2 p21) (((IntKind.i64.wrap ((a1.length : Int) - 1)) - 0 + 1).toNat + 1) (a0, IntKind.i64.wrap ((a1.length : Int) - 1))) 0 (fun p22 => p22))))])) (fun p21 => (brO (fun o : Option (Int) => some (AV.tup [AV.int .i64 p21, AV.int .i64 (ro o 0 (fun p22 => p22))])) (fun p22 => (fun _ => rfl))))) h)
def m118 : TModel
  | [.int .i64 a0, .sl g0 a1, .int .i64 a2] => bif ctsEq g0 ([.int .i64, .int .i64]) then some (q118 a0 a1 a2, AV.tup [AV.int .i64 (v118_0 a0 a1 a2), AV.int .i64 (v118_1 a0 a1 a2)]) else none
  | _ => none
theorem k118 : Known Try.prog 118 := ⟨Try.f118, Try.func118, by kernel_rfl, by kernel_rfl⟩
theorem meets118 : Meets Try.prog 118 m118 := by
  refine meet (f := Try.f118) (l := [(0, sub [1, 1, 1, 0, 1, 0, 0] (body Try.f118)), (2, sub [1, 1, 1, 1, 0, 1, 0, 0] (body Try.f118))]) (hs := [(118, 0, [1, 2, 8, 9, 10]), (118, 2, [1, 2, 8, 9, 11]), (118, 999, [6, 7]), (118, 1000, [1, 2, 8, 9]), (118, 1001, [1, 2, 8, 9, 10]), (118, 1002, [8, 9]), (118, 1003, [1, 2, 8, 9, 11])]) (ts := []) (ws := []) (is := []) (ls := [(118, 0, l118_0), (118, 2, l118_2)]) (lvl := 0) mixed k118 Try.func118 (by kernel_rfl) (loops_cons ok118_0 (loops_cons ok118_2 noLoop)) allT_nil allM_nil noI fun w xs us r hl hv h => ?_
  unfold m118 at h
  split at h
  · rename_i a0 g0 a1 a2
    obtain ⟨hg, h⟩ := bif_pair h
    have q0 := hg
    obtain rfl := ctsEq_eq _ _ q0
    obtain ⟨h1, rfl⟩ := pair_inj h
    exact r118 a0 a1 a2 h1
  · cases h

/-! ### 76 loop.example/g01984/spec.PieceOf -/
noncomputable def c76 : Cfg := cfg Try.prog [(76, 999, [4, 5])] [(66, m66), (67, m67), (118, m118)] [] [] []
def q76 (a0_0 : List AV) (a0_1 : List AV) (a0_2 : List AV) (a1 : Int) : Bool := (q66 a0_0 a0_1 a0_2 && (bif !(v66_0 a0_0 a0_1 a0_2) then true else (bif !(v67_0 a1 (-1000) 1000) then true else q118 (a0_0.length : Int) a0_2 a1)))
def v76_0 (a0_0 : List AV) (a0_1 : List AV) (a0_2 : List AV) (a1 : Int) : Int := (bif !(v66_0 a0_0 a0_1 a0_2) then 0 else (bif !(v67_0 a1 (-1000) 1000) then 0 else (v118_0 (a0_0.length : Int) a0_2 a1)))
def v76_1 (a0_0 : List AV) (a0_1 : List AV) (a0_2 : List AV) (a1 : Int) : Int := (bif !(v66_0 a0_0 a0_1 a0_2) then 0 else (bif !(v67_0 a1 (-1000) 1000) then 0 else (v118_1 (a0_0.length : Int) a0_2 a1)))
theorem e76 (a0_0 : List AV) (a0_1 : List AV) (a0_2 : List AV) (a1 : Int) : funA c76 0 76 [AV.agg [AV.sl [.int .i64] a0_0, AV.sl [.int .i64] a0_1, AV.sl [.int .i64, .int .i64] a0_2], AV.int .i64 a1] = (bif q66 a0_0 a0_1 a0_2 then (bif !(v66_0 a0_0 a0_1 a0_2) then some (AV.tup [AV.int .i64 0, AV.int .i64 0])
  else (bif !(v67_0 a1 (-1000) 1000) then some (AV.tup [AV.int .i64 0, AV.int .i64 0])
  else (bif q118 (a0_0.length : Int) a0_2 a1 then some (AV.tup [AV.int .i64 (v118_0 (a0_0.length : Int) a0_2 a1), AV.int .i64 (v118_1 (a0_0.length : Int) a0_2 a1)])
  else none)))
  else none) := by kernel_rfl
theorem r76 (a0_0 : List AV) (a0_1 : List AV) (a0_2 : List AV) (a1 : Int) (h : q76 a0_0 a0_1 a0_2 a1 = true) : funA c76 0 76 [AV.agg [AV.sl [.int .i64] a0_0, AV.sl [.int .i64] a0_1, AV.sl [.int .i64, .int .i64] a0_2], AV.int .i64 a1] = some (AV.tup [AV.int .i64 (v76_0 a0_0 a0_1 a0_2 a1), AV.int .i64 (v76_1 a0_0 a0_1 a0_2 a1)]) := (e76 a0_0 a0_1 a0_2 a1).trans ((brL (br (fun b => some (AV.tup [AV.int .i64 (bif b then 0 else (bif !(v67_0 a1 (-1000) 1000) then 0 else (v118_0 (a0_0.length : Int) a0_2 a1))), AV.int .i64 (bif b then 0 else (bif !(v67_0 a1 (-1000) 1000) then 0 else (v118_1 (a0_0.length : Int) a0_2 a1)))])) (fun _ => rfl) (br (fun b => some (AV.tup [AV.int .i64 (bif b then 0 else (v118_0 (a0_0.length : Int) a0_2 a1)), AV.int .i64 (bif b then 0 else (v118_1 (a0_0.length : Int) a0_2 a1))])) (fun _ => rfl) (brL1 (fun _ => rfl))))) h)
def m76 : TModel
  | [.agg [.sl g0 a0_0, .sl g1 a0_1, .sl g2 a0_2], .int .i64 a1] => bif ctsEq g0 ([.int .i64]) && ctsEq g1 ([.int .i64]) && ctsEq g2 ([.int .i64, .int .i64]) then some (q76 a0_0 a0_1 a0_2 a1, AV.tup [AV.int .i64 (v76_0 a0_0 a0_1 a0_2 a1), AV.int .i64 (v76_1 a0_0 a0_1 a0_2 a1)]) else none
  | _ => none
theorem k76 : Known Try.prog 76 := ⟨Try.f76, Try.func76, by kernel_rfl, by kernel_rfl⟩
theorem meets76 : Meets Try.prog 76 m76 := by
  refine meet (f := Try.f76) (l := []) (hs := [(76, 999, [4, 5])]) (ts := [(66, m66), (67, m67), (118, m118)]) (ws := []) (is := []) (ls := []) (lvl := 0) mixed k76 Try.func76 (by kernel_rfl) noLoop (allT_cons meets66 (allT_cons meets67 (allT_cons meets118 allT_nil))) allM_nil noI fun w xs us r hl hv h => ?_
  unfold m76 at h
  split at h
  · rename_i g0 a0_0 g1 a0_1 g2 a0_2 a1
    obtain ⟨hg, h⟩ := bif_pair h
    simp only [Bool.and_eq_true] at hg
    obtain ⟨⟨q0, q1⟩, q2⟩ := hg
    obtain rfl := ctsEq_eq _ _ q0
    obtain rfl := ctsEq_eq _ _ q1
    obtain rfl := ctsEq_eq _ _ q2
    obtain ⟨h1, rfl⟩ := pair_inj h
    exact r76 a0_0 a0_1 a0_2 a1 h1
  · cases h

/-! ### 75 loop.example/g01984/spec.FindPivot -/
def F75_0 (t1 : Int) (h0_0 : List AV) (h0_1 : List AV) (h0_2 : List AV) (t6 : Int) : Out (Int) (Unit ⊕ Int) := (bif decide (t6 < (h0_2.length : Int)) then (bif (decide (0 ≤ t6) && decide (t6 < (h0_2.length : Int))) then (bif decide (fI (h0_2.getD t6.toNat AV.undef) 0 = t1) then (bif (decide (0 ≤ t6) && decide (t6 < (h0_2.length : Int))) then .stop (.inr (fI (h0_2.getD t6.toNat AV.undef) 1))
  else .fail)
  else .next (IntKind.i64.wrap (t6 + 1)))
  else .fail)
  else .stop (.inl ()))
def R75_0 (t1 : Int) (h0_0 : List AV) (h0_1 : List AV) (h0_2 : List AV) : (Int) → Out (Int) (Unit ⊕ Int) := fun s : Int => F75_0 t1 h0_0 h0_1 h0_2 s
def l75_0 : LModel := fun _ _ st k => match st with
  | ⟨[(1, .int .i64 t1), (2, .ptr g0 g1 g2), (6, .int .i64 t6)], [(g3, ⟨true, [], [.agg [.sl g4 h0_0, .sl g5 h0_1, .sl g6 h0_2]]⟩)]⟩ => bif nmEq g0 ([0, 2]) && Nat.beq g1 0 && Nat.beq g2 0 && nmEq g3 ([0, 2]) && ctsEq g4 ([.int .i64]) && ctsEq g5 ([.int .i64]) && ctsEq g6 ([.int .i64, .int .i64]) then ro (runW (R75_0 t1 h0_0 h0_1 h0_2) (((h0_2.length : Int) - t6).toNat + 1) t6) none (sumE (fun _ : Unit => k (.exit 0) ⟨[], [([0, 2], ⟨true, [], [AV.agg [AV.sl [.int .i64] h0_0, AV.sl [.int .i64] h0_1, AV.sl [.int .i64, .int .i64] h0_2]]⟩)]⟩) (fun p : Int => k .ret ⟨[(4, AV.int .i64 p), (5, AV.bool true)], [([0, 2], ⟨true, [], [AV.agg [AV.sl [.int .i64] h0_0, AV.sl [.int .i64] h0_1, AV.sl [.int .i64, .int .i64] h0_2]]⟩)]⟩)) else none
  | _ => none
noncomputable def c75 : Cfg := cfg Try.prog [(75, 0, [1, 2, 6]), (75, 999, [4, 5]), (75, 1000, []), (75, 1001, [1, 2, 6])] [] [] [] [(75, 0, l75_0)]
theorem s75_0 (ce : CallE) (t1 : Int) (t6 : Int) (h0_0 : List AV) (h0_1 : List AV) (h0_2 : List AV) (next : St → Option AV) (k : Kont) : stepA (codeA c75 ce [] 75 0 (sub [1, 0, 1, 0, 0] (body Try.f75))) (normA [] [1, 2, 6]) next ⟨[(1, AV.int .i64 t1), (2, AV.ptr [0, 2] 0 0), (6, AV.int .i64 t6)], [([0, 2], ⟨true, [], [AV.agg [AV.sl [.int .i64] h0_0, AV.sl [.int .i64] h0_1, AV.sl [.int .i64, .int .i64] h0_2]]⟩)]⟩ k = (bif decide (t6 < (h0_2.length : Int)) then (bif (decide (0 ≤ t6) && decide (t6 < (h0_2.length : Int))) then (bif decide (fI (h0_2.getD t6.toNat AV.undef) 0 = t1) then (bif (decide (0 ≤ t6) && decide (t6 < (h0_2.length : Int))) then k .ret ⟨[(4, AV.int .i64 (fI (h0_2.getD t6.toNat AV.undef) 1)), (5, AV.bool true)], [([0, 2], ⟨true, [], [AV.agg [AV.sl [.int .i64] h0_0, AV.sl [.int .i64] h0_1, AV.sl [.int .i64, .int .i64] h0_2]]⟩)]⟩
  else none)
  else next ⟨[(1, AV.int .i64 t1), (2, AV.ptr [0, 2] 0 0), (6, AV.int .i64 (IntKind.i64.wrap (t6 + 1)))], [([0, 2], ⟨true, [], [AV.agg [AV.sl [.int .i64] h0_0, AV.sl [.int .i64] h0_1, AV.sl [.int .i64, .int .i64] h0_2]]⟩)]⟩)
  else none)
  else k (.exit 0) ⟨[], [([0, 2], ⟨true, [], [AV.agg [AV.sl [.int .i64] h0_0, AV.sl [.int .i64] h0_1, AV.sl [.int .i64, .int .i64] h0_2]]⟩)]⟩) := by kernel_rfl
theorem st75_0 (t1 : Int) (h0_0 : List AV) (h0_1 : List AV) (h0_2 : List AV) (ce : CallE) (k : Kont) (s : Int) (next : St → Option AV) : stepA (codeA c75 ce [] 75 0 (sub [1, 0, 1, 0, 0] (body Try.f75))) (normA [] [1, 2, 6]) next ((fun s : Int => ⟨[(1, AV.int .i64 t1), (2, AV.ptr [0, 2] 0 0), (6, AV.int .i64 s)], [([0, 2], ⟨true, [], [AV.agg [AV.sl [.int .i64] h0_0, AV.sl [.int .i64] h0_1, AV.sl [.int .i64, .int .i64] h0_2]]⟩)]⟩) s) k = (R75_0 t1 h0_0 h0_1 h0_2 s).el none (fun s => next ((fun s : Int => ⟨[(1, AV.int .i64 t1), (2, AV.ptr [0, 2] 0 0), (6, AV.int .i64 s)], [([0, 2], ⟨true, [], [AV.agg [AV.sl [.int .i64] h0_0, AV.sl [.int .i64] h0_1, AV.sl [.int .i64, .int .i64] h0_2]]⟩)]⟩) s)) (sumE (fun _ : Unit => k (.exit 0) ⟨[], [([0, 2], ⟨true, [], [AV.agg [AV.sl [.int .i64] h0_0, AV.sl [.int .i64] h0_1, AV.sl [.int .i64, .int .i64] h0_2]]⟩)]⟩) (fun p : Int => k .ret ⟨[(4, AV.int .i64 p), (5, AV.bool true)], [([0, 2], ⟨true, [], [AV.agg [AV.sl [.int .i64] h0_0, AV.sl [.int .i64] h0_1, AV.sl [.int .i64, .int .i64] h0_2]]⟩)]⟩)) := (s75_0 ce t1 s h0_0 h0_1 h0_2 next k).trans (by unfold R75_0; unfold F75_0; simp only [el_cond, el_ro, el_sum, el_fail, el_next, el_stop] <;> rfl)
theorem ok75_0 {ce : CallE} : LoopOK c75 ce [] 75 0 (sub [1, 0, 1, 0, 0] (body Try.f75)) := by
  intro m hm st k r h
  obtain rfl : l75_0 = m := Option.some.inj hm
  unfold l75_0 at h
  split at h
  · rename_i t1 g0 g1 g2 t6 g3 g4 h0_0 g5 h0_1 g6 h0_2
    obtain ⟨hg, h⟩ := bif_some h
    simp only [Bool.and_eq_true] at hg
    obtain ⟨⟨⟨⟨⟨⟨q0, q1⟩, q2⟩, q3⟩, q4⟩, q5⟩, q6⟩ := hg
    obtain rfl := (nmEq_iff _ _).1 q0
    obtain rfl := Nat.eq_of_beq_eq_true q1
    obtain rfl := Nat.eq_of_beq_eq_true q2
    obtain rfl := (nmEq_iff _ _).1 q3
    obtain rfl := ctsEq_eq _ _ q4
    obtain rfl := ctsEq_eq _ _ q5
    obtain rfl := ctsEq_eq _ _ q6
    refine ⟨(((h0_2.length : Int) - t6).toNat + 1), ?_⟩
    rw [← h]
    exact loop_run (fun s : Int => ⟨[(1, AV.int .i64 t1), (2, AV.ptr [0, 2] 0 0), (6, AV.int .i64 s)], [([0, 2], ⟨true, [], [AV.agg [AV.sl [.int .i64] h0_0, AV.sl [.int .i64] h0_1, AV.sl [.int .i64, .int .i64] h0_2]]⟩)]⟩) (sumE (fun _ : Unit => k (.exit 0) ⟨[], [([0, 2], ⟨true, [], [AV.agg [AV.sl [.int .i64] h0_0, AV.sl [.int .i64] h0_1, AV.sl [.int .i64, .int .i64] h0_2]]⟩)]⟩) (fun p : Int => k .ret ⟨[(4, AV.int .i64 p), (5, AV.bool true)], [([0, 2], ⟨true, [], [AV.agg [AV.sl [.int .i64] h0_0, AV.sl [.int .i64] h0_1, AV.sl [.int .i64, .int .i64] h0_2]]⟩)]⟩)) (st75_0 t1 h0_0 h0_1 h0_2 ce k) _ t6
  · cases h
def q75 (a0_0 : List AV) (a0_1 : List AV) (a0_2 : List AV) (a1 : Int) : Bool := (ro (runW (R75_0 a1 a0_0 a0_1 a0_2) (((a0_2.length : Int) - 0).toNat + 1) 0) false (sumE (fun _ => true) (fun p24 => true)))
def v75_0 (a0_0 : List AV) (a0_1 : List AV) (a0_2 : List AV) (a1 : Int) : Int := (ro (runW (R75_0 a1 a0_0 a0_1 a0_2) (((a0_2.length : Int) - 0).toNat + 1) 0) 0 (sumE (fun _ => 0) (fun p24 => p24)))
def v75_1 (a0_0 : List AV) (a0_1 : List AV) (a0_2 : List AV) (a1 : Int) : Bool := (ro (runW (R75_0 a1 a0_0 a0_1 a0_2) (((a0_2.length : Int) - 0).toNat + 1) 0) false (sumE (fun _ => false) (fun p24 => true)))
theorem e75 (a0_0 : List AV) (a0_1 : List AV) (a0_2 : List AV) (a1 : Int) : funA c75 0 75 [AV.agg [AV.sl [.int .i64] a0_0, AV.sl [.int .i64] a0_1, AV.sl [.int .i64, .int .i64] a0_2], AV.int .i64 a1] = (ro (runW (R75_0 a1 a0_0 a0_1 a0_2) (((a0_2.length : Int) - 0).toNat + 1) 0) none (sumE (fun _ => some (AV.tup [AV.int .i64 0, AV.bool false])) (fun p24 => some (AV.tup [AV.int .i64 p24, AV.bool true])))) := by kernel_rfl
theorem r75 (a0_0 : List AV) (a0_1 : List AV) (a0_2 : List AV) (a1 : Int) (h : q75 a0_0 a0_1 a0_2 a1 = true) : funA c75 0 75 [AV.agg [AV.sl [.int .i64] a0_0, AV.sl [.int .i64] a0_1, AV.sl [.int .i64, .int .i64] a0_2], AV.int .i64 a1] = some (AV.tup [AV.int .i64 (v75_0 a0_0 a0_1 a0_2 a1), AV.bool (v75_1 a0_0 a0_1 a0_2 a1)]) := (e75 a0_0 a0_1 a0_2 a1).trans ((brO (fun o : Option (Unit ⊕ Int) => some (AV.tup [AV.int .i64 (ro o 0 (sumE (fun _ => 0) (fun p24 => p24))), AV.bool (ro o false (sumE (fun _ => false) (fun p24 => true)))])) (brS (fun o : Unit ⊕ Int => some (AV.tup [AV.int .i64 ((sumE (fun _ => 0) (fun p24 => p24)) o), AV.bool ((sumE (fun _ => false) (fun p24 => true)) o)])) (fun _ => (fun _ => rfl)) (fun p24 => (fun _ => rfl)))) h)
def m75 : TModel
  | [.agg [.sl g0 a0_0, .sl g1 a0_1, .sl g2 a0_2], .int .i64 a1] => bif ctsEq g0 ([.int .i64]) && ctsEq g1 ([.int .i64]) && ctsEq g2 ([.int .i64, .int .i64]) then some (q75 a0_0 a0_1 a0_2 a1, AV.tup [AV.int .i64 (v75_0 a0_0 a0_1 a0_2 a1), AV.bool (v75_1 a0_0 a0_1 a0_2 a1)]) else none
  | _ => none
theorem k75 : Known Try.prog 75 := ⟨Try.f75, Try.func75, by kernel_rfl, by kernel_rfl⟩
theorem meets75 : Meets Try.prog 75 m75 := by
  refine meet (f := Try.f75) (l := [(0, sub [1, 0, 1, 0, 0] (body Try.f75))]) (hs := [(75, 0, [1, 2, 6]), (75, 999, [4, 5]), (75, 1000, []), (75, 1001, [1, 2, 6])]) (ts := []) (ws := []) (is := []) (ls := [(75, 0, l75_0)]) (lvl := 0) mixed k75 Try.func75 (by kernel_rfl) (loops_cons ok75_0 noLoop) allT_nil allM_nil noI fun w xs us r hl hv h => ?_
  unfold m75 at h
  split at h
  · rename_i g0 a0_0 g1 a0_1 g2 a0_2 a1
    obtain ⟨hg, h⟩ := bif_pair h
    simp only [Bool.and_eq_true] at hg
    obtain ⟨⟨q0, q1⟩, q2⟩ := hg
    obtain rfl := ctsEq_eq _ _ q0
    obtain rfl := ctsEq_eq _ _ q1
    obtain rfl := ctsEq_eq _ _ q2
    obtain ⟨h1, rfl⟩ := pair_inj h
    exact r75 a0_0 a0_1 a0_2 a1 h1
  · cases h

/-! ### 68 loop.example/g01984/spec.l22Worker -/
def F68_0 (t5 : Int) (t7 : Int) (h0_0 : List AV) (h0_1 : List AV) (h0_2 : List AV) (h0_3 : List AV) (h0_4 : Int) (h1_0 : List AV) (h1_1 : Int) (h1_2 : Bool) (h1_3 : Int) (h1_4 : Int) (h1_5 : Int) (h1_6 : Int) (h1_7 : Int) (h1_8 : Int) (t10 : Int) : Out (Int) (Unit ⊕ Unit) := (bif decide (t10 < t7) then (bif decide (t10 < h1_5) then (bif (decide (0 ≤ t10) && decide (t10 < (h0_0.length : Int))) then (bif decide (fI (h0_0.getD t10.toNat AV.undef) 0 ≥ t5) then .stop (.inr ())
  else (bif decide (t10 > h1_6) then (bif (decide (0 ≤ t10) && decide (t10 < (h0_0.length : Int))) then (bif decide (fI (h0_0.getD t10.toNat AV.undef) 0 < t5) then .stop (.inr ())
  else .next (IntKind.i64.wrap (t10 + 1)))
  else .fail)
  else .next (IntKind.i64.wrap (t10 + 1))))
  else .fail)
  else (bif decide (t10 > h1_6) then (bif (decide (0 ≤ t10) && decide (t10 < (h0_0.length : Int))) then (bif decide (fI (h0_0.getD t10.toNat AV.undef) 0 < t5) then .stop (.inr ())
  else .next (IntKind.i64.wrap (t10 + 1)))
  else .fail)
  else .next (IntKind.i64.wrap (t10 + 1))))
  else .stop (.inl ()))
def R68_0 (t5 : Int) (t7 : Int) (h0_0 : List AV) (h0_1 : List AV) (h0_2 : List AV) (h0_3 : List AV) (h0_4 : Int) (h1_0 : List AV) (h1_1 : Int) (h1_2 : Bool) (h1_3 : Int) (h1_4 : Int) (h1_5 : Int) (h1_6 : Int) (h1_7 : Int) (h1_8 : Int) : (Int) → Out (Int) (Unit ⊕ Unit) := fun s : Int => F68_0 t5 t7 h0_0 h0_1 h0_2 h0_3 h0_4 h1_0 h1_1 h1_2 h1_3 h1_4 h1_5 h1_6 h1_7 h1_8 s
def l68_0 : LModel := fun _ _ st k => match st with
  | ⟨[(2, .ptr g0 g1 g2), (3, .ptr g3 g4 g5), (5, .int .i64 t5), (7, .int .i64 t7), (10, .int .i64 t10)], [(g6, ⟨true, [], [.agg [.sl g7 h0_0, .sl g8 h0_1, .sl g9 h0_2, .sl g10 h0_3, .int .i64 h0_4]]⟩), (g11, ⟨true, [], [.agg [.sl g12 h1_0, .int .i64 h1_1, .bool h1_2, .int .i64 h1_3, .int .i64 h1_4, .int .i64 h1_5, .int .i64 h1_6, .int .i64 h1_7, .int .i64 h1_8]]⟩)]⟩ => bif nmEq g0 ([0, 2]) && Nat.beq g1 0 && Nat.beq g2 0 && nmEq g3 ([0, 3]) && Nat.beq g4 0 && Nat.beq g5 0 && nmEq g6 ([0, 2]) && ctsEq g7 ([.int .i64]) && ctsEq g8 ([.int .i64]) && ctsEq g9 ([.int .i64, .int .i64]) && ctsEq g10 ([.sl [.int .i64], .int .i64, .bool, .int .i64, .int .i64, .int .i64, .int .i64, .int .i64, .int .i64]) && nmEq g11 ([0, 3]) && ctsEq g12 ([.int .i64]) then ro (runW (R68_0 t5 t7 h0_0 h0_1 h0_2 h0_3 h0_4 h1_0 h1_1 h1_2 h1_3 h1_4 h1_5 h1_6 h1_7 h1_8) ((t7 - t10).toNat + 1) t10) none (sumE (fun _ : Unit => k (.exit 0) ⟨[], [([0, 2], ⟨true, [], [AV.agg [AV.sl [.int .i64] h0_0, AV.sl [.int .i64] h0_1, AV.sl [.int .i64, .int .i64] h0_2, AV.sl [.sl [.int .i64], .int .i64, .bool, .int .i64, .int .i64, .int .i64, .int .i64, .int .i64, .int .i64] h0_3, AV.int .i64 h0_4]]⟩), ([0, 3], ⟨true, [], [AV.agg [AV.sl [.int .i64] h1_0, AV.int .i64 h1_1, AV.bool h1_2, AV.int .i64 h1_3, AV.int .i64 h1_4, AV.int .i64 h1_5, AV.int .i64 h1_6, AV.int .i64 h1_7, AV.int .i64 h1_8]]⟩)]⟩) (fun _ : Unit => k .ret ⟨[(4, AV.bool false)], [([0, 2], ⟨true, [], [AV.agg [AV.sl [.int .i64] h0_0, AV.sl [.int .i64] h0_1, AV.sl [.int .i64, .int .i64] h0_2, AV.sl [.sl [.int .i64], .int .i64, .bool, .int .i64, .int .i64, .int .i64, .int .i64, .int .i64, .int .i64] h0_3, AV.int .i64 h0_4]]⟩), ([0, 3], ⟨true, [], [AV.agg [AV.sl [.int .i64] h1_0, AV.int .i64 h1_1, AV.bool h1_2, AV.int .i64 h1_3, AV.int .i64 h1_4, AV.int .i64 h1_5, AV.int .i64 h1_6, AV.int .i64 h1_7, AV.int .i64 h1_8]]⟩)]⟩)) else none
  | _ => none
noncomputable def c68 : Cfg := cfg Try.prog [(68, 0, [2, 3, 5, 7, 10]), (68, 999, [4]), (68, 1000, []), (68, 1001, [2, 3, 5, 7, 10])] [(67, m67), (75, m75), (76, m76), (111, m111)] [] [] [(68, 0, l68_0)]
theorem s68_0 (ce : CallE) (t5 : Int) (t7 : Int) (t10 : Int) (h0_0 : List AV) (h0_1 : List AV) (h0_2 : List AV) (h0_3 : List AV) (h0_4 : Int) (h1_0 : List AV) (h1_1 : Int) (h1_2 : Bool) (h1_3 : Int) (h1_4 : Int) (h1_5 : Int) (h1_6 : Int) (h1_7 : Int) (h1_8 : Int) (next : St → Option AV) (k : Kont) : stepA (codeA c68 ce [] 68 0 (sub [1, 1, 1, 1, 1, 1, 1, 1, 0, 1, 0, 0] (body Try.f68))) (normA [] [2, 3, 5, 7, 10]) next ⟨[(2, AV.ptr [0, 2] 0 0), (3, AV.ptr [0, 3] 0 0), (5, AV.int .i64 t5), (7, AV.int .i64 t7), (10, AV.int .i64 t10)], [([0, 2], ⟨true, [], [AV.agg [AV.sl [.int .i64] h0_0, AV.sl [.int .i64] h0_1, AV.sl [.int .i64, .int .i64] h0_2, AV.sl [.sl [.int .i64], .int .i64, .bool, .int .i64, .int .i64, .int .i64, .int .i64, .int .i64, .int .i64] h0_3, AV.int .i64 h0_4]]⟩), ([0, 3], ⟨true, [], [AV.agg [AV.sl [.int .i64] h1_0, AV.int .i64 h1_1, AV.bool h1_2, AV.int .i64 h1_3, AV.int .i64 h1_4, AV.int .i64 h1_5, AV.int .i64 h1_6, AV.int .i64 h1_7, AV.int .i64 h1_8]]⟩)]⟩ k = (bif decide (t10 < t7) then (bif decide (t10 < h1_5) then (bif (decide (0 ≤ t10) && decide (t10 < (h0_0.length : Int))) then (bif decide (fI (h0_0.getD t10.toNat AV.undef) 0 ≥ t5) then k .ret ⟨[(4, AV.bool false)], [([0, 2], ⟨true, [], [AV.agg [AV.sl [.int .i64] h0_0, AV.sl [.int .i64] h0_1, AV.sl [.int .i64, .int .i64] h0_2, AV.sl [.sl [.int .i64], .int .i64, .bool, .int .i64, .int .i64, .int .i64, .int .i64, .int .i64, .int .i64] h0_3, AV.int .i64 h0_4]]⟩), ([0, 3], ⟨true, [], [AV.agg [AV.sl [.int .i64] h1_0, AV.int .i64 h1_1, AV.bool h1_2, AV.int .i64 h1_3, AV.int .i64 h1_4, AV.int .i64 h1_5, AV.int .i64 h1_6, AV.int .i64 h1_7, AV.int .i64 h1_8]]⟩)]⟩
  else (bif decide (t10 > h1_6) then (bif (decide (0 ≤ t10) && decide (t10 < (h0_0.length : Int))) then (bif decide (fI (h0_0.getD t10.toNat AV.undef) 0 < t5) then k .ret ⟨[(4, AV.bool false)], [([0, 2], ⟨true, [], [AV.agg [AV.sl [.int .i64] h0_0, AV.sl [.int .i64] h0_1, AV.sl [.int .i64, .int .i64] h0_2, AV.sl [.sl [.int .i64], .int .i64, .bool, .int .i64, .int .i64, .int .i64, .int .i64, .int .i64, .int .i64] h0_3, AV.int .i64 h0_4]]⟩), ([0, 3], ⟨true, [], [AV.agg [AV.sl [.int .i64] h1_0, AV.int .i64 h1_1, AV.bool h1_2, AV.int .i64 h1_3, AV.int .i64 h1_4, AV.int .i64 h1_5, AV.int .i64 h1_6, AV.int .i64 h1_7, AV.int .i64 h1_8]]⟩)]⟩
  else next ⟨[(2, AV.ptr [0, 2] 0 0), (3, AV.ptr [0, 3] 0 0), (5, AV.int .i64 t5), (7, AV.int .i64 t7), (10, AV.int .i64 (IntKind.i64.wrap (t10 + 1)))], [([0, 2], ⟨true, [], [AV.agg [AV.sl [.int .i64] h0_0, AV.sl [.int .i64] h0_1, AV.sl [.int .i64, .int .i64] h0_2, AV.sl [.sl [.int .i64], .int .i64, .bool, .int .i64, .int .i64, .int .i64, .int .i64, .int .i64, .int .i64] h0_3, AV.int .i64 h0_4]]⟩), ([0, 3], ⟨true, [], [AV.agg [AV.sl [.int .i64] h1_0, AV.int .i64 h1_1, AV.bool h1_2, AV.int .i64 h1_3, AV.int .i64 h1_4, AV.int .i64 h1_5, AV.int .i64 h1_6, AV.int .i64 h1_7, AV.int .i64 h1_8]]⟩)]⟩)
  else none)
  else next ⟨[(2, AV.ptr [0, 2] 0 0), (3, AV.ptr [0, 3] 0 0), (5, AV.int .i64 t5), (7, AV.int .i64 t7), (10, AV.int .i64 (IntKind.i64.wrap (t10 + 1)))], [([0, 2], ⟨true, [], [AV.agg [AV.sl [.int .i64] h0_0, AV.sl [.int .i64] h0_1, AV.sl [.int .i64, .int .i64] h0_2, AV.sl [.sl [.int .i64], .int .i64, .bool, .int .i64, .int .i64, .int .i64, .int .i64, .int .i64, .int .i64] h0_3, AV.int .i64 h0_4]]⟩), ([0, 3], ⟨true, [], [AV.agg [AV.sl [.int .i64] h1_0, AV.int .i64 h1_1, AV.bool h1_2, AV.int .i64 h1_3, AV.int .i64 h1_4, AV.int .i64 h1_5, AV.int .i64 h1_6, AV.int .i64 h1_7, AV.int .i64 h1_8]]⟩)]⟩))
  else none)
  else (bif decide (t10 > h1_6) then (bif (decide (0 ≤ t10) && decide (t10 < (h0_0.length : Int))) then (bif decide (fI (h0_0.getD t10.toNat AV.undef) 0 < t5) then k .ret ⟨[(4, AV.bool false)], [([0, 2], ⟨true, [], [AV.agg [AV.sl [.int .i64] h0_0, AV.sl [.int .i64] h0_1, AV.sl [.int .i64, .int .i64] h0_2, AV.sl [.sl [.int .i64], .int .i64, .bool, .int .i64, .int .i64, .int .i64, .int .i64, .int .i64, .int .i64] h0_3, AV.int .i64 h0_4]]⟩), ([0, 3], ⟨true, [], [AV.agg [AV.sl [.int .i64] h1_0, AV.int .i64 h1_1, AV.bool h1_2, AV.int .i64 h1_3, AV.int .i64 h1_4, AV.int .i64 h1_5, AV.int .i64 h1_6, AV.int .i64 h1_7, AV.int .i64 h1_8]]⟩)]⟩
  else next ⟨[(2, AV.ptr [0, 2] 0 0), (3, AV.ptr [0, 3] 0 0), (5, AV.int .i64 t5), (7, AV.int .i64 t7), (10, AV.int .i64 (IntKind.i64.wrap (t10 + 1)))], [([0, 2], ⟨true, [], [AV.agg [AV.sl [.int .i64] h0_0, AV.sl [.int .i64] h0_1, AV.sl [.int .i64, .int .i64] h0_2, AV.sl [.sl [.int .i64], .int .i64, .bool, .int .i64, .int .i64, .int .i64, .int .i64, .int .i64, .int .i64] h0_3, AV.int .i64 h0_4]]⟩), ([0, 3], ⟨true, [], [AV.agg [AV.sl [.int .i64] h1_0, AV.int .i64 h1_1, AV.bool h1_2, AV.int .i64 h1_3, AV.int .i64 h1_4, AV.int .i64 h1_5, AV.int .i64 h1_6, AV.int .i64 h1_7, AV.int .i64 h1_8]]⟩)]⟩)
  else none)
  else next ⟨[(2, AV.ptr [0, 2] 0 0), (3, AV.ptr [0, 3] 0 0), (5, AV.int .i64 t5), (7, AV.int .i64 t7), (10, AV.int .i64 (IntKind.i64.wrap (t10 + 1)))], [([0, 2], ⟨true, [], [AV.agg [AV.sl [.int .i64] h0_0, AV.sl [.int .i64] h0_1, AV.sl [.int .i64, .int .i64] h0_2, AV.sl [.sl [.int .i64], .int .i64, .bool, .int .i64, .int .i64, .int .i64, .int .i64, .int .i64, .int .i64] h0_3, AV.int .i64 h0_4]]⟩), ([0, 3], ⟨true, [], [AV.agg [AV.sl [.int .i64] h1_0, AV.int .i64 h1_1, AV.bool h1_2, AV.int .i64 h1_3, AV.int .i64 h1_4, AV.int .i64 h1_5, AV.int .i64 h1_6, AV.int .i64 h1_7, AV.int .i64 h1_8]]⟩)]⟩))
  else k (.exit 0) ⟨[], [([0, 2], ⟨true, [], [AV.agg [AV.sl [.int .i64] h0_0, AV.sl [.int .i64] h0_1, AV.sl [.int .i64, .int .i64] h0_2, AV.sl [.sl [.int .i64], .int .i64, .bool, .int .i64, .int .i64, .int .i64, .int .i64, .int .i64, .int .i64] h0_3, AV.int .i64 h0_4]]⟩), ([0, 3], ⟨true, [], [AV.agg [AV.sl [.int .i64] h1_0, AV.int .i64 h1_1, AV.bool h1_2, AV.int .i64 h1_3, AV.int .i64 h1_4, AV.int .i64 h1_5, AV.int .i64 h1_6, AV.int .i64 h1_7, AV.int .i64 h1_8]]⟩)]⟩) := by kernel_rfl
theorem st68_0 (t5 : Int) (t7 : Int) (h0_0 : List AV) (h0_1 : List AV) (h0_2 : List AV) (h0_3 : List AV) (h0_4 : Int) (h1_0 : List AV) (h1_1 : Int) (h1_2 : Bool) (h1_3 : Int) (h1_4 : Int) (h1_5 : Int) (h1_6 : Int) (h1_7 : Int) (h1_8 : Int) (ce : CallE) (k : Kont) (s : Int) (next : St → Option AV) : stepA (codeA c68 ce [] 68 0 (sub [1, 1, 1, 1, 1, 1, 1, 1, 0, 1, 0, 0] (body Try.f68))) (normA [] [2, 3, 5, 7, 10]) next ((fun s : Int => ⟨[(2, AV.ptr [0, 2] 0 0), (3, AV.ptr [0, 3] 0 0), (5, AV.int .i64 t5), (7, AV.int .i64 t7), (10, AV.int .i64 s)], [([0, 2], ⟨true, [], [AV.agg [AV.sl [.int .i64] h0_0, AV.sl [.int .i64] h0_1, AV.sl [.int .i64, .int .i64] h0_2, AV.sl [.sl [.int .i64], .int .i64, .bool, .int .i64, .int .i64, .int .i64, .int .i64, .int .i64, .int .i64] h0_3, AV.int .i64 h0_4]]⟩), ([0, 3], ⟨true, [], [AV.agg [AV.sl [.int .i64] h1_0, AV.int .i64 h1_1, AV.bool h1_2, AV.int .i64 h1_3, AV.int .i64 h1_4, AV.int .i64 h1_5, AV.int .i64 h1_6, AV.int .i64 h1_7, AV.int .i64 h1_8]]⟩)]⟩) s) k = (R68_0 t5 t7 h0_0 h0_1 h0_2 h0_3 h0_4 h1_0 h1_1 h1_2 h1_3 h1_4 h1_5 h1_6 h1_7 h1_8 s).el none (fun s => next ((fun s : Int => ⟨[(2, AV.ptr [0, 2] 0 0), (3, AV.ptr [0, 3] 0 0), (5, AV.int .i64 t5), (7, AV.int .i64 t7), (10, AV.int .i64 s)], [([0, 2], ⟨true, [], [AV.agg [AV.sl [.int .i64] h0_0, AV.sl [.int .i64] h0_1, AV.sl [.int .i64, .int .i64] h0_2, AV.sl [.sl [.int .i64], .int .i64, .bool, .int .i64, .int .i64, .int .i64, .int .i64, .int .i64, .int .i64] h0_3, AV.int .i64 h0_4]]⟩), ([0, 3], ⟨true, [], [AV.agg [AV.sl [.int .i64] h1_0, AV.int .i64 h1_1, AV.bool h1_2, AV.int .i64 h1_3, AV.int .i64 h1_4, AV.int .i64 h1_5, AV.int .i64 h1_6, AV.int .i64 h1_7, AV.int .i64 h1_8]]⟩)]⟩) s)) (sumE (fun _ : Unit => k (.exit 0) ⟨[], [([0, 2], ⟨true, [], [AV.agg [AV.sl [.int .i64] h0_0, AV.sl [.int .i64] h0_1, AV.sl [.int .i64, .int .i64] h0_2, AV.sl [.sl [.int .i64], .int .i64, .bool, .int .i64, .int .i64, .int .i64, .int .i64, .int .i64, .int .i64] h0_3, AV.int .i64 h0_4]]⟩), ([0, 3], ⟨true, [], [AV.agg [AV.sl [.int .i64] h1_0, AV.int .i64 h1_1, AV.bool h1_2, AV.int .i64 h1_3, AV.int .i64 h1_4, AV.int .i64 h1_5, AV.int .i64 h1_6, AV.int .i64 h1_7, AV.int .i64 h1_8]]⟩)]⟩) (fun _ : Unit => k .ret ⟨[(4, AV.bool false)], [([0, 2], ⟨true, [], [AV.agg [AV.sl [.int .i64] h0_0, AV.sl [.int .i64] h0_1, AV.sl [.int .i64, .int .i64] h0_2, AV.sl [.sl [.int .i64], .int .i64, .bool, .int .i64, .int .i64, .int .i64, .int .i64, .int .i64, .int .i64] h0_3, AV.int .i64 h0_4]]⟩), ([0, 3], ⟨true, [], [AV.agg [AV.sl [.int .i64] h1_0, AV.int .i64 h1_1, AV.bool h1_2, AV.int .i64 h1_3, AV.int .i64 h1_4, AV.int .i64 h1_5, AV.int .i64 h1_6, AV.int .i64 h1_7, AV.int .i64 h1_8]]⟩)]⟩)) := (s68_0 ce t5 t7 s h0_0 h0_1 h0_2 h0_3 h0_4 h1_0 h1_1 h1_2 h1_3 h1_4 h1_5 h1_6 h1_7 h1_8 next k).trans (by unfold R68_0; unfold F68_0; simp only [el_cond, el_ro, el_sum, el_fail, el_next, el_stop] <;> rfl)
theorem ok68_0 {ce : CallE} : LoopOK c68 ce [] 68 0 (sub [1, 1, 1, 1, 1, 1, 1, 1, 0, 1, 0, 0] (body Try.f68)) := by
  intro m hm st k r h
  obtain rfl : l68_0 = m := Option.some.inj hm
  unfold l68_0 at h
  split at h
  · rename_i g0 g1 g2 g3 g4 g5 t5 t7 t10 g6 g7 h0_0 g8 h0_1 g9 h0_2 g10 h0_3 h0_4 g11 g12 h1_0 h1_1 h1_2 h1_3 h1_4 h1_5 h1_6 h1_7 h1_8
    obtain ⟨hg, h⟩ := bif_some h
    simp only [Bool.and_eq_true] at hg
    obtain ⟨⟨⟨⟨⟨⟨⟨⟨⟨⟨⟨⟨q0, q1⟩, q2⟩, q3⟩, q4⟩, q5⟩, q6⟩, q7⟩, q8⟩, q9⟩, q10⟩, q11⟩, q12⟩ := hg
    obtain rfl := (nmEq_iff _ _).1 q0
    obtain rfl := Nat.eq_of_beq_eq_true q1
    obtain rfl := Nat.eq_of_beq_eq_true q2
    obtain rfl := (nmEq_iff _ _).1 q3
    obtain rfl := Nat.eq_of_beq_eq_true q4
    obtain rfl := Nat.eq_of_beq_eq_true q5
    obtain rfl := (nmEq_iff _ _).1 q6
    obtain rfl := ctsEq_eq _ _ q7
    obtain rfl := ctsEq_eq _ _ q8
    obtain rfl := ctsEq_eq _ _ q9
    obtain rfl := ctsEq_eq _ _ q10
    obtain rfl := (nmEq_iff _ _).1 q11
    obtain rfl := ctsEq_eq _ _ q12
    refine ⟨((t7 - t10).toNat + 1), ?_⟩
    rw [← h]
    exact loop_run (fun s : Int => ⟨[(2, AV.ptr [0, 2] 0 0), (3, AV.ptr [0, 3] 0 0), (5, AV.int .i64 t5), (7, AV.int .i64 t7), (10, AV.int .i64 s)], [([0, 2], ⟨true, [], [AV.agg [AV.sl [.int .i64] h0_0, AV.sl [.int .i64] h0_1, AV.sl [.int .i64, .int .i64] h0_2, AV.sl [.sl [.int .i64], .int .i64, .bool, .int .i64, .int .i64, .int .i64, .int .i64, .int .i64, .int .i64] h0_3, AV.int .i64 h0_4]]⟩), ([0, 3], ⟨true, [], [AV.agg [AV.sl [.int .i64] h1_0, AV.int .i64 h1_1, AV.bool h1_2, AV.int .i64 h1_3, AV.int .i64 h1_4, AV.int .i64 h1_5, AV.int .i64 h1_6, AV.int .i64 h1_7, AV.int .i64 h1_8]]⟩)]⟩) (sumE (fun _ : Unit => k (.exit 0) ⟨[], [([0, 2], ⟨true, [], [AV.agg [AV.sl [.int .i64] h0_0, AV.sl [.int .i64] h0_1, AV.sl [.int .i64, .int .i64] h0_2, AV.sl [.sl [.int .i64], .int .i64, .bool, .int .i64, .int .i64, .int .i64, .int .i64, .int .i64, .int .i64] h0_3, AV.int .i64 h0_4]]⟩), ([0, 3], ⟨true, [], [AV.agg [AV.sl [.int .i64] h1_0, AV.int .i64 h1_1, AV.bool h1_2, AV.int .i64 h1_3, AV.int .i64 h1_4, AV.int .i64 h1_5, AV.int .i64 h1_6, AV.int .i64 h1_7, AV.int .i64 h1_8]]⟩)]⟩) (fun _ : Unit => k .ret ⟨[(4, AV.bool false)], [([0, 2], ⟨true, [], [AV.agg [AV.sl [.int .i64] h0_0, AV.sl [.int .i64] h0_1, AV.sl [.int .i64, .int .i64] h0_2, AV.sl [.sl [.int .i64], .int .i64, .bool, .int .i64, .int .i64, .int .i64, .int .i64, .int .i64, .int .i64] h0_3, AV.int .i64 h0_4]]⟩), ([0, 3], ⟨true, [], [AV.agg [AV.sl [.int .i64] h1_0, AV.int .i64 h1_1, AV.bool h1_2, AV.int .i64 h1_3, AV.int .i64 h1_4, AV.int .i64 h1_5, AV.int .i64 h1_6, AV.int .i64 h1_7, AV.int .i64 h1_8]]⟩)]⟩)) (st68_0 t5 t7 h0_0 h0_1 h0_2 h0_3 h0_4 h1_0 h1_1 h1_2 h1_3 h1_4 h1_5 h1_6 h1_7 h1_8 ce k) _ t10
  · cases h
def q68 (a0_0 : List AV) (a0_1 : List AV) (a0_2 : List AV) (a0_3 : List AV) (a0_4 : Int) (a1_0 : List AV) (a1_1 : Int) (a1_2 : Bool) (a1_3 : Int) (a1_4 : Int) (a1_5 : Int) (a1_6 : Int) (a1_7 : Int) (a1_8 : Int) : Bool := (q111 a1_0 && (bif !(v111_0 a1_0) then true else (bif decide ((a1_0.length : Int) > 6) then true else (bif !(v67_0 a1_1 0 (a1_0.length : Int)) then true else (bif !(v67_0 a1_7 0 100000) then true else (bif !(v67_0 a1_8 0 100000) then true else (bif !a1_2 then true else (bif decide (a1_1 = (a1_0.length : Int)) then true else ((decide (0 ≤ a1_1) && decide (a1_1 < (a1_0.length : Int))) && (q76 a0_0 a0_1 a0_2 (fI (a1_0.getD a1_1.toNat AV.undef) 0) && (q75 a0_0 a0_1 a0_2 (fI (a1_0.getD a1_1.toNat AV.undef) 0) && (bif (v75_1 a0_0 a0_1 a0_2 (fI (a1_0.getD a1_1.toNat AV.undef) 0)) then true else (bif !decide ((v76_0 a0_0 a0_1 a0_2 (fI (a1_0.getD a1_1.toNat AV.undef) 0)) = a1_3) then true else (bif !decide ((v76_1 a0_0 a0_1 a0_2 (fI (a1_0.getD a1_1.toNat AV.undef) 0)) = a1_4) then true else (bif !(v67_0 a1_5 (v76_0 a0_0 a0_1 a0_2 (fI (a1_0.getD a1_1.toNat AV.undef) 0)) (IntKind.i64.wrap (a1_6 + 1))) then true else (bif decide (a1_6 ≥ (v76_1 a0_0 a0_1 a0_2 (fI (a1_0.getD a1_1.toNat AV.undef) 0))) then true else (ro (runW (R68_0 (fI (a1_0.getD a1_1.toNat AV.undef) 0) (v76_1 a0_0 a0_1 a0_2 (fI (a1_0.getD a1_1.toNat AV.undef) 0)) a0_0 a0_1 a0_2 a0_3 a0_4 a1_0 a1_1 a1_2 a1_3 a1_4 a1_5 a1_6 a1_7 a1_8) (((v76_1 a0_0 a0_1 a0_2 (fI (a1_0.getD a1_1.toNat AV.undef) 0)) - (v76_0 a0_0 a0_1 a0_2 (fI (a1_0.getD a1_1.toNat AV.undef) 0))).toNat + 1) (v76_0 a0_0 a0_1 a0_2 (fI (a1_0.getD a1_1.toNat AV.undef) 0))) false (sumE (fun _ => true) (fun _ => true)))))))))))))))))))
def v68_0 (a0_0 : List AV) (a0_1 : List AV) (a0_2 : List AV) (a0_3 : List AV) (a0_4 : Int) (a1_0 : List AV) (a1_1 : Int) (a1_2 : Bool) (a1_3 : Int) (a1_4 : Int) (a1_5 : Int) (a1_6 : Int) (a1_7 : Int) (a1_8 : Int) : Bool := (bif !(v111_0 a1_0) then false else (bif decide ((a1_0.length : Int) > 6) then false else (bif !(v67_0 a1_1 0 (a1_0.length : Int)) then false else (bif !(v67_0 a1_7 0 100000) then false else (bif !(v67_0 a1_8 0 100000) then false else (bif !a1_2 then (bif decide (a1_3 = 0) then (bif decide (a1_4 = 0) then (bif decide (a1_5 = 0) then decide (a1_6 = 0) else false) else false) else false) else (bif decide (a1_1 = (a1_0.length : Int)) then false else (bif (v75_1 a0_0 a0_1 a0_2 (fI (a1_0.getD a1_1.toNat AV.undef) 0)) then false else (bif !decide ((v76_0 a0_0 a0_1 a0_2 (fI (a1_0.getD a1_1.toNat AV.undef) 0)) = a1_3) then false else (bif !decide ((v76_1 a0_0 a0_1 a0_2 (fI (a1_0.getD a1_1.toNat AV.undef) 0)) = a1_4) then false else (bif !(v67_0 a1_5 (v76_0 a0_0 a0_1 a0_2 (fI (a1_0.getD a1_1.toNat AV.undef) 0)) (IntKind.i64.wrap (a1_6 + 1))) then false else (bif decide (a1_6 ≥ (v76_1 a0_0 a0_1 a0_2 (fI (a1_0.getD a1_1.toNat AV.undef) 0))) then false else (ro (runW (R68_0 (fI (a1_0.getD a1_1.toNat AV.undef) 0) (v76_1 a0_0 a0_1 a0_2 (fI (a1_0.getD a1_1.toNat AV.undef) 0)) a0_0 a0_1 a0_2 a0_3 a0_4 a1_0 a1_1 a1_2 a1_3 a1_4 a1_5 a1_6 a1_7 a1_8) (((v76_1 a0_0 a0_1 a0_2 (fI (a1_0.getD a1_1.toNat AV.undef) 0)) - (v76_0 a0_0 a0_1 a0_2 (fI (a1_0.getD a1_1.toNat AV.undef) 0))).toNat + 1) (v76_0 a0_0 a0_1 a0_2 (fI (a1_0.getD a1_1.toNat AV.undef) 0))) false (sumE (fun _ => true) (fun _ => false)))))))))))))))
theorem e68 (a0_0 : List AV) (a0_1 : List AV) (a0_2 : List AV) (a0_3 : List AV) (a0_4 : Int) (a1_0 : List AV) (a1_1 : Int) (a1_2 : Bool) (a1_3 : Int) (a1_4 : Int) (a1_5 : Int) (a1_6 : Int) (a1_7 : Int) (a1_8 : Int) : funA c68 0 68 [AV.agg [AV.sl [.int .i64] a0_0, AV.sl [.int .i64] a0_1, AV.sl [.int .i64, .int .i64] a0_2, AV.sl [.sl [.int .i64], .int .i64, .bool, .int .i64, .int .i64, .int .i64, .int .i64, .int .i64, .int .i64] a0_3, AV.int .i64 a0_4], AV.agg [AV.sl [.int .i64] a1_0, AV.int .i64 a1_1, AV.bool a1_2, AV.int .i64 a1_3, AV.int .i64 a1_4, AV.int .i64 a1_5, AV.int .i64 a1_6, AV.int .i64 a1_7, AV.int .i64 a1_8]] = (bif q111 a1_0 then (bif !(v111_0 a1_0) then some (AV.bool false)
  else (bif decide ((a1_0.length : Int) > 6) then some (AV.bool false)
  else (bif !(v67_0 a1_1 0 (a1_0.length : Int)) then some (AV.bool false)
  else (bif !(v67_0 a1_7 0 100000) then some (AV.bool false)
  else (bif !(v67_0 a1_8 0 100000) then some (AV.bool false)
  else (bif !a1_2 then (bif decide (a1_3 = 0) then (bif decide (a1_4 = 0) then (bif decide (a1_5 = 0) then some (AV.bool (decide (a1_6 = 0)))
  else some (AV.bool false))
  else some (AV.bool false))
  else some (AV.bool false))
  else (bif decide (a1_1 = (a1_0.length : Int)) then some (AV.bool false)
  else (bif (decide (0 ≤ a1_1) && decide (a1_1 < (a1_0.length : Int))) then (bif q76 a0_0 a0_1 a0_2 (fI (a1_0.getD a1_1.toNat AV.undef) 0) then (bif q75 a0_0 a0_1 a0_2 (fI (a1_0.getD a1_1.toNat AV.undef) 0) then (bif (v75_1 a0_0 a0_1 a0_2 (fI (a1_0.getD a1_1.toNat AV.undef) 0)) then some (AV.bool false)
  else (bif !decide ((v76_0 a0_0 a0_1 a0_2 (fI (a1_0.getD a1_1.toNat AV.undef) 0)) = a1_3) then some (AV.bool false)
  else (bif !decide ((v76_1 a0_0 a0_1 a0_2 (fI (a1_0.getD a1_1.toNat AV.undef) 0)) = a1_4) then some (AV.bool false)
  else (bif !(v67_0 a1_5 (v76_0 a0_0 a0_1 a0_2 (fI (a1_0.getD a1_1.toNat AV.undef) 0)) (IntKind.i64.wrap (a1_6 + 1))) then some (AV.bool false)
  else (bif decide (a1_6 ≥ (v76_1 a0_0 a0_1 a0_2 (fI (a1_0.getD a1_1.toNat AV.undef) 0))) then some (AV.bool false)
  else (ro (runW (R68_0 (fI (a1_0.getD a1_1.toNat AV.undef) 0) (v76_1 a0_0 a0_1 a0_2 (fI (a1_0.getD a1_1.toNat AV.undef) 0)) a0_0 a0_1 a0_2 a0_3 a0_4 a1_0 a1_1 a1_2 a1_3 a1_4 a1_5 a1_6 a1_7 a1_8) (((v76_1 a0_0 a0_1 a0_2 (fI (a1_0.getD a1_1.toNat AV.undef) 0)) - (v76_0 a0_0 a0_1 a0_2 (fI (a1_0.getD a1_1.toNat AV.undef) 0))).toNat + 1) (v76_0 a0_0 a0_1 a0_2 (fI (a1_0.getD a1_1.toNat AV.undef) 0))) none (sumE (fun _ => some (AV.bool true)) (fun _ => some (AV.bool false)))))))))
  else none)
  else none)
  else none))))))))
  else none) := by kernel_rfl
theorem r68 (a0_0 : List AV) (a0_1 : List AV) (a0_2 : List AV) (a0_3 : List AV) (a0_4 : Int) (a1_0 : List AV) (a1_1 : Int) (a1_2 : Bool) (a1_3 : Int) (a1_4 : Int) (a1_5 : Int) (a1_6 : Int) (a1_7 : Int) (a1_8 : Int) (h : q68 a0_0 a0_1 a0_2 a0_3 a0_4 a1_0 a1_1 a1_2 a1_3 a1_4 a1_5 a1_6 a1_7 a1_8 = true) : funA c68 0 68 [AV.agg [AV.sl [.int .i64] a0_0, AV.sl [.int .i64] a0_1, AV.sl [.int .i64, .int .i64] a0_2, AV.sl [.sl [.int .i64], .int .i64, .bool, .int .i64, .int .i64, .int .i64, .int .i64, .int .i64, .int .i64] a0_3, AV.int .i64 a0_4], AV.agg [AV.sl [.int .i64] a1_0, AV.int .i64 a1_1, AV.bool a1_2, AV.int .i64 a1_3, AV.int .i64 a1_4, AV.int .i64 a1_5, AV.int .i64 a1_6, AV.int .i64 a1_7, AV.int .i64 a1_8]] = some (AV.bool (v68_0 a0_0 a0_1 a0_2 a0_3 a0_4 a1_0 a1_1 a1_2 a1_3 a1_4 a1_5 a1_6 a1_7 a1_8)) := (e68 a0_0 a0_1 a0_2 a0_3 a0_4 a1_0 a1_1 a1_2 a1_3 a1_4 a1_5 a1_6 a1_7 a1_8).trans ((brL (br (fun b => some (AV.bool (bif b then false else (bif decide ((a1_0.length : Int) > 6) then false else (bif !(v67_0 a1_1 0 (a1_0.length : Int)) then false else (bif !(v67_0 a1_7 0 100000) then false else (bif !(v67_0 a1_8 0 100000) then false else (bif !a1_2 then (bif decide (a1_3 = 0) then (bif decide (a1_4 = 0) then (bif decide (a1_5 = 0) then decide (a1_6 = 0) else false) else false) else false) else (bif decide (a1_1 = (a1_0.length : Int)) then false else (bif (v75_1 a0_0 a0_1 a0_2 (fI (a1_0.getD a1_1.toNat AV.undef) 0)) then false else (bif !decide ((v76_0 a0_0 a0_1 a0_2 (fI (a1_0.getD a1_1.toNat AV.undef) 0)) = a1_3) then false else (bif !decide ((v76_1 a0_0 a0_1 a0_2 (fI (a1_0.getD a1_1.toNat AV.undef) 0)) = a1_4) then false else (bif !(v67_0 a1_5 (v76_0 a0_0 a0_1 a0_2 (fI (a1_0.getD a1_1.toNat AV.undef) 0)) (IntKind.i64.wrap (a1_6 + 1))) then false else (bif decide (a1_6 ≥ (v76_1 a0_0 a0_1 a0_2 (fI (a1_0.getD a1_1.toNat AV.undef) 0))) then false else (ro (runW (R68_0 (fI (a1_0.getD a1_1.toNat AV.undef) 0) (v76_1 a0_0 a0_1 a0_2 (fI (a1_0.getD a1_1.toNat AV.undef) 0)) a0_0 a0_1 a0_2 a0_3 a0_4 a1_0 a1_1 a1_2 a1_3 a1_4 a1_5 a1_6 a1_7 a1_8) (((v76_1 a0_0 a0_1 a0_2 (fI (a1_0.getD a1_1.toNat AV.undef) 0)) - (v76_0 a0_0 a0_1 a0_2 (fI (a1_0.getD a1_1.toNat AV.undef) 0))).toNat + 1) (v76_0 a0_0 a0_1 a0_2 (fI (a1_0.getD a1_1.toNat AV.undef) 0))) false (sumE (fun _ => true) (fun _ => false))))))))))))))))) (fun _ => rfl) (br (fun b => some (AV.bool (bif b then false else (bif !(v67_0 a1_1 0 (a1_0.length : Int)) then false else (bif !(v67_0 a1_7 0 100000) then false else (bif !(v67_0 a1_8 0 100000) then false else (bif !a1_2 then (bif decide (a1_3 = 0) then (bif decide (a1_4 = 0) then (bif decide (a1_5 = 0) then decide (a1_6 = 0) else false) else false) else false) else (bif decide (a1_1 = (a1_0.length : Int)) then false else (bif (v75_1 a0_0 a0_1 a0_2 (fI (a1_0.getD a1_1.toNat AV.undef) 0)) then false else (bif !decide ((v76_0 a0_0 a0_1 a0_2 (fI (a1_0.getD a1_1.toNat AV.undef) 0)) = a1_3) then false else (bif !decide ((v76_1 a0_0 a0_1 a0_2 (fI (a1_0.getD a1_1.toNat AV.undef) 0)) = a1_4) then false else (bif !(v67_0 a1_5 (v76_0 a0_0 a0_1 a0_2 (fI (a1_0.getD a1_1.toNat AV.undef) 0)) (IntKind.i64.wrap (a1_6 + 1))) then false else (bif decide (a1_6 ≥ (v76_1 a0_0 a0_1 a0_2 (fI (a1_0.getD a1_1.toNat AV.undef) 0))) then false else (ro (runW (R68_0 (fI (a1_0.getD a1_1.toNat AV.undef) 0) (v76_1 a0_0 a0_1 a0_2 (fI (a1_0.getD a1_1.toNat AV.undef) 0)) a0_0 a0_1 a0_2 a0_3 a0_4 a1_0 a1_1 a1_2 a1_3 a1_4 a1_5 a1_6 a1_7 a1_8) (((v76_1 a0_0 a0_1 a0_2 (fI (a1_0.getD a1_1.toNat AV.undef) 0)) - (v76_0 a0_0 a0_1 a0_2 (fI (a1_0.getD a1_1.toNat AV.undef) 0))).toNat + 1) (v76_0 a0_0 a0_1 a0_2 (fI (a1_0.getD a1_1.toNat AV.undef) 0))) false (sumE (fun _ => true) (fun _ => false)))))))))))))))) (fun _ => rfl) (br (fun b => some (AV.bool (bif b then false else (bif !(v67_0 a1_7 0 100000) then false else (bif !(v67_0 a1_8 0 100000) then false else (bif !a1_2 then (bif decide (a1_3 = 0) then (bif decide (a1_4 = 0) then (bif decide (a1_5 = 0) then decide (a1_6 = 0) else false) else false) else false) else (bif decide (a1_1 = (a1_0.length : Int)) then false else (bif (v75_1 a0_0 a0_1 a0_2 (fI (a1_0.getD a1_1.toNat AV.undef) 0)) then false else (bif !decide ((v76_0 a0_0 a0_1 a0_2 (fI (a1_0.getD a1_1.toNat AV.undef) 0)) = a1_3) then false else (bif !decide ((v76_1 a0_0 a0_1 a0_2 (fI (a1_0.getD a1_1.toNat AV.undef) 0)) = a1_4) then false else (bif !(v67_0 a1_5 (v76_0 a0_0 a0_1 a0_2 (fI (a1_0.getD a1_1.toNat AV.undef) 0)) (IntKind.i64.wrap (a1_6 + 1))) then false else (bif decide (a1_6 ≥ (v76_1 a0_0 a0_1 a0_2 (fI (a1_0.getD a1_1.toNat AV.undef) 0))) then false else (ro (runW (R68_0 (fI (a1_0.getD a1_1.toNat AV.undef) 0) (v76_1 a0_0 a0_1 a0_2 (fI (a1_0.getD a1_1.toNat AV.undef) 0)) a0_0 a0_1 a0_2 a0_3 a0_4 a1_0 a1_1 a1_2 a1_3 a1_4 a1_5 a1_6 a1_7 a1_8) (((v76_1 a0_0 a0_1 a0_2 (fI (a1_0.getD a1_1.toNat AV.undef) 0)) - (v76_0 a0_0 a0_1 a0_2 (fI (a1_0.getD a1_1.toNat AV.undef) 0))).toNat + 1) (v76_0 a0_0 a0_1 a0_2 (fI (a1_0.getD a1_1.toNat AV.undef) 0))) false (sumE (fun _ => true) (fun _ => false))))))))))))))) (fun _ => rfl) (br (fun b => some (AV.bool (bif b then false else (bif !(v67_0 a1_8 0 100000) then false else (bif !a1_2 then (bif decide (a1_3 = 0) then (bif decide (a1_4 = 0) then (bif decide (a1_5 = 0) then decide (a1_6 = 0) else false) else false) else false) else (bif decide (a1_1 = (a1_0.length : Int)) then false else (bif (v75_1 a0_0 a0_1 a0_2 (fI (a1_0.getD a1_1.toNat AV.undef) 0)) then false else (bif !decide ((v76_0 a0_0 a0_1 a0_2 (fI (a1_0.getD a1_1.toNat AV.undef) 0)) = a1_3) then false else (bif !decide ((v76_1 a0_0 a0_1 a0_2 (fI (a1_0.getD a1_1.toNat AV.undef) 0)) = a1_4) then false else (bif !(v67_0 a1_5 (v76_0 a0_0 a0_1 a0_2 (fI (a1_0.getD a1_1.toNat AV.undef) 0)) (IntKind.i64.wrap (a1_6 + 1))) then false else (bif decide (a1_6 ≥ (v76_1 a0_0 a0_1 a0_2 (fI (a1_0.getD a1_1.toNat AV.undef) 0))) then false else (ro (runW (R68_0 (fI (a1_0.getD a1_1.toNat AV.undef) 0) (v76_1 a0_0 a0_1 a0_2 (fI (a1_0.getD a1_1.toNat AV.undef) 0)) a0_0 a0_1 a0_2 a0_3 a0_4 a1_0 a1_1 a1_2 a1_3 a1_4 a1_5 a1_6 a1_7 a1_8) (((v76_1 a0_0 a0_1 a0_2 (fI (a1_0.getD a1_1.toNat AV.undef) 0)) - (v76_0 a0_0 a0_1 a0_2 (fI (a1_0.getD a1_1.toNat AV.undef) 0))).toNat + 1) (v76_0 a0_0 a0_1 a0_2 (fI (a1_0.getD a1_1.toNat AV.undef) 0))) false (sumE (fun _ => true) (fun _ => false)))))))))))))) (fun _ => rfl) (br (fun b => some (AV.bool (bif b then false else (bif !a1_2 then (bif decide (a1_3 = 0) then (bif decide (a1_4 = 0) then (bif decide (a1_5 = 0) then decide (a1_6 = 0) else false) else false) else false) else (bif decide (a1_1 = (a1_0.length : Int)) then false else (bif (v75_1 a0_0 a0_1 a0_2 (fI (a1_0.getD a1_1.toNat AV.undef) 0)) then false else (bif !decide ((v76_0 a0_0 a0_1 a0_2 (fI (a1_0.getD a1_1.toNat AV.undef) 0)) = a1_3) then false else (bif !decide ((v76_1 a0_0 a0_1 a0_2 (fI (a1_0.getD a1_1.toNat AV.undef) 0)) = a1_4) then false else (bif !(v67_0 a1_5 (v76_0 a0_0 a0_1 a0_2 (fI (a1_0.getD a1_1.toNat AV.undef) 0)) (IntKind.i64.wrap (a1_6 + 1))) then false else (bif decide (a1_6 ≥ (v76_1 a0_0 a0_1 a0_2 (fI (a1_0.getD a1_1.toNat AV.undef) 0))) then false else (ro (runW (R68_0 (fI (a1_0.getD a1_1.toNat AV.undef) 0) (v76_1 a0_0 a0_1 a0_2 (fI (a1_0.getD a1_1.toNat AV.undef) 0)) a0_0 a0_1 a0_2 a0_3 a0_4 a1_0 a1_1 a1_2 a1_3 a1_4 a1_5 a1_6 a1_7 a1_8) (((v76_1 a0_0 a0_1 a0_2 (fI (a1_0.getD a1_1.toNat AV.undef) 0)) - (v76_0 a0_0 a0_1 a0_2 (fI (a1_0.getD a1_1.toNat AV.undef) 0))).toNat + 1) (v76_0 a0_0 a0_1 a0_2 (fI (a1_0.getD a1_1.toNat AV.undef) 0))) false (sumE (fun _ => true) (fun _ => false))))))))))))) (fun _ => rfl) (br (fun b => some (AV.bool (bif b then (bif decide (a1_3 = 0) then (bif decide (a1_4 = 0) then (bif decide (a1_5 = 0) then decide (a1_6 = 0) else false) else false) else false) else (bif decide (a1_1 = (a1_0.length : Int)) then false else (bif (v75_1 a0_0 a0_1 a0_2 (fI (a1_0.getD a1_1.toNat AV.undef) 0)) then false else (bif !decide ((v76_0 a0_0 a0_1 a0_2 (fI (a1_0.getD a1_1.toNat AV.undef) 0)) = a1_3) then false else (bif !decide ((v76_1 a0_0 a0_1 a0_2 (fI (a1_0.getD a1_1.toNat AV.undef) 0)) = a1_4) then false else (bif !(v67_0 a1_5 (v76_0 a0_0 a0_1 a0_2 (fI (a1_0.getD a1_1.toNat AV.undef) 0)) (IntKind.i64.wrap (a1_6 + 1))) then false else (bif decide (a1_6 ≥ (v76_1 a0_0 a0_1 a0_2 (fI (a1_0.getD a1_1.toNat AV.undef) 0))) then false else (ro (runW (R68_0 (fI (a1_0.getD a1_1.toNat AV.undef) 0) (v76_1 a0_0 a0_1 a0_2 (fI (a1_0.getD a1_1.toNat AV.undef) 0)) a0_0 a0_1 a0_2 a0_3 a0_4 a1_0 a1_1 a1_2 a1_3 a1_4 a1_5 a1_6 a1_7 a1_8) (((v76_1 a0_0 a0_1 a0_2 (fI (a1_0.getD a1_1.toNat AV.undef) 0)) - (v76_0 a0_0 a0_1 a0_2 (fI (a1_0.getD a1_1.toNat AV.undef) 0))).toNat + 1) (v76_0 a0_0 a0_1 a0_2 (fI (a1_0.getD a1_1.toNat AV.undef) 0))) false (sumE (fun _ => true) (fun _ => false)))))))))))) (brT (fun b => some (AV.bool (bif b then (bif decide (a1_4 = 0) then (bif decide (a1_5 = 0) then decide (a1_6 = 0) else false) else false) else false))) (brT (fun b => some (AV.bool (bif b then (bif decide (a1_5 = 0) then decide (a1_6 = 0) else false) else false))) (brT (fun b => some (AV.bool (bif b then decide (a1_6 = 0) else false))) (fun _ => rfl) (fun _ => rfl)) (fun _ => rfl)) (fun _ => rfl)) (br (fun b => some (AV.bool (bif b then false else (bif (v75_1 a0_0 a0_1 a0_2 (fI (a1_0.getD a1_1.toNat AV.undef) 0)) then false else (bif !decide ((v76_0 a0_0 a0_1 a0_2 (fI (a1_0.getD a1_1.toNat AV.undef) 0)) = a1_3) then false else (bif !decide ((v76_1 a0_0 a0_1 a0_2 (fI (a1_0.getD a1_1.toNat AV.undef) 0)) = a1_4) then false else (bif !(v67_0 a1_5 (v76_0 a0_0 a0_1 a0_2 (fI (a1_0.getD a1_1.toNat AV.undef) 0)) (IntKind.i64.wrap (a1_6 + 1))) then false else (bif decide (a1_6 ≥ (v76_1 a0_0 a0_1 a0_2 (fI (a1_0.getD a1_1.toNat AV.undef) 0))) then false else (ro (runW (R68_0 (fI (a1_0.getD a1_1.toNat AV.undef) 0) (v76_1 a0_0 a0_1 a0_2 (fI (a1_0.getD a1_1.toNat AV.undef) 0)) a0_0 a0_1 a0_2 a0_3 a0_4 a1_0 a1_1 a1_2 a1_3 a1_4 a1_5 a1_6 a1_7 a1_8) (((v76_1 a0_0 a0_1 a0_2 (fI (a1_0.getD a1_1.toNat AV.undef) 0)) - (v76_0 a0_0 a0_1 a0_2 (fI (a1_0.getD a1_1.toNat AV.undef) 0))).toNat + 1) (v76_0 a0_0 a0_1 a0_2 (fI (a1_0.getD a1_1.toNat AV.undef) 0))) false (sumE (fun _ => true) (fun _ => false))))))))))) (fun _ => rfl) (brL (brL (brL (br (fun b => some (AV.bool (bif b then false else (bif !decide ((v76_0 a0_0 a0_1 a0_2 (fI (a1_0.getD a1_1.toNat AV.undef) 0)) = a1_3) then false else (bif !decide ((v76_1 a0_0 a0_1 a0_2 (fI (a1_0.getD a1_1.toNat AV.undef) 0)) = a1_4) then false else (bif !(v67_0 a1_5 (v76_0 a0_0 a0_1 a0_2 (fI (a1_0.getD a1_1.toNat AV.undef) 0)) (IntKind.i64.wrap (a1_6 + 1))) then false else (bif decide (a1_6 ≥ (v76_1 a0_0 a0_1 a0_2 (fI (a1_0.getD a1_1.toNat AV.undef) 0))) then false else (ro (runW (R68_0 (fI (a1_0.getD a1_1.toNat AV.undef) 0) (v76_1 a0_0 a0_1 a0_2 (fI (a1_0.getD a1_1.toNat AV.undef) 0)) a0_0 a0_1 a0_2 a0_3 a0_4 a1_0 a1_1 a1_2 a1_3 a1_4 a1_5 a1_6 a1_7 a1_8) (((v76_1 a0_0 a0_1 a0_2 (fI (a1_0.getD a1_1.toNat AV.undef) 0)) - (v76_0 a0_0 a0_1 a0_2 (fI (a1_0.getD a1_1.toNat AV.undef) 0))).toNat + 1) (v76_0 a0_0 a0_1 a0_2 (fI (a1_0.getD a1_1.toNat AV.undef) 0))) false (sumE (fun _ => true) (fun _ => false)))))))))) (fun _ => rfl) (br (fun b => some (AV.bool (bif b then false else (bif !decide ((v76_1 a0_0 a0_1 a0_2 (fI (a1_0.getD a1_1.toNat AV.undef) 0)) = a1_4) then false else (bif !(v67_0 a1_5 (v76_0 a0_0 a0_1 a0_2 (fI (a1_0.getD a1_1.toNat AV.undef) 0)) (IntKind.i64.wrap (a1_6 + 1))) then false else (bif decide (a1_6 ≥ (v76_1 a0_0 a0_1 a0_2 (fI (a1_0.getD a1_1.toNat AV.undef) 0))) then false else (ro (runW (R68_0 (fI (a1_0.getD a1_1.toNat AV.undef) 0) (v76_1 a0_0 a0_1 a0_2 (fI (a1_0.getD a1_1.toNat AV.undef) 0)) a0_0 a0_1 a0_2 a0_3 a0_4 a1_0 a1_1 a1_2 a1_3 a1_4 a1_5 a1_6 a1_7 a1_8) (((v76_1 a0_0 a0_1 a0_2 (fI (a1_0.getD a1_1.toNat AV.undef) 0)) - (v76_0 a0_0 a0_1 a0_2 (fI (a1_0.getD a1_1.toNat AV.undef) 0))).toNat + 1) (v76_0 a0_0 a0_1 a0_2 (fI (a1_0.getD a1_1.toNat AV.undef) 0))) false (sumE (fun _ => true) (fun _ => false))))))))) (fun _ => rfl) (br (fun b => some (AV.bool (bif b then false else (bif !(v67_0 a1_5 (v76_0 a0_0 a0_1 a0_2 (fI (a1_0.getD a1_1.toNat AV.undef) 0)) (IntKind.i64.wrap (a1_6 + 1))) then false else (bif decide (a1_6 ≥ (v76_1 a0_0 a0_1 a0_2 (fI (a1_0.getD a1_1.toNat AV.undef) 0))) then false else (ro (runW (R68_0 (fI (a1_0.getD a1_1.toNat AV.undef) 0) (v76_1 a0_0 a0_1 a0_2 (fI (a1_0.getD a1_1.toNat AV.undef) 0)) a0_0 a0_1 a0_2 a0_3 a0_4 a1_0 a1_1 a1_2 a1_3 a1_4 a1_5 a1_6 a1_7 a1_8) (((v76_1 a0_0 a0_1 a0_2 (fI (a1_0.getD a1_1.toNat AV.undef) 0)) - (v76_0 a0_0 a0_1 a0_2 (fI (a1_0.getD a1_1.toNat AV.undef) 0))).toNat + 1) (v76_0 a0_0 a0_1 a0_2 (fI (a1_0.getD a1_1.toNat AV.undef) 0))) false (sumE (fun _ => true) (fun _ => false)))))))) (fun _ => rfl) (br (fun b => some (AV.bool (bif b then false else (bif decide (a1_6 ≥ (v76_1 a0_0 a0_1 a0_2 (fI (a1_0.getD a1_1.toNat AV.undef) 0))) then false else (ro (runW (R68_0 (fI (a1_0.getD a1_1.toNat AV.undef) 0) (v76_1 a0_0 a0_1 a0_2 (fI (a1_0.getD a1_1.toNat AV.undef) 0)) a0_0 a0_1 a0_2 a0_3 a0_4 a1_0 a1_1 a1_2 a1_3 a1_4 a1_5 a1_6 a1_7 a1_8) (((v76_1 a0_0 a0_1 a0_2 (fI (a1_0.getD a1_1.toNat AV.undef) 0)) - (v76_0 a0_0 a0_1 a0_2 (fI (a1_0.getD a1_1.toNat AV.undef) 0))).toNat + 1) (v76_0 a0_0 a0_1 a0_2 (fI (a1_0.getD a1_1.toNat AV.undef) 0))) false (sumE (fun _ => true) (fun _ => false))))))) (fun _ => rfl) (br (fun b => some (AV.bool (bif b then false else (ro (runW (R68_0 (fI (a1_0.getD a1_1.toNat AV.undef) 0) (v76_1 a0_0 a0_1 a0_2 (fI (a1_0.getD a1_1.toNat AV.undef) 0)) a0_0 a0_1 a0_2 a0_3 a0_4 a1_0 a1_1 a1_2 a1_3 a1_4 a1_5 a1_6 a1_7 a1_8) (((v76_1 a0_0 a0_1 a0_2 (fI (a1_0.getD a1_1.toNat AV.undef) 0)) - (v76_0 a0_0 a0_1 a0_2 (fI (a1_0.getD a1_1.toNat AV.undef) 0))).toNat + 1) (v76_0 a0_0 a0_1 a0_2 (fI (a1_0.getD a1_1.toNat AV.undef) 0))) false (sumE (fun _ => true) (fun _ => false)))))) (fun _ => rfl) (brO (fun o : Option (Unit ⊕ Unit) => some (AV.bool (ro o false (sumE (fun _ => true) (fun _ => false))))) (brS (fun o : Unit ⊕ Unit => some (AV.bool ((sumE (fun _ => true) (fun _ => false)) o))) (fun _ => (fun _ => rfl)) (fun _ => (fun _ => rfl)))))))))))))))))))) h)
def m68 : TModel
  | [.agg [.sl g0 a0_0, .sl g1 a0_1, .sl g2 a0_2, .sl g3 a0_3, .int .i64 a0_4], .agg [.sl g4 a1_0, .int .i64 a1_1, .bool a1_2, .int .i64 a1_3, .int .i64 a1_4, .int .i64 a1_5, .int .i64 a1_6, .int .i64 a1_7, .int .i64 a1_8]] => bif ctsEq g0 ([.int .i64]) && ctsEq g1 ([.int .i64]) && ctsEq g2 ([.int .i64, .int .i64]) && ctsEq g3 ([.sl [.int .i64], .int .i64, .bool, .int .i64, .int .i64, .int .i64, .int .i64, .int .i64, .int .i64]) && ctsEq g4 ([.int .i64]) then some (q68 a0_0 a0_1 a0_2 a0_3 a0_4 a1_0 a1_1 a1_2 a1_3 a1_4 a1_5 a1_6 a1_7 a1_8, AV.bool (v68_0 a0_0 a0_1 a0_2 a0_3 a0_4 a1_0 a1_1 a1_2 a1_3 a1_4 a1_5 a1_6 a1_7 a1_8)) else none
  | _ => none
theorem k68 : Known Try.prog 68 := ⟨Try.f68, Try.func68, by kernel_rfl, by kernel_rfl⟩
theorem meets68 : Meets Try.prog 68 m68 := by
  refine meet (f := Try.f68) (l := [(0, sub [1, 1, 1, 1, 1, 1, 1, 1, 0, 1, 0, 0] (body Try.f68))]) (hs := [(68, 0, [2, 3, 5, 7, 10]), (68, 999, [4]), (68, 1000, []), (68, 1001, [2, 3, 5, 7, 10])]) (ts := [(67, m67), (75, m75), (76, m76), (111, m111)]) (ws := []) (is := []) (ls := [(68, 0, l68_0)]) (lvl := 0) mixed k68 Try.func68 (by kernel_rfl) (loops_cons ok68_0 noLoop) (allT_cons meets67 (allT_cons meets75 (allT_cons meets76 (allT_cons meets111 allT_nil)))) allM_nil noI fun w xs us r hl hv h => ?_
  unfold m68 at h
  split at h
  · rename_i g0 a0_0 g1 a0_1 g2 a0_2 g3 a0_3 a0_4 g4 a1_0 a1_1 a1_2 a1_3 a1_4 a1_5 a1_6 a1_7 a1_8
    obtain ⟨hg, h⟩ := bif_pair h
    simp only [Bool.and_eq_true] at hg
    obtain ⟨⟨⟨⟨q0, q1⟩, q2⟩, q3⟩, q4⟩ := hg
    obtain rfl := ctsEq_eq _ _ q0
    obtain rfl := ctsEq_eq _ _ q1
    obtain rfl := ctsEq_eq _ _ q2
    obtain rfl := ctsEq_eq _ _ q3
    obtain rfl := ctsEq_eq _ _ q4
    obtain ⟨h1, rfl⟩ := pair_inj h
    exact r68 a0_0 a0_1 a0_2 a0_3 a0_4 a1_0 a1_1 a1_2 a1_3 a1_4 a1_5 a1_6 a1_7 a1_8 h1
  · cases h

/-! ### 69 loop.example/g01984/spec.l22Overlap -/
noncomputable def c69 : Cfg := cfg Try.prog [(69, 999, [6])] [] [] [] []
def q69 (a0_0 : List AV) (a0_1 : Int) (a0_2 : Bool) (a0_3 : Int) (a0_4 : Int) (a0_5 : Int) (a0_6 : Int) (a0_7 : Int) (a0_8 : Int) (a1 : Int) (a2 : Int) : Bool := true
def v69_0 (a0_0 : List AV) (a0_1 : Int) (a0_2 : Bool) (a0_3 : Int) (a0_4 : Int) (a0_5 : Int) (a0_6 : Int) (a0_7 : Int) (a0_8 : Int) (a1 : Int) (a2 : Int) : Bool := (bif a0_2 then (bif decide (a0_3 < a2) then (bif decide (a1 < a0_4) then true else (bif decide (a0_3 = a1) then decide (a0_4 = a2) else false)) else (bif decide (a0_3 = a1) then decide (a0_4 = a2) else false)) else false)
theorem e69 (a0_0 : List AV) (a0_1 : Int) (a0_2 : Bool) (a0_3 : Int) (a0_4 : Int) (a0_5 : Int) (a0_6 : Int) (a0_7 : Int) (a0_8 : Int) (a1 : Int) (a2 : Int) : funA c69 0 69 [AV.agg [AV.sl [.int .i64] a0_0, AV.int .i64 a0_1, AV.bool a0_2, AV.int .i64 a0_3, AV.int .i64 a0_4, AV.int .i64 a0_5, AV.int .i64 a0_6, AV.int .i64 a0_7, AV.int .i64 a0_8], AV.int .i64 a1, AV.int .i64 a2] = (bif a0_2 then (bif decide (a0_3 < a2) then (bif decide (a1 < a0_4) then some (AV.bool true)
  else (bif decide (a0_3 = a1) then some (AV.bool (decide (a0_4 = a2)))
  else some (AV.bool false)))
  else (bif decide (a0_3 = a1) then some (AV.bool (decide (a0_4 = a2)))
  else some (AV.bool false)))
  else some (AV.bool false)) := by kernel_rfl
theorem r69 (a0_0 : List AV) (a0_1 : Int) (a0_2 : Bool) (a0_3 : Int) (a0_4 : Int) (a0_5 : Int) (a0_6 : Int) (a0_7 : Int) (a0_8 : Int) (a1 : Int) (a2 : Int) : funA c69 0 69 [AV.agg [AV.sl [.int .i64] a0_0, AV.int .i64 a0_1, AV.bool a0_2, AV.int .i64 a0_3, AV.int .i64 a0_4, AV.int .i64 a0_5, AV.int .i64 a0_6, AV.int .i64 a0_7, AV.int .i64 a0_8], AV.int .i64 a1, AV.int .i64 a2] = some (AV.bool (v69_0 a0_0 a0_1 a0_2 a0_3 a0_4 a0_5 a0_6 a0_7 a0_8 a1 a2)) := (e69 a0_0 a0_1 a0_2 a0_3 a0_4 a0_5 a0_6 a0_7 a0_8 a1 a2).trans (of_tt (brT (fun b => some (AV.bool (bif b then (bif decide (a0_3 < a2) then (bif decide (a1 < a0_4) then true else (bif decide (a0_3 = a1) then decide (a0_4 = a2) else false)) else (bif decide (a0_3 = a1) then decide (a0_4 = a2) else false)) else false))) (brT (fun b => some (AV.bool (bif b then (bif decide (a1 < a0_4) then true else (bif decide (a0_3 = a1) then decide (a0_4 = a2) else false)) else (bif decide (a0_3 = a1) then decide (a0_4 = a2) else false)))) (brT (fun b => some (AV.bool (bif b then true else (bif decide (a0_3 = a1) then decide (a0_4 = a2) else false)))) (fun _ => rfl) (brT (fun b => some (AV.bool (bif b then decide (a0_4 = a2) else false))) (fun _ => rfl) (fun _ => rfl))) (brT (fun b => some (AV.bool (bif b then decide (a0_4 = a2) else false))) (fun _ => rfl) (fun _ => rfl))) (fun _ => rfl)))
def m69 : TModel
  | [.agg [.sl g0 a0_0, .int .i64 a0_1, .bool a0_2, .int .i64 a0_3, .int .i64 a0_4, .int .i64 a0_5, .int .i64 a0_6, .int .i64 a0_7, .int .i64 a0_8], .int .i64 a1, .int .i64 a2] => bif ctsEq g0 ([.int .i64]) then some (true, AV.bool (v69_0 a0_0 a0_1 a0_2 a0_3 a0_4 a0_5 a0_6 a0_7 a0_8 a1 a2)) else none
  | _ => none
theorem k69 : Known Try.prog 69 := ⟨Try.f69, Try.func69, by kernel_rfl, by kernel_rfl⟩
theorem meets69 : Meets Try.prog 69 m69 := by
  refine meet (f := Try.f69) (l := []) (hs := [(69, 999, [6])]) (ts := []) (ws := []) (is := []) (ls := []) (lvl := 0) mixed k69 Try.func69 (by kernel_rfl) noLoop allT_nil allM_nil noI fun w xs us r hl hv h => ?_
  unfold m69 at h
  split at h
  · rename_i g0 a0_0 a0_1 a0_2 a0_3 a0_4 a0_5 a0_6 a0_7 a0_8 a1 a2
    obtain ⟨hg, h⟩ := bif_pair h
    have q0 := hg
    obtain rfl := ctsEq_eq _ _ q0
    obtain ⟨h1, rfl⟩ := pair_inj h
    exact r69 a0_0 a0_1 a0_2 a0_3 a0_4 a0_5 a0_6 a0_7 a0_8 a1 a2
  · cases h

/-! ### 19 loop.example/g01984/spec.IsBoard -/
def F19_2 (t3 : Int) (h0_0 : List AV) (h0_1 : List AV) (h0_2 : List AV) (h0_3 : List AV) (h0_4 : Int) (h1_0 : List AV) (h1_1 : Int) (h1_2 : Bool) (h1_3 : Int) (h1_4 : Int) (h1_5 : Int) (h1_6 : Int) (h1_7 : Int) (h1_8 : Int) (t5 : Int) : Out (Int) (Unit ⊕ Unit) := (bif decide (t5 < t3) then (bif h1_2 then (bif (decide (0 ≤ t5) && decide (t5 < (h0_3.length : Int))) then (bif (v69_0 (fL (h0_3.getD t5.toNat AV.undef) 0) (fI (h0_3.getD t5.toNat AV.undef) 1) (fB (h0_3.getD t5.toNat AV.undef) 2) (fI (h0_3.getD t5.toNat AV.undef) 3) (fI (h0_3.getD t5.toNat AV.undef) 4) (fI (h0_3.getD t5.toNat AV.undef) 5) (fI (h0_3.getD t5.toNat AV.undef) 6) (fI (h0_3.getD t5.toNat AV.undef) 7) (fI (h0_3.getD t5.toNat AV.undef) 8) h1_3 h1_4) then .stop (.inr ())
  else .next (IntKind.i64.wrap (t5 + 1)))
  else .fail)
  else .stop (.inl ()))
  else .stop (.inl ()))
def R19_2 (t3 : Int) (h0_0 : List AV) (h0_1 : List AV) (h0_2 : List AV) (h0_3 : List AV) (h0_4 : Int) (h1_0 : List AV) (h1_1 : Int) (h1_2 : Bool) (h1_3 : Int) (h1_4 : Int) (h1_5 : Int) (h1_6 : Int) (h1_7 : Int) (h1_8 : Int) : (Int) → Out (Int) (Unit ⊕ Unit) := fun s : Int => F19_2 t3 h0_0 h0_1 h0_2 h0_3 h0_4 h1_0 h1_1 h1_2 h1_3 h1_4 h1_5 h1_6 h1_7 h1_8 s
def l19_2 : LModel := fun _ _ st k => match st with
  | ⟨[(1, .ptr g0 g1 g2), (3, .int .i64 t3), (4, .ptr g3 g4 g5), (5, .int .i64 t5)], [(g6, ⟨true, [], [.agg [.sl g7 h0_0, .sl g8 h0_1, .sl g9 h0_2, .sl g10 h0_3, .int .i64 h0_4]]⟩), (g11, ⟨true, [], [.agg [.sl g12 h1_0, .int .i64 h1_1, .bool h1_2, .int .i64 h1_3, .int .i64 h1_4, .int .i64 h1_5, .int .i64 h1_6, .int .i64 h1_7, .int .i64 h1_8]]⟩)]⟩ => bif nmEq g0 ([0, 1]) && Nat.beq g1 0 && Nat.beq g2 0 && nmEq g3 ([0, 4]) && Nat.beq g4 0 && Nat.beq g5 0 && nmEq g6 ([0, 1]) && ctsEq g7 ([.int .i64]) && ctsEq g8 ([.int .i64]) && ctsEq g9 ([.int .i64, .int .i64]) && ctsEq g10 ([.sl [.int .i64], .int .i64, .bool, .int .i64, .int .i64, .int .i64, .int .i64, .int .i64, .int .i64]) && nmEq g11 ([0, 4]) && ctsEq g12 ([.int .i64]) then ro (runW (R19_2 t3 h0_0 h0_1 h0_2 h0_3 h0_4 h1_0 h1_1 h1_2 h1_3 h1_4 h1_5 h1_6 h1_7 h1_8) ((t3 - t5).toNat + 1) t5) none (sumE (fun _ : Unit => k (.exit 2) ⟨[(1, AV.ptr [0, 1] 0 0), (3, AV.int .i64 t3)], [([0, 1], ⟨true, [], [AV.agg [AV.sl [.int .i64] h0_0, AV.sl [.int .i64] h0_1, AV.sl [.int .i64, .int .i64] h0_2, AV.sl [.sl [.int .i64], .int .i64, .bool, .int .i64, .int .i64, .int .i64, .int .i64, .int .i64, .int .i64] h0_3, AV.int .i64 h0_4]]⟩), ([0, 4], ⟨true, [], [AV.agg [AV.sl [.int .i64] h1_0, AV.int .i64 h1_1, AV.bool h1_2, AV.int .i64 h1_3, AV.int .i64 h1_4, AV.int .i64 h1_5, AV.int .i64 h1_6, AV.int .i64 h1_7, AV.int .i64 h1_8]]⟩)]⟩) (fun _ : Unit => k .ret ⟨[(2, AV.bool false)], [([0, 1], ⟨true, [], [AV.agg [AV.sl [.int .i64] h0_0, AV.sl [.int .i64] h0_1, AV.sl [.int .i64, .int .i64] h0_2, AV.sl [.sl [.int .i64], .int .i64, .bool, .int .i64, .int .i64, .int .i64, .int .i64, .int .i64, .int .i64] h0_3, AV.int .i64 h0_4]]⟩), ([0, 4], ⟨true, [], [AV.agg [AV.sl [.int .i64] h1_0, AV.int .i64 h1_1, AV.bool h1_2, AV.int .i64 h1_3, AV.int .i64 h1_4, AV.int .i64 h1_5, AV.int .i64 h1_6, AV.int .i64 h1_7, AV.int .i64 h1_8]]⟩)]⟩)) else none
  | _ => none
def F19_0 (h0_0 : List AV) (h0_1 : List AV) (h0_2 : List AV) (h0_3 : List AV) (h0_4 : Int) (t3 : Int) : Out (Int) (Unit ⊕ ((List AV) × Int × Bool × Int × Int × Int × Int × Int × Int) ⊕ ((List AV) × Int × Bool × Int × Int × Int × Int × Int × Int)) := (bif decide (t3 < (h0_3.length : Int)) then (bif (decide (0 ≤ t3) && decide (t3 < (h0_3.length : Int))) then (bif q68 h0_0 h0_1 h0_2 h0_3 h0_4 (fL (h0_3.getD t3.toNat AV.undef) 0) (fI (h0_3.getD t3.toNat AV.undef) 1) (fB (h0_3.getD t3.toNat AV.undef) 2) (fI (h0_3.getD t3.toNat AV.undef) 3) (fI (h0_3.getD t3.toNat AV.undef) 4) (fI (h0_3.getD t3.toNat AV.undef) 5) (fI (h0_3.getD t3.toNat AV.undef) 6) (fI (h0_3.getD t3.toNat AV.undef) 7) (fI (h0_3.getD t3.toNat AV.undef) 8) then (bif !(v68_0 h0_0 h0_1 h0_2 h0_3 h0_4 (fL (h0_3.getD t3.toNat AV.undef) 0) (fI (h0_3.getD t3.toNat AV.undef) 1) (fB (h0_3.getD t3.toNat AV.undef) 2) (fI (h0_3.getD t3.toNat AV.undef) 3) (fI (h0_3.getD t3.toNat AV.undef) 4) (fI (h0_3.getD t3.toNat AV.undef) 5) (fI (h0_3.getD t3.toNat AV.undef) 6) (fI (h0_3.getD t3.toNat AV.undef) 7) (fI (h0_3.getD t3.toNat AV.undef) 8)) then .stop (.inr (.inl (fL (h0_3.getD t3.toNat AV.undef) 0, fI (h0_3.getD t3.toNat AV.undef) 1, fB (h0_3.getD t3.toNat AV.undef) 2, fI (h0_3.getD t3.toNat AV.undef) 3, fI (h0_3.getD t3.toNat AV.undef) 4, fI (h0_3.getD t3.toNat AV.undef) 5, fI (h0_3.getD t3.toNat AV.undef) 6, fI (h0_3.getD t3.toNat AV.undef) 7, fI (h0_3.getD t3.toNat AV.undef) 8)))
  else (ro (runW (R19_2 t3 h0_0 h0_1 h0_2 h0_3 h0_4 (fL (h0_3.getD t3.toNat AV.undef) 0) (fI (h0_3.getD t3.toNat AV.undef) 1) (fB (h0_3.getD t3.toNat AV.undef) 2) (fI (h0_3.getD t3.toNat AV.undef) 3) (fI (h0_3.getD t3.toNat AV.undef) 4) (fI (h0_3.getD t3.toNat AV.undef) 5) (fI (h0_3.getD t3.toNat AV.undef) 6) (fI (h0_3.getD t3.toNat AV.undef) 7) (fI (h0_3.getD t3.toNat AV.undef) 8)) ((t3 - 0).toNat + 1) 0) .fail (sumE (fun _ => .next (IntKind.i64.wrap (t3 + 1))) (fun _ => .stop (.inr (.inr (fL (h0_3.getD t3.toNat AV.undef) 0, fI (h0_3.getD t3.toNat AV.undef) 1, fB (h0_3.getD t3.toNat AV.undef) 2, fI (h0_3.getD t3.toNat AV.undef) 3, fI (h0_3.getD t3.toNat AV.undef) 4, fI (h0_3.getD t3.toNat AV.undef) 5, fI (h0_3.getD t3.toNat AV.undef) 6, fI (h0_3.getD t3.toNat AV.undef) 7, fI (h0_3.getD t3.toNat AV.undef) 8)))))))
  else .fail)
  else .fail)
  else .stop (.inl ()))
def R19_0 (h0_0 : List AV) (h0_1 : List AV) (h0_2 : List AV) (h0_3 : List AV) (h0_4 : Int) : (Int) → Out (Int) (Unit ⊕ ((List AV) × Int × Bool × Int × Int × Int × Int × Int × Int) ⊕ ((List AV) × Int × Bool × Int × Int × Int × Int × Int × Int)) := fun s : Int => F19_0 h0_0 h0_1 h0_2 h0_3 h0_4 s
def l19_0 : LModel := fun _ _ st k => match st with
  | ⟨[(1, .ptr g0 g1 g2), (3, .int .i64 t3)], [(g3, ⟨true, [], [.agg [.sl g4 h0_0, .sl g5 h0_1, .sl g6 h0_2, .sl g7 h0_3, .int .i64 h0_4]]⟩)]⟩ => bif nmEq g0 ([0, 1]) && Nat.beq g1 0 && Nat.beq g2 0 && nmEq g3 ([0, 1]) && ctsEq g4 ([.int .i64]) && ctsEq g5 ([.int .i64]) && ctsEq g6 ([.int .i64, .int .i64]) && ctsEq g7 ([.sl [.int .i64], .int .i64, .bool, .int .i64, .int .i64, .int .i64, .int .i64, .int .i64, .int .i64]) then ro (runW (R19_0 h0_0 h0_1 h0_2 h0_3 h0_4) (((h0_3.length : Int) - t3).toNat + 1) t3) none (sumE (fun _ : Unit => k (.exit 0) ⟨[], [([0, 1], ⟨true, [], [AV.agg [AV.sl [.int .i64] h0_0, AV.sl [.int .i64] h0_1, AV.sl [.int .i64, .int .i64] h0_2, AV.sl [.sl [.int .i64], .int .i64, .bool, .int .i64, .int .i64, .int .i64, .int .i64, .int .i64, .int .i64] h0_3, AV.int .i64 h0_4]]⟩)]⟩) (sumE (fun p : (List AV) × Int × Bool × Int × Int × Int × Int × Int × Int => k .ret ⟨[(2, AV.bool false)], [([0, 1], ⟨true, [], [AV.agg [AV.sl [.int .i64] h0_0, AV.sl [.int .i64] h0_1, AV.sl [.int .i64, .int .i64] h0_2, AV.sl [.sl [.int .i64], .int .i64, .bool, .int .i64, .int .i64, .int .i64, .int .i64, .int .i64, .int .i64] h0_3, AV.int .i64 h0_4]]⟩), ([1, 4], ⟨true, [], [AV.agg [AV.sl [.int .i64] p.1, AV.int .i64 p.2.1, AV.bool p.2.2.1, AV.int .i64 p.2.2.2.1, AV.int .i64 p.2.2.2.2.1, AV.int .i64 p.2.2.2.2.2.1, AV.int .i64 p.2.2.2.2.2.2.1, AV.int .i64 p.2.2.2.2.2.2.2.1, AV.int .i64 p.2.2.2.2.2.2.2.2]]⟩)]⟩) (fun p : (List AV) × Int × Bool × Int × Int × Int × Int × Int × Int => k .ret ⟨[(2, AV.bool false)], [([0, 1], ⟨true, [], [AV.agg [AV.sl [.int .i64] h0_0, AV.sl [.int .i64] h0_1, AV.sl [.int .i64, .int .i64] h0_2, AV.sl [.sl [.int .i64], .int .i64, .bool, .int .i64, .int .i64, .int .i64, .int .i64, .int .i64, .int .i64] h0_3, AV.int .i64 h0_4]]⟩), ([0, 4], ⟨true, [], [AV.agg [AV.sl [.int .i64] p.1, AV.int .i64 p.2.1, AV.bool p.2.2.1, AV.int .i64 p.2.2.2.1, AV.int .i64 p.2.2.2.2.1, AV.int .i64 p.2.2.2.2.2.1, AV.int .i64 p.2.2.2.2.2.2.1, AV.int .i64 p.2.2.2.2.2.2.2.1, AV.int .i64 p.2.2.2.2.2.2.2.2]]⟩)]⟩))) else none
  | _ => none
noncomputable def c19 : Cfg := cfg Try.prog [(19, 0, [1, 3]), (19, 2, [1, 3, 4, 5]), (19, 999, [2]), (19, 1000, []), (19, 1001, [1, 3]), (19, 1002, [1, 3]), (19, 1003, [1, 3, 4, 5])] [(66, m66), (67, m67), (68, m68), (69, m69)] [] [] [(19, 0, l19_0), (19, 2, l19_2)]
theorem s19_2 (ce : CallE) (t3 : Int) (t5 : Int) (h0_0 : List AV) (h0_1 : List AV) (h0_2 : List AV) (h0_3 : List AV) (h0_4 : Int) (h1_0 : List AV) (h1_1 : Int) (h1_2 : Bool) (h1_3 : Int) (h1_4 : Int) (h1_5 : Int) (h1_6 : Int) (h1_7 : Int) (h1_8 : Int) (next : St → Option AV) (k : Kont) : stepA (codeA c19 ce [] 19 2 (sub [1, 1, 0, 1, 0, 0, 1, 0, 0, 1, 1, 1, 0, 0] (body Try.f19))) (normA [] [1, 3, 4, 5]) next ⟨[(1, AV.ptr [0, 1] 0 0), (3, AV.int .i64 t3), (4, AV.ptr [0, 4] 0 0), (5, AV.int .i64 t5)], [([0, 1], ⟨true, [], [AV.agg [AV.sl [.int .i64] h0_0, AV.sl [.int .i64] h0_1, AV.sl [.int .i64, .int .i64] h0_2, AV.sl [.sl [.int .i64], .int .i64, .bool, .int .i64, .int .i64, .int .i64, .int .i64, .int .i64, .int .i64] h0_3, AV.int .i64 h0_4]]⟩), ([0, 4], ⟨true, [], [AV.agg [AV.sl [.int .i64] h1_0, AV.int .i64 h1_1, AV.bool h1_2, AV.int .i64 h1_3, AV.int .i64 h1_4, AV.int .i64 h1_5, AV.int .i64 h1_6, AV.int .i64 h1_7, AV.int .i64 h1_8]]⟩)]⟩ k = (bif decide (t5 < t3) then (bif h1_2 then (bif (decide (0 ≤ t5) && decide (t5 < (h0_3.length : Int))) then (bif (v69_0 (fL (h0_3.getD t5.toNat AV.undef) 0) (fI (h0_3.getD t5.toNat AV.undef) 1) (fB (h0_3.getD t5.toNat AV.undef) 2) (fI (h0_3.getD t5.toNat AV.undef) 3) (fI (h0_3.getD t5.toNat AV.undef) 4) (fI (h0_3.getD t5.toNat AV.undef) 5) (fI (h0_3.getD t5.toNat AV.undef) 6) (fI (h0_3.getD t5.toNat AV.undef) 7) (fI (h0_3.getD t5.toNat AV.undef) 8) h1_3 h1_4) then k .ret ⟨[(2, AV.bool false)], [([0, 1], ⟨true, [], [AV.agg [AV.sl [.int .i64] h0_0, AV.sl [.int .i64] h0_1, AV.sl [.int .i64, .int .i64] h0_2, AV.sl [.sl [.int .i64], .int .i64, .bool, .int .i64, .int .i64, .int .i64, .int .i64, .int .i64, .int .i64] h0_3, AV.int .i64 h0_4]]⟩), ([0, 4], ⟨true, [], [AV.agg [AV.sl [.int .i64] h1_0, AV.int .i64 h1_1, AV.bool h1_2, AV.int .i64 h1_3, AV.int .i64 h1_4, AV.int .i64 h1_5, AV.int .i64 h1_6, AV.int .i64 h1_7, AV.int .i64 h1_8]]⟩)]⟩
  else next ⟨[(1, AV.ptr [0, 1] 0 0), (3, AV.int .i64 t3), (4, AV.ptr [0, 4] 0 0), (5, AV.int .i64 (IntKind.i64.wrap (t5 + 1)))], [([0, 1], ⟨true, [], [AV.agg [AV.sl [.int .i64] h0_0, AV.sl [.int .i64] h0_1, AV.sl [.int .i64, .int .i64] h0_2, AV.sl [.sl [.int .i64], .int .i64, .bool, .int .i64, .int .i64, .int .i64, .int .i64, .int .i64, .int .i64] h0_3, AV.int .i64 h0_4]]⟩), ([0, 4], ⟨true, [], [AV.agg [AV.sl [.int .i64] h1_0, AV.int .i64 h1_1, AV.bool h1_2, AV.int .i64 h1_3, AV.int .i64 h1_4, AV.int .i64 h1_5, AV.int .i64 h1_6, AV.int .i64 h1_7, AV.int .i64 h1_8]]⟩)]⟩)
  else none)
  else k (.exit 2) ⟨[(1, AV.ptr [0, 1] 0 0), (3, AV.int .i64 t3)], [([0, 1], ⟨true, [], [AV.agg [AV.sl [.int .i64] h0_0, AV.sl [.int .i64] h0_1, AV.sl [.int .i64, .int .i64] h0_2, AV.sl [.sl [.int .i64], .int .i64, .bool, .int .i64, .int .i64, .int .i64, .int .i64, .int .i64, .int .i64] h0_3, AV.int .i64 h0_4]]⟩), ([0, 4], ⟨true, [], [AV.agg [AV.sl [.int .i64] h1_0, AV.int .i64 h1_1, AV.bool h1_2, AV.int .i64 h1_3, AV.int .i64 h1_4, AV.int .i64 h1_5, AV.int .i64 h1_6, AV.int .i64 h1_7, AV.int .i64 h1_8]]⟩)]⟩)
  else k (.exit 2) ⟨[(1, AV.ptr [0, 1] 0 0), (3, AV.int .i64 t3)], [([0, 1], ⟨true, [], [AV.agg [AV.sl [.int .i64] h0_0, AV.sl [.int .i64] h0_1, AV.sl [.int .i64, .int .i64] h0_2, AV.sl [.sl [.int .i64], .int .i64, .bool, .int .i64, .int .i64, .int .i64, .int .i64, .int .i64, .int .i64] h0_3, AV.int .i64 h0_4]]⟩), ([0, 4], ⟨true, [], [AV.agg [AV.sl [.int .i64] h1_0, AV.int .i64 h1_1, AV.bool h1_2, AV.int .i64 h1_3, AV.int .i64 h1_4, AV.int .i64 h1_5, AV.int .i64 h1_6, AV.int .i64 h1_7, AV.int .i64 h1_8]]⟩)]⟩) := by kernel_rfl
theorem st19_2 (t3 : Int) (h0_0 : List AV) (h0_1 : List AV) (h0_2 : List AV) (h0_3 : List AV) (h0_4 : Int) (h1_0 : List AV) (h1_1 : Int) (h1_2 : Bool) (h1_3 : Int) (h1_4 : Int) (h1_5 : Int) (h1_6 : Int) (h1_7 : Int) (h1_8 : Int) (ce : CallE) (k : Kont) (s : Int) (next : St → Option AV) : stepA (codeA c19 ce [] 19 2 (sub [1, 1, 0, 1, 0, 0, 1, 0, 0, 1, 1, 1, 0, 0] (body Try.f19))) (normA [] [1, 3, 4, 5]) next ((fun s : Int => ⟨[(1, AV.ptr [0, 1] 0 0), (3, AV.int .i64 t3), (4, AV.ptr [0, 4] 0 0), (5, AV.int .i64 s)], [([0, 1], ⟨true, [], [AV.agg [AV.sl [.int .i64] h0_0, AV.sl [.int .i64] h0_1, AV.sl [.int .i64, .int .i64] h0_2, AV.sl [.sl [.int .i64], .int .i64, .bool, .int .i64, .int .i64, .int .i64, .int .i64, .int .i64, .int .i64] h0_3, AV.int .i64 h0_4]]⟩), ([0, 4], ⟨true, [], [AV.agg [AV.sl [.int .i64] h1_0, AV.int .i64 h1_1, AV.bool h1_2, AV.int .i64 h1_3, AV.int .i64 h1_4, AV.int .i64 h1_5, AV.int .i64 h1_6, AV.int .i64 h1_7, AV.int .i64 h1_8]]⟩)]⟩) s) k = (R19_2 t3 h0_0 h0_1 h0_2 h0_3 h0_4 h1_0 h1_1 h1_2 h1_3 h1_4 h1_5 h1_6 h1_7 h1_8 s).el none (fun s => next ((fun s : Int => ⟨[(1, AV.ptr [0, 1] 0 0), (3, AV.int .i64 t3), (4, AV.ptr [0, 4] 0 0), (5, AV.int .i64 s)], [([0, 1], ⟨true, [], [AV.agg [AV.sl [.int .i64] h0_0, AV.sl [.int .i64] h0_1, AV.sl [.int .i64, .int .i64] h0_2, AV.sl [.sl [.int .i64], .int .i64, .bool, .int .i64, .int .i64, .int .i64, .int .i64, .int .i64, .int .i64] h0_3, AV.int .i64 h0_4]]⟩), ([0, 4], ⟨true, [], [AV.agg [AV.sl [.int .i64] h1_0, AV.int .i64 h1_1, AV.bool h1_2, AV.int .i64 h1_3, AV.int .i64 h1_4, AV.int .i64 h1_5, AV.int .i64 h1_6, AV.int .i64 h1_7, AV.int .i64 h1_8]]⟩)]⟩) s)) (sumE (fun _ : Unit => k (.exit 2) ⟨[(1, AV.ptr [0, 1] 0 0), (3, AV.int .i64 t3)], [([0, 1], ⟨true, [], [AV.agg [AV.sl [.int .i64] h0_0, AV.sl [.int .i64] h0_1, AV.sl [.int .i64, .int .i64] h0_2, AV.sl [.sl [.int .i64], .int .i64, .bool, .int .i64, .int .i64, .int .i64, .int .i64, .int .i64, .int .i64] h0_3, AV.int .i64 h0_4]]⟩), ([0, 4], ⟨true, [], [AV.agg [AV.sl [.int .i64] h1_0, AV.int .i64 h1_1, AV.bool h1_2, AV.int .i64 h1_3, AV.int .i64 h1_4, AV.int .i64 h1_5, AV.int .i64 h1_6, AV.int .i64 h1_7, AV.int .i64 h1_8]]⟩)]⟩) (fun _ : Unit => k .ret ⟨[(2, AV.bool false)], [([0, 1], ⟨true, [], [AV.agg [AV.sl [.int .i64] h0_0, AV.sl [.int .i64] h0_1, AV.sl [.int .i64, .int .i64] h0_2, AV.sl [.sl [.int .i64], .int .i64, .bool, .int .i64, .int .i64, .int .i64, .int .i64, .int .i64, .int .i64] h0_3, AV.int .i64 h0_4]]⟩), ([0, 4], ⟨true, [], [AV.agg [AV.sl [.int .i64] h1_0, AV.int .i64 h1_1, AV.bool h1_2, AV.int .i64 h1_3, AV.int .i64 h1_4, AV.int .i64 h1_5, AV.int .i64 h1_6, AV.int .i64 h1_7, AV.int .i64 h1_8]]⟩)]⟩)) := (s19_2 ce t3 s h0_0 h0_1 h0_2 h0_3 h0_4 h1_0 h1_1 h1_2 h1_3 h1_4 h1_5 h1_6 h1_7 h1_8 next k).trans (by unfold R19_2; unfold F19_2; simp only [el_cond, el_ro, el_sum, el_fail, el_next, el_stop] <;> rfl)
theorem ok19_2 {ce : CallE} : LoopOK c19 ce [] 19 2 (sub [1, 1, 0, 1, 0, 0, 1, 0, 0, 1, 1, 1, 0, 0] (body Try.f19)) := by
  intro m hm st k r h
  obtain rfl : l19_2 = m := Option.some.inj hm
  unfold l19_2 at h
  split at h
  · rename_i g0 g1 g2 t3 g3 g4 g5 t5 g6 g7 h0_0 g8 h0_1 g9 h0_2 g10 h0_3 h0_4 g11 g12 h1_0 h1_1 h1_2 h1_3 h1_4 h1_5 h1_6 h1_7 h1_8
    obtain ⟨hg, h⟩ := bif_some h
    simp only [Bool.and_eq_true] at hg
    obtain ⟨⟨⟨⟨⟨⟨⟨⟨⟨⟨⟨⟨q0, q1⟩, q2⟩, q3⟩, q4⟩, q5⟩, q6⟩, q7⟩, q8⟩, q9⟩, q10⟩, q11⟩, q12⟩ := hg
    obtain rfl := (nmEq_iff _ _).1 q0
    obtain rfl := Nat.eq_of_beq_eq_true q1
    obtain rfl := Nat.eq_of_beq_eq_true q2
    obtain rfl := (nmEq_iff _ _).1 q3
    obtain rfl := Nat.eq_of_beq_eq_true q4
    obtain rfl := Nat.eq_of_beq_eq_true q5
    obtain rfl := (nmEq_iff _ _).1 q6
    obtain rfl := ctsEq_eq _ _ q7
    obtain rfl := ctsEq_eq _ _ q8
    obtain rfl := ctsEq_eq _ _ q9
    obtain rfl := ctsEq_eq _ _ q10
    obtain rfl := (nmEq_iff _ _).1 q11
    obtain rfl := ctsEq_eq _ _ q12
    refine ⟨((t3 - t5).toNat + 1), ?_⟩
    rw [← h]
    exact loop_run (fun s : Int => ⟨[(1, AV.ptr [0, 1] 0 0), (3, AV.int .i64 t3), (4, AV.ptr [0, 4] 0 0), (5, AV.int .i64 s)], [([0, 1], ⟨true, [], [AV.agg [AV.sl [.int .i64] h0_0, AV.sl [.int .i64] h0_1, AV.sl [.int .i64, .int .i64] h0_2, AV.sl [.sl [.int .i64], .int .i64, .bool, .int .i64, .int .i64, .int .i64, .int .i64, .int .i64, .int .i64] h0_3, AV.int .i64 h0_4]]⟩), ([0, 4], ⟨true, [], [AV.agg [AV.sl [.int .i64] h1_0, AV.int .i64 h1_1, AV.bool h1_2, AV.int .i64 h1_3, AV.int .i64 h1_4, AV.int .i64 h1_5, AV.int .i64 h1_6, AV.int .i64 h1_7, AV.int .i64 h1_8]]⟩)]⟩) (sumE (fun _ : Unit => k (.exit 2) ⟨[(1, AV.ptr [0, 1] 0 0), (3, AV.int .i64 t3)], [([0, 1], ⟨true, [], [AV.agg [AV.sl [.int .i64] h0_0, AV.sl [.int .i64] h0_1, AV.sl [.int .i64, .int .i64] h0_2, AV.sl [.sl [.int .i64], .int .i64, .bool, .int .i64, .int .i64, .int .i64, .int .i64, .int .i64, .int .i64] h0_3, AV.int .i64 h0_4]]⟩), ([0, 4], ⟨true, [], [AV.agg [AV.sl [.int .i64] h1_0, AV.int .i64 h1_1, AV.bool h1_2, AV.int .i64 h1_3, AV.int .i64 h1_4, AV.int .i64 h1_5, AV.int .i64 h1_6, AV.int .i64 h1_7, AV.int .i64 h1_8]]⟩)]⟩) (fun _ : Unit => k .ret ⟨[(2, AV.bool false)], [([0, 1], ⟨true, [], [AV.agg [AV.sl [.int .i64] h0_0, AV.sl [.int .i64] h0_1, AV.sl [.int .i64, .int .i64] h0_2, AV.sl [.sl [.int .i64], .int .i64, .bool, .int .i64, .int .i64, .int .i64, .int .i64, .int .i64, .int .i64] h0_3, AV.int .i64 h0_4]]⟩), ([0, 4], ⟨true, [], [AV.agg [AV.sl [.int .i64] h1_0, AV.int .i64 h1_1, AV.bool h1_2, AV.int .i64 h1_3, AV.int .i64 h1_4, AV.int .i64 h1_5, AV.int .i64 h1_6, AV.int .i64 h1_7, AV.int .i64 h1_8]]⟩)]⟩)) (st19_2 t3 h0_0 h0_1 h0_2 h0_3 h0_4 h1_0 h1_1 h1_2 h1_3 h1_4 h1_5 h1_6 h1_7 h1_8 ce k) _ t5
  · cases h
theorem s19_0 (ce : CallE) (t3 : Int) (h0_0 : List AV) (h0_1 : List AV) (h0_2 : List AV) (h0_3 : List AV) (h0_4 : Int) (next : St → Option AV) (k : Kont) : stepA (codeA c19 ce [] 19 0 (sub [1, 1, 0, 1, 0, 0] (body Try.f19))) (normA [] [1, 3]) next ⟨[(1, AV.ptr [0, 1] 0 0), (3, AV.int .i64 t3)], [([0, 1], ⟨true, [], [AV.agg [AV.sl [.int .i64] h0_0, AV.sl [.int .i64] h0_1, AV.sl [.int .i64, .int .i64] h0_2, AV.sl [.sl [.int .i64], .int .i64, .bool, .int .i64, .int .i64, .int .i64, .int .i64, .int .i64, .int .i64] h0_3, AV.int .i64 h0_4]]⟩)]⟩ k = (bif decide (t3 < (h0_3.length : Int)) then (bif (decide (0 ≤ t3) && decide (t3 < (h0_3.length : Int))) then (bif q68 h0_0 h0_1 h0_2 h0_3 h0_4 (fL (h0_3.getD t3.toNat AV.undef) 0) (fI (h0_3.getD t3.toNat AV.undef) 1) (fB (h0_3.getD t3.toNat AV.undef) 2) (fI (h0_3.getD t3.toNat AV.undef) 3) (fI (h0_3.getD t3.toNat AV.undef) 4) (fI (h0_3.getD t3.toNat AV.undef) 5) (fI (h0_3.getD t3.toNat AV.undef) 6) (fI (h0_3.getD t3.toNat AV.undef) 7) (fI (h0_3.getD t3.toNat AV.undef) 8) then (bif !(v68_0 h0_0 h0_1 h0_2 h0_3 h0_4 (fL (h0_3.getD t3.toNat AV.undef) 0) (fI (h0_3.getD t3.toNat AV.undef) 1) (fB (h0_3.getD t3.toNat AV.undef) 2) (fI (h0_3.getD t3.toNat AV.undef) 3) (fI (h0_3.getD t3.toNat AV.undef) 4) (fI (h0_3.getD t3.toNat AV.undef) 5) (fI (h0_3.getD t3.toNat AV.undef) 6) (fI (h0_3.getD t3.toNat AV.undef) 7) (fI (h0_3.getD t3.toNat AV.undef) 8)) then k .ret ⟨[(2, AV.bool false)], [([0, 1], ⟨true, [], [AV.agg [AV.sl [.int .i64] h0_0, AV.sl [.int .i64] h0_1, AV.sl [.int .i64, .int .i64] h0_2, AV.sl [.sl [.int .i64], .int .i64, .bool, .int .i64, .int .i64, .int .i64, .int .i64, .int .i64, .int .i64] h0_3, AV.int .i64 h0_4]]⟩), ([1, 4], ⟨true, [], [AV.agg [AV.sl [.int .i64] (fL (h0_3.getD t3.toNat AV.undef) 0), AV.int .i64 (fI (h0_3.getD t3.toNat AV.undef) 1), AV.bool (fB (h0_3.getD t3.toNat AV.undef) 2), AV.int .i64 (fI (h0_3.getD t3.toNat AV.undef) 3), AV.int .i64 (fI (h0_3.getD t3.toNat AV.undef) 4), AV.int .i64 (fI (h0_3.getD t3.toNat AV.undef) 5), AV.int .i64 (fI (h0_3.getD t3.toNat AV.undef) 6), AV.int .i64 (fI (h0_3.getD t3.toNat AV.undef) 7), AV.int .i64 (fI (h0_3.getD t3.toNat AV.undef) 8)]]⟩)]⟩
  else (ro (runW (R19_2 t3 h0_0 h0_1 h0_2 h0_3 h0_4 (fL (h0_3.getD t3.toNat AV.undef) 0) (fI (h0_3.getD t3.toNat AV.undef) 1) (fB (h0_3.getD t3.toNat AV.undef) 2) (fI (h0_3.getD t3.toNat AV.undef) 3) (fI (h0_3.getD t3.toNat AV.undef) 4) (fI (h0_3.getD t3.toNat AV.undef) 5) (fI (h0_3.getD t3.toNat AV.undef) 6) (fI (h0_3.getD t3.toNat AV.undef) 7) (fI (h0_3.getD t3.toNat AV.undef) 8)) ((t3 - 0).toNat + 1) 0) none (sumE (fun _ => next ⟨[(1, AV.ptr [0, 1] 0 0), (3, AV.int .i64 (IntKind.i64.wrap (t3 + 1)))], [([0, 1], ⟨true, [], [AV.agg [AV.sl [.int .i64] h0_0, AV.sl [.int .i64] h0_1, AV.sl [.int .i64, .int .i64] h0_2, AV.sl [.sl [.int .i64], .int .i64, .bool, .int .i64, .int .i64, .int .i64, .int .i64, .int .i64, .int .i64] h0_3, AV.int .i64 h0_4]]⟩)]⟩) (fun _ => k .ret ⟨[(2, AV.bool false)], [([0, 1], ⟨true, [], [AV.agg [AV.sl [.int .i64] h0_0, AV.sl [.int .i64] h0_1, AV.sl [.int .i64, .int .i64] h0_2, AV.sl [.sl [.int .i64], .int .i64, .bool, .int .i64, .int .i64, .int .i64, .int .i64, .int .i64, .int .i64] h0_3, AV.int .i64 h0_4]]⟩), ([0, 4], ⟨true, [], [AV.agg [AV.sl [.int .i64] (fL (h0_3.getD t3.toNat AV.undef) 0), AV.int .i64 (fI (h0_3.getD t3.toNat AV.undef) 1), AV.bool (fB (h0_3.getD t3.toNat AV.undef) 2), AV.int .i64 (fI (h0_3.getD t3.toNat AV.undef) 3), AV.int .i64 (fI (h0_3.getD t3.toNat AV.undef) 4), AV.int .i64 (fI (h0_3.getD t3.toNat AV.undef) 5), AV.int .i64 (fI (h0_3.getD t3.toNat AV.undef) 6), AV.int .i64 (fI (h0_3.getD t3.toNat AV.undef) 7), AV.int .i64 (fI (h0_3.getD t3.toNat AV.undef) 8)]]⟩)]⟩))))
  else none)
  else none)
  else k (.exit 0) ⟨[], [([0, 1], ⟨true, [], [AV.agg [AV.sl [.int .i64] h0_0, AV.sl [.int .i64] h0_1, AV.sl [.int .i64, .int .i64] h0_2, AV.sl [.sl [.int .i64], .int .i64, .bool, .int .i64, .int .i64, .int .i64, .int .i64, .int .i64, .int .i64] h0_3, AV.int .i64 h0_4]]⟩)]⟩) := by kernel_rfl
theorem st19_0 (h0_0 : List AV) (h0_1 : List AV) (h0_2 : List AV) (h0_3 : List AV) (h0_4 : Int) (ce : CallE) (k : Kont) (s : Int) (next : St → Option AV) : stepA (codeA c19 ce [] 19 0 (sub [1, 1, 0, 1, 0, 0] (body Try.f19))) (normA [] [1, 3]) next ((fun s : Int => ⟨[(1, AV.ptr [0, 1] 0 0), (3, AV.int .i64 s)], [([0, 1], ⟨true, [], [AV.agg [AV.sl [.int .i64] h0_0, AV.sl [.int .i64] h0_1, AV.sl [.int .i64, .int .i64] h0_2, AV.sl [.sl [.int .i64], .int .i64, .bool, .int .i64, .int .i64, .int .i64, .int .i64, .int .i64, .int .i64] h0_3, AV.int .i64 h0_4]]⟩)]⟩) s) k = (R19_0 h0_0 h0_1 h0_2 h0_3 h0_4 s).el none (fun s => next ((fun s : Int => ⟨[(1, AV.ptr [0, 1] 0 0), (3, AV.int .i64 s)], [([0, 1], ⟨true, [], [AV.agg [AV.sl [.int .i64] h0_0, AV.sl [.int .i64] h0_1, AV.sl [.int .i64, .int .i64] h0_2, AV.sl [.sl [.int .i64], .int .i64, .bool, .int .i64, .int .i64, .int .i64, .int .i64, .int .i64, .int .i64] h0_3, AV.int .i64 h0_4]]⟩)]⟩) s)) (sumE (fun _ : Unit => k (.exit 0) ⟨[], [([0, 1], ⟨true, [], [AV.agg [AV.sl [.int .i64] h0_0, AV.sl [.int .i64] h0_1, AV.sl [.int .i64, .int .i64] h0_2, AV.sl [.sl [.int .i64], .int .i64, .bool, .int .i64, .int .i64, .int .i64, .int .i64, .int .i64, .int .i64] h0_3, AV.int .i64 h0_4]]⟩)]⟩) (sumE (fun p : (List AV) × Int × Bool × Int × Int × Int × Int × Int × Int => k .ret ⟨[(2, AV.bool false)], [([0, 1], ⟨true, [], [AV.agg [AV.sl [.int .i64] h0_0, AV.sl [.int .i64] h0_1, AV.sl [.int .i64, .int .i64] h0_2, AV.sl [.sl [.int .i64], .int .i64, .bool, .int .i64, .int .i64, .int .i64, .int .i64, .int .i64, .int .i64] h0_3, AV.int .i64 h0_4]]⟩), ([1, 4], ⟨true, [], [AV.agg [AV.sl [.int .i64] p.1, AV.int .i64 p.2.1, AV.bool p.2.2.1, AV.int .i64 p.2.2.2.1, AV.int .i64 p.2.2.2.2.1, AV.int .i64 p.2.2.2.2.2.1, AV.int .i64 p.2.2.2.2.2.2.1, AV.int .i64 p.2.2.2.2.2.2.2.1, AV.int .i64 p.2.2.2.2.2.2.2.2]]⟩)]⟩) (fun p : (List AV) × Int × Bool × Int × Int × Int × Int × Int × Int => k .ret ⟨[(2, AV.bool false)], [([0, 1], ⟨true, [], [AV.agg [AV.sl [.int .i64] h0_0, AV.sl [.int .i64] h0_1, AV.sl [.int .i64, .int .i64] h0_2, AV.sl [.sl [.int .i64], .int .i64, .bool, .int .i64, .int .i64, .int .i64, .int .i64, .int .i64, .int .i64] h0_3, AV.int .i64 h0_4]]⟩), ([0, 4], ⟨true, [], [AV.agg [AV.sl [.int .i64] p.1, AV.int .i64 p.2.1, AV.bool p.2.2.1, AV.int .i64 p.2.2.2.1, AV.int .i64 p.2.2.2.2.1, AV.int .i64 p.2.2.2.2.2.1, AV.int .i64 p.2.2.2.2.2.2.1, AV.int .i64 p.2.2.2.2.2.2.2.1, AV.int .i64 p.2.2.2.2.2.2.2.2]]⟩)]⟩))) := (s19_0 ce s h0_0 h0_1 h0_2 h0_3 h0_4 next k).trans (by unfold R19_0; unfold F19_0; simp only [el_cond, el_ro, el_sum, el_fail, el_next, el_stop] <;> rfl)
theorem ok19_0 {ce : CallE} : LoopOK c19 ce [] 19 0 (sub [1, 1, 0, 1, 0, 0] (body Try.f19)) := by
  intro m hm st k r h
  obtain rfl : l19_0 = m := Option.some.inj hm
  unfold l19_0 at h
  split at h
  · rename_i g0 g1 g2 t3 g3 g4 h0_0 g5 h0_1 g6 h0_2 g7 h0_3 h0_4
    obtain ⟨hg, h⟩ := bif_some h
    simp only [Bool.and_eq_true] at hg
    obtain ⟨⟨⟨⟨⟨⟨⟨q0, q1⟩, q2⟩, q3⟩, q4⟩, q5⟩, q6⟩, q7⟩ := hg
    obtain rfl := (nmEq_iff _ _).1 q0
    obtain rfl := Nat.eq_of_beq_eq_true q1
    obtain rfl := Nat.eq_of_beq_eq_true q2
    obtain rfl := (nmEq_iff _ _).1 q3
    obtain rfl := ctsEq_eq _ _ q4
    obtain rfl := ctsEq_eq _ _ q5
    obtain rfl := ctsEq_eq _ _ q6
    obtain rfl := ctsEq_eq _ _ q7
    refine ⟨(((h0_3.length : Int) - t3).toNat + 1), ?_⟩
    rw [← h]
    exact loop_run (fun s : Int => ⟨[(1, AV.ptr [0, 1] 0 0), (3, AV.int .i64 s)], [([0, 1], ⟨true, [], [AV.agg [AV.sl [.int .i64] h0_0, AV.sl [.int .i64] h0_1, AV.sl [.int .i64, .int .i64] h0_2, AV.sl [.sl [.int .i64], .int .i64, .bool, .int .i64, .int .i64, .int .i64, .int .i64, .int .i64, .int .i64] h0_3, AV.int .i64 h0_4]]⟩)]⟩) (sumE (fun _ : Unit => k (.exit 0) ⟨[], [([0, 1], ⟨true, [], [AV.agg [AV.sl [.int .i64] h0_0, AV.sl [.int .i64] h0_1, AV.sl [.int .i64, .int .i64] h0_2, AV.sl [.sl [.int .i64], .int .i64, .bool, .int .i64, .int .i64, .int .i64, .int .i64, .int .i64, .int .i64] h0_3, AV.int .i64 h0_4]]⟩)]⟩) (sumE (fun p : (List AV) × Int × Bool × Int × Int × Int × Int × Int × Int => k .ret ⟨[(2, AV.bool false)], [([0, 1], ⟨true, [], [AV.agg [AV.sl [.int .i64] h0_0, AV.sl [.int .i64] h0_1, AV.sl [.int .i64, .int .i64] h0_2, AV.sl [.sl [.int .i64], .int .i64, .bool, .int .i64, .int .i64, .int .i64, .int .i64, .int .i64, .int .i64] h0_3, AV.int .i64 h0_4]]⟩), ([1, 4], ⟨true, [], [AV.agg [AV.sl [.int .i64] p.1, AV.int .i64 p.2.1, AV.bool p.2.2.1, AV.int .i64 p.2.2.2.1, AV.int .i64 p.2.2.2.2.1, AV.int .i64 p.2.2.2.2.2.1, AV.int .i64 p.2.2.2.2.2.2.1, AV.int .i64 p.2.2.2.2.2.2.2.1, AV.int .i64 p.2.2.2.2.2.2.2.2]]⟩)]⟩) (fun p : (List AV) × Int × Bool × Int × Int × Int × Int × Int × Int => k .ret ⟨[(2, AV.bool false)], [([0, 1], ⟨true, [], [AV.agg [AV.sl [.int .i64] h0_0, AV.sl [.int .i64] h0_1, AV.sl [.int .i64, .int .i64] h0_2, AV.sl [.sl [.int .i64], .int .i64, .bool, .int .i64, .int .i64, .int .i64, .int .i64, .int .i64, .int .i64] h0_3, AV.int .i64 h0_4]]⟩), ([0, 4], ⟨true, [], [AV.agg [AV.sl [.int .i64] p.1, AV.int .i64 p.2.1, AV.bool p.2.2.1, AV.int .i64 p.2.2.2.1, AV.int .i64 p.2.2.2.2.1, AV.int .i64 p.2.2.2.2.2.1, AV.int .i64 p.2.2.2.2.2.2.1, AV.int .i64 p.2.2.2.2.2.2.2.1, AV.int .i64 p.2.2.2.2.2.2.2.2]]⟩)]⟩))) (st19_0 h0_0 h0_1 h0_2 h0_3 h0_4 ce k) _ t3
  · cases h
def q19 (a0_0 : List AV) (a0_1 : List AV) (a0_2 : List AV) (a0_3 : List AV) (a0_4 : Int) : Bool := (q66 a0_0 a0_1 a0_2 && (bif !(v66_0 a0_0 a0_1 a0_2) then true else (bif !(v67_0 (a0_3.length : Int) 1 3) then true else (bif !(v67_0 a0_4 0 100000) then true else (ro (runW (R19_0 a0_0 a0_1 a0_2 a0_3 a0_4) (((a0_3.length : Int) - 0).toNat + 1) 0) false (sumE (fun _ => true) (sumE (fun p30 => true) (fun p31 => true))))))))
def v19_0 (a0_0 : List AV) (a0_1 : List AV) (a0_2 : List AV) (a0_3 : List AV) (a0_4 : Int) : Bool := (bif !(v66_0 a0_0 a0_1 a0_2) then false else (bif !(v67_0 (a0_3.length : Int) 1 3) then false else (bif !(v67_0 a0_4 0 100000) then false else (ro (runW (R19_0 a0_0 a0_1 a0_2 a0_3 a0_4) (((a0_3.length : Int) - 0).toNat + 1) 0) false (sumE (fun _ => true) (sumE (fun p30 => false) (fun p31 => false)))))))
theorem e19 (a0_0 : List AV) (a0_1 : List AV) (a0_2 : List AV) (a0_3 : List AV) (a0_4 : Int) : funA c19 0 19 [AV.agg [AV.sl [.int .i64] a0_0, AV.sl [.int .i64] a0_1, AV.sl [.int .i64, .int .i64] a0_2, AV.sl [.sl [.int .i64], .int .i64, .bool, .int .i64, .int .i64, .int .i64, .int .i64, .int .i64, .int .i64] a0_3, AV.int .i64 a0_4]] = (bif q66 a0_0 a0_1 a0_2 then (bif !(v66_0 a0_0 a0_1 a0_2) then some (AV.bool false)
  else (bif !(v67_0 (a0_3.length : Int) 1 3) then some (AV.bool false)
  else (bif !(v67_0 a0_4 0 100000) then some (AV.bool false)
  else (ro (runW (R19_0 a0_0 a0_1 a0_2 a0_3 a0_4) (((a0_3.length : Int) - 0).toNat + 1) 0) none (sumE (fun _ => some (AV.bool true)) (sumE (fun p30 => some (AV.bool false)) (fun p31 => some (AV.bool false))))))))
  else none) := by kernel_rfl
theorem r19 (a0_0 : List AV) (a0_1 : List AV) (a0_2 : List AV) (a0_3 : List AV) (a0_4 : Int) (h : q19 a0_0 a0_1 a0_2 a0_3 a0_4 = true) : funA c19 0 19 [AV.agg [AV.sl [.int .i64] a0_0, AV.sl [.int .i64] a0_1, AV.sl [.int .i64, .int .i64] a0_2, AV.sl [.sl [.int .i64], .int .i64, .bool, .int .i64, .int .i64, .int .i64, .int .i64, .int .i64, .int .i64] a0_3, AV.int .i64 a0_4]] = some (AV.bool (v19_0 a0_0 a0_1 a0_2 a0_3 a0_4)) := (e19 a0_0 a0_1 a0_2 a0_3 a0_4).trans ((brL (br (fun b => some (AV.bool (bif b then false else (bif !(v67_0 (a0_3.length : Int) 1 3) then false else (bif !(v67_0 a0_4 0 100000) then false else (ro (runW (R19_0 a0_0 a0_1 a0_2 a0_3 a0_4) (((a0_3.length : Int) - 0).toNat + 1) 0) false (sumE (fun _ => true) (sumE (fun p30 => false) (fun p31 => false))))))))) (fun _ => rfl) (br (fun b => some (AV.bool (bif b then false else (bif !(v67_0 a0_4 0 100000) then false else (ro (runW (R19_0 a0_0 a0_1 a0_2 a0_3 a0_4) (((a0_3.length : Int) - 0).toNat + 1) 0) false (sumE (fun _ => true) (sumE (fun p30 => false) (fun p31 => false)))))))) (fun _ => rfl) (br (fun b => some (AV.bool (bif b then false else (ro (runW (R19_0 a0_0 a0_1 a0_2 a0_3 a0_4) (((a0_3.length : Int) - 0).toNat + 1) 0) false (sumE (fun _ => true) (sumE (fun p30 => false) (fun p31 => false))))))) (fun _ => rfl) (brO (fun o : Option (Unit ⊕ ((List AV) × Int × Bool × Int × Int × Int × Int × Int × Int) ⊕ ((List AV) × Int × Bool × Int × Int × Int × Int × Int × Int)) => some (AV.bool (ro o false (sumE (fun _ => true) (sumE (fun p30 => false) (fun p31 => false)))))) (brS (fun o : Unit ⊕ ((List AV) × Int × Bool × Int × Int × Int × Int × Int × Int) ⊕ ((List AV) × Int × Bool × Int × Int × Int × Int × Int × Int) => some (AV.bool ((sumE (fun _ => true) (sumE (fun p30 => false) (fun p31 => false))) o))) (fun _ => (fun _ => rfl)) (brS (fun o : ((List AV) × Int × Bool × Int × Int × Int × Int × Int × Int) ⊕ ((List AV) × Int × Bool × Int × Int × Int × Int × Int × Int) => some (AV.bool ((sumE (fun p30 => false) (fun p31 => false)) o))) (fun p30 => (fun _ => rfl)) (fun p31 => (fun _ => rfl))))))))) h)
def m19 : TModel
  | [.agg [.sl g0 a0_0, .sl g1 a0_1, .sl g2 a0_2, .sl g3 a0_3, .int .i64 a0_4]] => bif ctsEq g0 ([.int .i64]) && ctsEq g1 ([.int .i64]) && ctsEq g2 ([.int .i64, .int .i64]) && ctsEq g3 ([.sl [.int .i64], .int .i64, .bool, .int .i64, .int .i64, .int .i64, .int .i64, .int .i64, .int .i64]) then some (q19 a0_0 a0_1 a0_2 a0_3 a0_4, AV.bool (v19_0 a0_0 a0_1 a0_2 a0_3 a0_4)) else none
  | _ => none
theorem k19 : Known Try.prog 19 := ⟨Try.f19, Try.func19, by kernel_rfl, by kernel_rfl⟩
theorem meets19 : Meets Try.prog 19 m19 := by
  refine meet (f := Try.f19) (l := [(0, sub [1, 1, 0, 1, 0, 0] (body Try.f19)), (2, sub [1, 1, 0, 1, 0, 0, 1, 0, 0, 1, 1, 1, 0, 0] (body Try.f19))]) (hs := [(19, 0, [1, 3]), (19, 2, [1, 3, 4, 5]), (19, 999, [2]), (19, 1000, []), (19, 1001, [1, 3]), (19, 1002, [1, 3]), (19, 1003, [1, 3, 4, 5])]) (ts := [(66, m66), (67, m67), (68, m68), (69, m69)]) (ws := []) (is := []) (ls := [(19, 0, l19_0), (19, 2, l19_2)]) (lvl := 0) mixed k19 Try.func19 (by kernel_rfl) (loops_cons ok19_0 (loops_cons ok19_2 noLoop)) (allT_cons meets66 (allT_cons meets67 (allT_cons meets68 (allT_cons meets69 allT_nil)))) allM_nil noI fun w xs us r hl hv h => ?_
  unfold m19 at h
  split at h
  · rename_i g0 a0_0 g1 a0_1 g2 a0_2 g3 a0_3 a0_4
    obtain ⟨hg, h⟩ := bif_pair h
    simp only [Bool.and_eq_true] at hg
    obtain ⟨⟨⟨q0, q1⟩, q2⟩, q3⟩ := hg
    obtain rfl := ctsEq_eq _ _ q0
    obtain rfl := ctsEq_eq _ _ q1
    obtain rfl := ctsEq_eq _ _ q2
    obtain rfl := ctsEq_eq _ _ q3
    obtain ⟨h1, rfl⟩ := pair_inj h
    exact r19 a0_0 a0_1 a0_2 a0_3 a0_4 h1
  · cases h

/-! ### 23 loop.example/g01984/spec.Blocker -/
def F23_0 (t1 : Int) (t8 : Int) (t9 : Int) (h0_0 : List AV) (h0_1 : List AV) (h0_2 : List AV) (h0_3 : List AV) (h0_4 : Int) (t10 : Int) : Out (Int) (Unit ⊕ Int) := (bif decide (t10 < (h0_3.length : Int)) then (bif !decide (t10 = t1) then (bif (decide (0 ≤ t10) && decide (t10 < (h0_3.length : Int))) then (bif (v69_0 (fL (h0_3.getD t10.toNat AV.undef) 0) (fI (h0_3.getD t10.toNat AV.undef) 1) (fB (h0_3.getD t10.toNat AV.undef) 2) (fI (h0_3.getD t10.toNat AV.undef) 3) (fI (h0_3.getD t10.toNat AV.undef) 4) (fI (h0_3.getD t10.toNat AV.undef) 5) (fI (h0_3.getD t10.toNat AV.undef) 6) (fI (h0_3.getD t10.toNat AV.undef) 7) (fI (h0_3.getD t10.toNat AV.undef) 8) t8 t9) then .stop (.inr t10)
  else .next (IntKind.i64.wrap (t10 + 1)))
  else .fail)
  else .next (IntKind.i64.wrap (t10 + 1)))
  else .stop (.inl ()))
def R23_0 (t1 : Int) (t8 : Int) (t9 : Int) (h0_0 : List AV) (h0_1 : List AV) (h0_2 : List AV) (h0_3 : List AV) (h0_4 : Int) : (Int) → Out (Int) (Unit ⊕ Int) := fun s : Int => F23_0 t1 t8 t9 h0_0 h0_1 h0_2 h0_3 h0_4 s
def l23_0 : LModel := fun _ _ st k => match st with
  | ⟨[(1, .int .i64 t1), (2, .ptr g0 g1 g2), (8, .int .i64 t8), (9, .int .i64 t9), (10, .int .i64 t10)], [(g3, ⟨true, [], [.agg [.sl g4 h0_0, .sl g5 h0_1, .sl g6 h0_2, .sl g7 h0_3, .int .i64 h0_4]]⟩)]⟩ => bif nmEq g0 ([0, 2]) && Nat.beq g1 0 && Nat.beq g2 0 && nmEq g3 ([0, 2]) && ctsEq g4 ([.int .i64]) && ctsEq g5 ([.int .i64]) && ctsEq g6 ([.int .i64, .int .i64]) && ctsEq g7 ([.sl [.int .i64], .int .i64, .bool, .int .i64, .int .i64, .int .i64, .int .i64, .int .i64, .int .i64]) then ro (runW (R23_0 t1 t8 t9 h0_0 h0_1 h0_2 h0_3 h0_4) (((h0_3.length : Int) - t10).toNat + 1) t10) none (sumE (fun _ : Unit => k (.exit 0) ⟨[], [([0, 2], ⟨true, [], [AV.agg [AV.sl [.int .i64] h0_0, AV.sl [.int .i64] h0_1, AV.sl [.int .i64, .int .i64] h0_2, AV.sl [.sl [.int .i64], .int .i64, .bool, .int .i64, .int .i64, .int .i64, .int .i64, .int .i64, .int .i64] h0_3, AV.int .i64 h0_4]]⟩)]⟩) (fun p : Int => k .ret ⟨[(4, AV.int .i64 p)], [([0, 2], ⟨true, [], [AV.agg [AV.sl [.int .i64] h0_0, AV.sl [.int .i64] h0_1, AV.sl [.int .i64, .int .i64] h0_2, AV.sl [.sl [.int .i64], .int .i64, .bool, .int .i64, .int .i64, .int .i64, .int .i64, .int .i64, .int .i64] h0_3, AV.int .i64 h0_4]]⟩)]⟩)) else none
  | _ => none
noncomputable def c23 : Cfg := cfg Try.prog [(23, 0, [1, 2, 8, 9, 10]), (23, 999, [4]), (23, 1000, []), (23, 1001, [1, 2, 8, 9, 10])] [(19, m19), (67, m67), (69, m69), (75, m75), (76, m76)] [] [] [(23, 0, l23_0)]
theorem s23_0 (ce : CallE) (t1 : Int) (t8 : Int) (t9 : Int) (t10 : Int) (h0_0 : List AV) (h0_1 : List AV) (h0_2 : List AV) (h0_3 : List AV) (h0_4 : Int) (next : St → Option AV) (k : Kont) : stepA (codeA c23 ce [] 23 0 (sub [1, 1, 1, 1, 1, 0, 1, 0, 0] (body Try.f23))) (normA [] [1, 2, 8, 9, 10]) next ⟨[(1, AV.int .i64 t1), (2, AV.ptr [0, 2] 0 0), (8, AV.int .i64 t8), (9, AV.int .i64 t9), (10, AV.int .i64 t10)], [([0, 2], ⟨true, [], [AV.agg [AV.sl [.int .i64] h0_0, AV.sl [.int .i64] h0_1, AV.sl [.int .i64, .int .i64] h0_2, AV.sl [.sl [.int .i64], .int .i64, .bool, .int .i64, .int .i64, .int .i64, .int .i64, .int .i64, .int .i64] h0_3, AV.int .i64 h0_4]]⟩)]⟩ k = (bif decide (t10 < (h0_3.length : Int)) then (bif !decide (t10 = t1) then (bif (decide (0 ≤ t10) && decide (t10 < (h0_3.length : Int))) then (bif (v69_0 (fL (h0_3.getD t10.toNat AV.undef) 0) (fI (h0_3.getD t10.toNat AV.undef) 1) (fB (h0_3.getD t10.toNat AV.undef) 2) (fI (h0_3.getD t10.toNat AV.undef) 3) (fI (h0_3.getD t10.toNat AV.undef) 4) (fI (h0_3.getD t10.toNat AV.undef) 5) (fI (h0_3.getD t10.toNat AV.undef) 6) (fI (h0_3.getD t10.toNat AV.undef) 7) (fI (h0_3.getD t10.toNat AV.undef) 8) t8 t9) then k .ret ⟨[(4, AV.int .i64 t10)], [([0, 2], ⟨true, [], [AV.agg [AV.sl [.int .i64] h0_0, AV.sl [.int .i64] h0_1, AV.sl [.int .i64, .int .i64] h0_2, AV.sl [.sl [.int .i64], .int .i64, .bool, .int .i64, .int .i64, .int .i64, .int .i64, .int .i64, .int .i64] h0_3, AV.int .i64 h0_4]]⟩)]⟩
  else next ⟨[(1, AV.int .i64 t1), (2, AV.ptr [0, 2] 0 0), (8, AV.int .i64 t8), (9, AV.int .i64 t9), (10, AV.int .i64 (IntKind.i64.wrap (t10 + 1)))], [([0, 2], ⟨true, [], [AV.agg [AV.sl [.int .i64] h0_0, AV.sl [.int .i64] h0_1, AV.sl [.int .i64, .int .i64] h0_2, AV.sl [.sl [.int .i64], .int .i64, .bool, .int .i64, .int .i64, .int .i64, .int .i64, .int .i64, .int .i64] h0_3, AV.int .i64 h0_4]]⟩)]⟩)
  else none)
  else next ⟨[(1, AV.int .i64 t1), (2, AV.ptr [0, 2] 0 0), (8, AV.int .i64 t8), (9, AV.int .i64 t9), (10, AV.int .i64 (IntKind.i64.wrap (t10 + 1)))], [([0, 2], ⟨true, [], [AV.agg [AV.sl [.int .i64] h0_0, AV.sl [.int .i64] h0_1, AV.sl [.int .i64, .int .i64] h0_2, AV.sl [.sl [.int .i64], .int .i64, .bool, .int .i64, .int .i64, .int .i64, .int .i64, .int .i64, .int .i64] h0_3, AV.int .i64 h0_4]]⟩)]⟩)
  else k (.exit 0) ⟨[], [([0, 2], ⟨true, [], [AV.agg [AV.sl [.int .i64] h0_0, AV.sl [.int .i64] h0_1, AV.sl [.int .i64, .int .i64] h0_2, AV.sl [.sl [.int .i64], .int .i64, .bool, .int .i64, .int .i64, .int .i64, .int .i64, .int .i64, .int .i64] h0_3, AV.int .i64 h0_4]]⟩)]⟩) := by kernel_rfl
theorem st23_0 (t1 : Int) (t8 : Int) (t9 : Int) (h0_0 : List AV) (h0_1 : List AV) (h0_2 : List AV) (h0_3 : List AV) (h0_4 : Int) (ce : CallE) (k : Kont) (s : Int) (next : St → Option AV) : stepA (codeA c23 ce [] 23 0 (sub [1, 1, 1, 1, 1, 0, 1, 0, 0] (body Try.f23))) (normA [] [1, 2, 8, 9, 10]) next ((fun s : Int => ⟨[(1, AV.int .i64 t1), (2, AV.ptr [0, 2] 0 0), (8, AV.int .i64 t8), (9, AV.int .i64 t9), (10, AV.int .i64 s)], [([0, 2], ⟨true, [], [AV.agg [AV.sl [.int .i64] h0_0, AV.sl [.int .i64] h0_1, AV.sl [.int .i64, .int .i64] h0_2, AV.sl [.sl [.int .i64], .int .i64, .bool, .int .i64, .int .i64, .int .i64, .int .i64, .int .i64, .int .i64] h0_3, AV.int .i64 h0_4]]⟩)]⟩) s) k = (R23_0 t1 t8 t9 h0_0 h0_1 h0_2 h0_3 h0_4 s).el none (fun s => next ((fun s : Int => ⟨[(1, AV.int .i64 t1), (2, AV.ptr [0, 2] 0 0), (8, AV.int .i64 t8), (9, AV.int .i64 t9), (10, AV.int .i64 s)], [([0, 2], ⟨true, [], [AV.agg [AV.sl [.int .i64] h0_0, AV.sl [.int .i64] h0_1, AV.sl [.int .i64, .int .i64] h0_2, AV.sl [.sl [.int .i64], .int .i64, .bool, .int .i64, .int .i64, .int .i64, .int .i64, .int .i64, .int .i64] h0_3, AV.int .i64 h0_4]]⟩)]⟩) s)) (sumE (fun _ : Unit => k (.exit 0) ⟨[], [([0, 2], ⟨true, [], [AV.agg [AV.sl [.int .i64] h0_0, AV.sl [.int .i64] h0_1, AV.sl [.int .i64, .int .i64] h0_2, AV.sl [.sl [.int .i64], .int .i64, .bool, .int .i64, .int .i64, .int .i64, .int .i64, .int .i64, .int .i64] h0_3, AV.int .i64 h0_4]]⟩)]⟩) (fun p : Int => k .ret ⟨[(4, AV.int .i64 p)], [([0, 2], ⟨true, [], [AV.agg [AV.sl [.int .i64] h0_0, AV.sl [.int .i64] h0_1, AV.sl [.int .i64, .int .i64] h0_2, AV.sl [.sl [.int .i64], .int .i64, .bool, .int .i64, .int .i64, .int .i64, .int .i64, .int .i64, .int .i64] h0_3, AV.int .i64 h0_4]]⟩)]⟩)) := (s23_0 ce t1 t8 t9 s h0_0 h0_1 h0_2 h0_3 h0_4 next k).trans (by unfold R23_0; unfold F23_0; simp only [el_cond, el_ro, el_sum, el_fail, el_next, el_stop] <;> rfl)
theorem ok23_0 {ce : CallE} : LoopOK c23 ce [] 23 0 (sub [1, 1, 1, 1, 1, 0, 1, 0, 0] (body Try.f23)) := by
  intro m hm st k r h
  obtain rfl : l23_0 = m := Option.some.inj hm
  unfold l23_0 at h
  split at h
  · rename_i t1 g0 g1 g2 t8 t9 t10 g3 g4 h0_0 g5 h0_1 g6 h0_2 g7 h0_3 h0_4
    obtain ⟨hg, h⟩ := bif_some h
    simp only [Bool.and_eq_true] at hg
    obtain ⟨⟨⟨⟨⟨⟨⟨q0, q1⟩, q2⟩, q3⟩, q4⟩, q5⟩, q6⟩, q7⟩ := hg
    obtain rfl := (nmEq_iff _ _).1 q0
    obtain rfl := Nat.eq_of_beq_eq_true q1
    obtain rfl := Nat.eq_of_beq_eq_true q2
    obtain rfl := (nmEq_iff _ _).1 q3
    obtain rfl := ctsEq_eq _ _ q4
    obtain rfl := ctsEq_eq _ _ q5
    obtain rfl := ctsEq_eq _ _ q6
    obtain rfl := ctsEq_eq _ _ q7
    refine ⟨(((h0_3.length : Int) - t10).toNat + 1), ?_⟩
    rw [← h]
    exact loop_run (fun s : Int => ⟨[(1, AV.int .i64 t1), (2, AV.ptr [0, 2] 0 0), (8, AV.int .i64 t8), (9, AV.int .i64 t9), (10, AV.int .i64 s)], [([0, 2], ⟨true, [], [AV.agg [AV.sl [.int .i64] h0_0, AV.sl [.int .i64] h0_1, AV.sl [.int .i64, .int .i64] h0_2, AV.sl [.sl [.int .i64], .int .i64, .bool, .int .i64, .int .i64, .int .i64, .int .i64, .int .i64, .int .i64] h0_3, AV.int .i64 h0_4]]⟩)]⟩) (sumE (fun _ : Unit => k (.exit 0) ⟨[], [([0, 2], ⟨true, [], [AV.agg [AV.sl [.int .i64] h0_0, AV.sl [.int .i64] h0_1, AV.sl [.int .i64, .int .i64] h0_2, AV.sl [.sl [.int .i64], .int .i64, .bool, .int .i64, .int .i64, .int .i64, .int .i64, .int .i64, .int .i64] h0_3, AV.int .i64 h0_4]]⟩)]⟩) (fun p : Int => k .ret ⟨[(4, AV.int .i64 p)], [([0, 2], ⟨true, [], [AV.agg [AV.sl [.int .i64] h0_0, AV.sl [.int .i64] h0_1, AV.sl [.int .i64, .int .i64] h0_2, AV.sl [.sl [.int .i64], .int .i64, .bool, .int .i64, .int .i64, .int .i64, .int .i64, .int .i64, .int .i64] h0_3, AV.int .i64 h0_4]]⟩)]⟩)) (st23_0 t1 t8 t9 h0_0 h0_1 h0_2 h0_3 h0_4 ce k) _ t10
  · cases h
def q23 (a0_0 : List AV) (a0_1 : List AV) (a0_2 : List AV) (a0_3 : List AV) (a0_4 : Int) (a1 : Int) : Bool := (q19 a0_0 a0_1 a0_2 a0_3 a0_4 && (bif !(v19_0 a0_0 a0_1 a0_2 a0_3 a0_4) then true else (bif !(v67_0 a1 0 (IntKind.i64.wrap ((a0_3.length : Int) - 1))) then true else ((decide (0 ≤ a1) && decide (a1 < (a0_3.length : Int))) && (bif fB (a0_3.getD a1.toNat AV.undef) 2 then true else ((decide (0 ≤ a1) && decide (a1 < (a0_3.length : Int))) && ((decide (0 ≤ a1) && decide (a1 < (a0_3.length : Int))) && (bif decide (fI (a0_3.getD a1.toNat AV.undef) 1 = ((fL (a0_3.getD a1.toNat AV.undef) 0).length : Int)) then true else ((decide (0 ≤ a1) && decide (a1 < (a0_3.length : Int))) && ((decide (0 ≤ a1) && decide (a1 < (a0_3.length : Int))) && ((decide (0 ≤ fI (a0_3.getD a1.toNat AV.undef) 1) && decide (fI (a0_3.getD a1.toNat AV.undef) 1 < ((fL (a0_3.getD a1.toNat AV.undef) 0).length : Int))) && (q75 a0_0 a0_1 a0_2 (fI ((fL (a0_3.getD a1.toNat AV.undef) 0).getD (fI (a0_3.getD a1.toNat AV.undef) 1).toNat AV.undef) 0) && (bif (v75_1 a0_0 a0_1 a0_2 (fI ((fL (a0_3.getD a1.toNat AV.undef) 0).getD (fI (a0_3.getD a1.toNat AV.undef) 1).toNat AV.undef) 0)) then true else (q76 a0_0 a0_1 a0_2 (fI ((fL (a0_3.getD a1.toNat AV.undef) 0).getD (fI (a0_3.getD a1.toNat AV.undef) 1).toNat AV.undef) 0) && (ro (runW (R23_0 a1 (v76_0 a0_0 a0_1 a0_2 (fI ((fL (a0_3.getD a1.toNat AV.undef) 0).getD (fI (a0_3.getD a1.toNat AV.undef) 1).toNat AV.undef) 0)) (v76_1 a0_0 a0_1 a0_2 (fI ((fL (a0_3.getD a1.toNat AV.undef) 0).getD (fI (a0_3.getD a1.toNat AV.undef) 1).toNat AV.undef) 0)) a0_0 a0_1 a0_2 a0_3 a0_4) (((a0_3.length : Int) - 0).toNat + 1) 0) false (sumE (fun _ => true) (fun p33 => true)))))))))))))))))
def v23_0 (a0_0 : List AV) (a0_1 : List AV) (a0_2 : List AV) (a0_3 : List AV) (a0_4 : Int) (a1 : Int) : Int := (bif !(v19_0 a0_0 a0_1 a0_2 a0_3 a0_4) then (-1) else (bif !(v67_0 a1 0 (IntKind.i64.wrap ((a0_3.length : Int) - 1))) then (-1) else (bif fB (a0_3.getD a1.toNat AV.undef) 2 then (-1) else (bif decide (fI (a0_3.getD a1.toNat AV.undef) 1 = ((fL (a0_3.getD a1.toNat AV.undef) 0).length : Int)) then (-1) else (bif (v75_1 a0_0 a0_1 a0_2 (fI ((fL (a0_3.getD a1.toNat AV.undef) 0).getD (fI (a0_3.getD a1.toNat AV.undef) 1).toNat AV.undef) 0)) then (-1) else (ro (runW (R23_0 a1 (v76_0 a0_0 a0_1 a0_2 (fI ((fL (a0_3.getD a1.toNat AV.undef) 0).getD (fI (a0_3.getD a1.toNat AV.undef) 1).toNat AV.undef) 0)) (v76_1 a0_0 a0_1 a0_2 (fI ((fL (a0_3.getD a1.toNat AV.undef) 0).getD (fI (a0_3.getD a1.toNat AV.undef) 1).toNat AV.undef) 0)) a0_0 a0_1 a0_2 a0_3 a0_4) (((a0_3.length : Int) - 0).toNat + 1) 0) 0 (sumE (fun _ => (-1)) (fun p33 => p33))))))))
theorem e23 (a0_0 : List AV) (a0_1 : List AV) (a0_2 : List AV) (a0_3 : List AV) (a0_4 : Int) (a1 : Int) : funA c23 0 23 [AV.agg [AV.sl [.int .i64] a0_0, AV.sl [.int .i64] a0_1, AV.sl [.int .i64, .int .i64] a0_2, AV.sl [.sl [.int .i64], .int .i64, .bool, .int .i64, .int .i64, .int .i64, .int .i64, .int .i64, .int .i64] a0_3, AV.int .i64 a0_4], AV.int .i64 a1] = (bif q19 a0_0 a0_1 a0_2 a0_3 a0_4 then (bif !(v19_0 a0_0 a0_1 a0_2 a0_3 a0_4) then some (AV.int .i64 (-1))
  else (bif !(v67_0 a1 0 (IntKind.i64.wrap ((a0_3.length : Int) - 1))) then some (AV.int .i64 (-1))
  else (bif (decide (0 ≤ a1) && decide (a1 < (a0_3.length : Int))) then (bif fB (a0_3.getD a1.toNat AV.undef) 2 then some (AV.int .i64 (-1))
  else (bif (decide (0 ≤ a1) && decide (a1 < (a0_3.length : Int))) then (bif (decide (0 ≤ a1) && decide (a1 < (a0_3.length : Int))) then (bif decide (fI (a0_3.getD a1.toNat AV.undef) 1 = ((fL (a0_3.getD a1.toNat AV.undef) 0).length : Int)) then some (AV.int .i64 (-1))
  else (bif (decide (0 ≤ a1) && decide (a1 < (a0_3.length : Int))) then (bif (decide (0 ≤ a1) && decide (a1 < (a0_3.length : Int))) then (bif (decide (0 ≤ fI (a0_3.getD a1.toNat AV.undef) 1) && decide (fI (a0_3.getD a1.toNat AV.undef) 1 < ((fL (a0_3.getD a1.toNat AV.undef) 0).length : Int))) then (bif q75 a0_0 a0_1 a0_2 (fI ((fL (a0_3.getD a1.toNat AV.undef) 0).getD (fI (a0_3.getD a1.toNat AV.undef) 1).toNat AV.undef) 0) then (bif (v75_1 a0_0 a0_1 a0_2 (fI ((fL (a0_3.getD a1.toNat AV.undef) 0).getD (fI (a0_3.getD a1.toNat AV.undef) 1).toNat AV.undef) 0)) then some (AV.int .i64 (-1))
  else (bif q76 a0_0 a0_1 a0_2 (fI ((fL (a0_3.getD a1.toNat AV.undef) 0).getD (fI (a0_3.getD a1.toNat AV.undef) 1).toNat AV.undef) 0) then (ro (runW (R23_0 a1 (v76_0 a0_0 a0_1 a0_2 (fI ((fL (a0_3.getD a1.toNat AV.undef) 0).getD (fI (a0_3.getD a1.toNat AV.undef) 1).toNat AV.undef) 0)) (v76_1 a0_0 a0_1 a0_2 (fI ((fL (a0_3.getD a1.toNat AV.undef) 0).getD (fI (a0_3.getD a1.toNat AV.undef) 1).toNat AV.undef) 0)) a0_0 a0_1 a0_2 a0_3 a0_4) (((a0_3.length : Int) - 0).toNat + 1) 0) none (sumE (fun _ => some (AV.int .i64 (-1))) (fun p33 => some (AV.int .i64 p33))))
  else none))
  else none)
  else none)
  else none)
  else none))
  else none)
  else none))
  else none)))
  else none) := by kernel_rfl
theorem r23 (a0_0 : List AV) (a0_1 : List AV) (a0_2 : List AV) (a0_3 : List AV) (a0_4 : Int) (a1 : Int) (h : q23 a0_0 a0_1 a0_2 a0_3 a0_4 a1 = true) : funA c23 0 23 [AV.agg [AV.sl [.int .i64] a0_0, AV.sl [.int .i64] a0_1, AV.sl [.int .i64, .int .i64] a0_2, AV.sl [.sl [.int .i64], .int .i64, .bool, .int .i64, .int .i64, .int .i64, .int .i64, .int .i64, .int .i64] a0_3, AV.int .i64 a0_4], AV.int .i64 a1] = some (AV.int .i64 (v23_0 a0_0 a0_1 a0_2 a0_3 a0_4 a1)) := (e23 a0_0 a0_1 a0_2 a0_3 a0_4 a1).trans ((brL (br (fun b => some (AV.int .i64 (bif b then (-1) else (bif !(v67_0 a1 0 (IntKind.i64.wrap ((a0_3.length : Int) - 1))) then (-1) else (bif fB (a0_3.getD a1.toNat AV.undef) 2 then (-1) else (bif decide (fI (a0_3.getD a1.toNat AV.undef) 1 = ((fL (a0_3.getD a1.toNat AV.undef) 0).length : Int)) then (-1) else (bif (v75_1 a0_0 a0_1 a0_2 (fI ((fL (a0_3.getD a1.toNat AV.undef) 0).getD (fI (a0_3.getD a1.toNat AV.undef) 1).toNat AV.undef) 0)) then (-1) else (ro (runW (R23_0 a1 (v76_0 a0_0 a0_1 a0_2 (fI ((fL (a0_3.getD a1.toNat AV.undef) 0).getD (fI (a0_3.getD a1.toNat AV.undef) 1).toNat AV.undef) 0)) (v76_1 a0_0 a0_1 a0_2 (fI ((fL (a0_3.getD a1.toNat AV.undef) 0).getD (fI (a0_3.getD a1.toNat AV.undef) 1).toNat AV.undef) 0)) a0_0 a0_1 a0_2 a0_3 a0_4) (((a0_3.length : Int) - 0).toNat + 1) 0) 0 (sumE (fun _ => (-1)) (fun p33 => p33)))))))))) (fun _ => rfl) (br (fun b => some (AV.int .i64 (bif b then (-1) else (bif fB (a0_3.getD a1.toNat AV.undef) 2 then (-1) else (bif decide (fI (a0_3.getD a1.toNat AV.undef) 1 = ((fL (a0_3.getD a1.toNat AV.undef) 0).length : Int)) then (-1) else (bif (v75_1 a0_0 a0_1 a0_2 (fI ((fL (a0_3.getD a1.toNat AV.undef) 0).getD (fI (a0_3.getD a1.toNat AV.undef) 1).toNat AV.undef) 0)) then (-1) else (ro (runW (R23_0 a1 (v76_0 a0_0 a0_1 a0_2 (fI ((fL (a0_3.getD a1.toNat AV.undef) 0).getD (fI (a0_3.getD a1.toNat AV.undef) 1).toNat AV.undef) 0)) (v76_1 a0_0 a0_1 a0_2 (fI ((fL (a0_3.getD a1.toNat AV.undef) 0).getD (fI (a0_3.getD a1.toNat AV.undef) 1).toNat AV.undef) 0)) a0_0 a0_1 a0_2 a0_3 a0_4) (((a0_3.length : Int) - 0).toNat + 1) 0) 0 (sumE (fun _ => (-1)) (fun p33 => p33))))))))) (fun _ => rfl) (brL (br (fun b => some (AV.int .i64 (bif b then (-1) else (bif decide (fI (a0_3.getD a1.toNat AV.undef) 1 = ((fL (a0_3.getD a1.toNat AV.undef) 0).length : Int)) then (-1) else (bif (v75_1 a0_0 a0_1 a0_2 (fI ((fL (a0_3.getD a1.toNat AV.undef) 0).getD (fI (a0_3.getD a1.toNat AV.undef) 1).toNat AV.undef) 0)) then (-1) else (ro (runW (R23_0 a1 (v76_0 a0_0 a0_1 a0_2 (fI ((fL (a0_3.getD a1.toNat AV.undef) 0).getD (fI (a0_3.getD a1.toNat AV.undef) 1).toNat AV.undef) 0)) (v76_1 a0_0 a0_1 a0_2 (fI ((fL (a0_3.getD a1.toNat AV.undef) 0).getD (fI (a0_3.getD a1.toNat AV.undef) 1).toNat AV.undef) 0)) a0_0 a0_1 a0_2 a0_3 a0_4) (((a0_3.length : Int) - 0).toNat + 1) 0) 0 (sumE (fun _ => (-1)) (fun p33 => p33)))))))) (fun _ => rfl) (brL (brL (br (fun b => some (AV.int .i64 (bif b then (-1) else (bif (v75_1 a0_0 a0_1 a0_2 (fI ((fL (a0_3.getD a1.toNat AV.undef) 0).getD (fI (a0_3.getD a1.toNat AV.undef) 1).toNat AV.undef) 0)) then (-1) else (ro (runW (R23_0 a1 (v76_0 a0_0 a0_1 a0_2 (fI ((fL (a0_3.getD a1.toNat AV.undef) 0).getD (fI (a0_3.getD a1.toNat AV.undef) 1).toNat AV.undef) 0)) (v76_1 a0_0 a0_1 a0_2 (fI ((fL (a0_3.getD a1.toNat AV.undef) 0).getD (fI (a0_3.getD a1.toNat AV.undef) 1).toNat AV.undef) 0)) a0_0 a0_1 a0_2 a0_3 a0_4) (((a0_3.length : Int) - 0).toNat + 1) 0) 0 (sumE (fun _ => (-1)) (fun p33 => p33))))))) (fun _ => rfl) (brL (brL (brL (brL (br (fun b => some (AV.int .i64 (bif b then (-1) else (ro (runW (R23_0 a1 (v76_0 a0_0 a0_1 a0_2 (fI ((fL (a0_3.getD a1.toNat AV.undef) 0).getD (fI (a0_3.getD a1.toNat AV.undef) 1).toNat AV.undef) 0)) (v76_1 a0_0 a0_1 a0_2 (fI ((fL (a0_3.getD a1.toNat AV.undef) 0).getD (fI (a0_3.getD a1.toNat AV.undef) 1).toNat AV.undef) 0)) a0_0 a0_1 a0_2 a0_3 a0_4) (((a0_3.length : Int) - 0).toNat + 1) 0) 0 (sumE (fun _ => (-1)) (fun p33 => p33)))))) (fun _ => rfl) (brL (brO (fun o : Option (Unit ⊕ Int) => some (AV.int .i64 (ro o 0 (sumE (fun _ => (-1)) (fun p33 => p33))))) (brS (fun o : Unit ⊕ Int => some (AV.int .i64 ((sumE (fun _ => (-1)) (fun p33 => p33)) o))) (fun _ => (fun _ => rfl)) (fun p33 => (fun _ => rfl)))))))))))))))))) h)
def m23 : TModel
  | [.agg [.sl g0 a0_0, .sl g1 a0_1, .sl g2 a0_2, .sl g3 a0_3, .int .i64 a0_4], .int .i64 a1] => bif ctsEq g0 ([.int .i64]) && ctsEq g1 ([.int .i64]) && ctsEq g2 ([.int .i64, .int .i64]) && ctsEq g3 ([.sl [.int .i64], .int .i64, .bool, .int .i64, .int .i64, .int .i64, .int .i64, .int .i64, .int .i64]) then some (q23 a0_0 a0_1 a0_2 a0_3 a0_4 a1, AV.int .i64 (v23_0 a0_0 a0_1 a0_2 a0_3 a0_4 a1)) else none
  | _ => none
theorem k23 : Known Try.prog 23 := ⟨Try.f23, Try.func23, by kernel_rfl, by kernel_rfl⟩
theorem meets23 : Meets Try.prog 23 m23 := by
  refine meet (f := Try.f23) (l := [(0, sub [1, 1, 1, 1, 1, 0, 1, 0, 0] (body Try.f23))]) (hs := [(23, 0, [1, 2, 8, 9, 10]), (23, 999, [4]), (23, 1000, []), (23, 1001, [1, 2, 8, 9, 10])]) (ts := [(19, m19), (67, m67), (69, m69), (75, m75), (76, m76)]) (ws := []) (is := []) (ls := [(23, 0, l23_0)]) (lvl := 0) mixed k23 Try.func23 (by kernel_rfl) (loops_cons ok23_0 noLoop) (allT_cons meets19 (allT_cons meets67 (allT_cons meets69 (allT_cons meets75 (allT_cons meets76 allT_nil))))) allM_nil noI fun w xs us r hl hv h => ?_
  unfold m23 at h
  split at h
  · rename_i g0 a0_0 g1 a0_1 g2 a0_2 g3 a0_3 a0_4 a1
    obtain ⟨hg, h⟩ := bif_pair h
    simp only [Bool.and_eq_true] at hg
    obtain ⟨⟨⟨q0, q1⟩, q2⟩, q3⟩ := hg
    obtain rfl := ctsEq_eq _ _ q0
    obtain rfl := ctsEq_eq _ _ q1
    obtain rfl := ctsEq_eq _ _ q2
    obtain rfl := ctsEq_eq _ _ q3
    obtain ⟨h1, rfl⟩ := pair_inj h
    exact r23 a0_0 a0_1 a0_2 a0_3 a0_4 a1 h1
  · cases h

/-! ### 142 loop.example/g01984/impl.within$1 -/
noncomputable def c142 : Cfg := cfg Try.prog [(142, 999, [4])] [] [] [] []
def q142 (a0 : Int) (a1 : AV) (a2 : AV) : Bool := true
def v142_0 (a0 : Int) (a1 : AV) (a2 : AV) : Bool := (bif decide (a0 < fI a1 0) then true else decide (a0 > fI a2 0))
theorem e142 (a0 : Int) (a1 : AV) (a2 : AV) : funA c142 0 142 [AV.int .i64 a0, AV.rptr [.int .i64] a1 0, AV.rptr [.int .i64] a2 0] = (bif decide (a0 < fI a1 0) then some (AV.bool true)
  else some (AV.bool (decide (a0 > fI a2 0)))) := by kernel_rfl
theorem r142 (a0 : Int) (a1 : AV) (a2 : AV) : funA c142 0 142 [AV.int .i64 a0, AV.rptr [.int .i64] a1 0, AV.rptr [.int .i64] a2 0] = some (AV.bool (v142_0 a0 a1 a2)) := (e142 a0 a1 a2).trans (of_tt (brT (fun b => some (AV.bool (bif b then true else decide (a0 > fI a2 0)))) (fun _ => rfl) (fun _ => rfl)))
def m142 : TModel
  | [.int .i64 a0, .rptr g0 a1 g1, .rptr g2 a2 g3] => bif ctsEq g0 ([.int .i64]) && Nat.beq g1 0 && ctsEq g2 ([.int .i64]) && Nat.beq g3 0 then some (true, AV.bool (v142_0 a0 a1 a2)) else none
  | _ => none
theorem k142 : Known Try.prog 142 := ⟨Try.f142, Try.func142, by kernel_rfl, by kernel_rfl⟩
theorem meets142 : Meets Try.prog 142 m142 := by
  refine meet (f := Try.f142) (l := []) (hs := [(142, 999, [4])]) (ts := []) (ws := []) (is := []) (ls := []) (lvl := 0) mixed k142 Try.func142 (by kernel_rfl) noLoop allT_nil allM_nil noI fun w xs us r hl hv h => ?_
  unfold m142 at h
  split at h
  · rename_i a0 g0 a1 g1 g2 a2 g3
    obtain ⟨hg, h⟩ := bif_pair h
    simp only [Bool.and_eq_true] at hg
    obtain ⟨⟨⟨q0, q1⟩, q2⟩, q3⟩ := hg
    obtain rfl := ctsEq_eq _ _ q0
    obtain rfl := Nat.eq_of_beq_eq_true q1
    obtain rfl := ctsEq_eq _ _ q2
    obtain rfl := Nat.eq_of_beq_eq_true q3
    obtain ⟨h1, rfl⟩ := pair_inj h
    exact r142 a0 a1 a2
  · cases h

/-! ### 154 slices.IndexFunc[[]int,int] -/
def F154_0 (t0 : List AV) (t1_0 : AV) (t1_1 : AV) (t7 : Int) (t8 : Int) : Out (Int) (Unit ⊕ Int) := (bif decide (t8 < t7) then (bif (decide (0 ≤ t8) && decide (t8 < (t0.length : Int))) then (bif (v142_0 (fI (t0.getD t8.toNat AV.undef) 0) t1_0 t1_1) then .stop (.inr t8)
  else .next (IntKind.i64.wrap (t8 + 1)))
  else .fail)
  else .stop (.inl ()))
def R154_0 (t0 : List AV) (t1_0 : AV) (t1_1 : AV) (t7 : Int) : (Int) → Out (Int) (Unit ⊕ Int) := fun s : Int => F154_0 t0 t1_0 t1_1 t7 s
def l154_0 : LModel := fun _ _ st k => match st with
  | ⟨[(0, .sl g0 t0), (1, .fn g1 [.rptr g2 t1_0 g3, .rptr g4 t1_1 g5]), (7, .int .i64 t7), (8, .int .i64 t8)], []⟩ => bif ctsEq g0 ([.int .i64]) && Nat.beq g1 142 && ctsEq g2 ([.int .i64]) && Nat.beq g3 0 && ctsEq g4 ([.int .i64]) && Nat.beq g5 0 then ro (runW (R154_0 t0 t1_0 t1_1 t7) ((t7 - t8).toNat + 1) t8) none (sumE (fun _ : Unit => k (.exit 0) ⟨[], []⟩) (fun p : Int => k .ret ⟨[(4, AV.int .i64 p)], []⟩)) else none
  | _ => none
noncomputable def c154 : Cfg := cfg Try.prog [(154, 0, [0, 1, 7, 8]), (154, 999, [4]), (154, 1000, []), (154, 1001, [0, 1, 7, 8])] [(142, m142)] [] [] [(154, 0, l154_0)]
theorem s154_0 (ce : CallE) (t0 : List AV) (t1_0 : AV) (t1_1 : AV) (t7 : Int) (t8 : Int) (next : St → Option AV) (k : Kont) : stepA (codeA c154 ce [] 154 0 (sub [1, 0, 1, 0, 0] (body Try.f154))) (normA [] [0, 1, 7, 8]) next ⟨[(0, AV.sl [.int .i64] t0), (1, AV.fn 142 [AV.rptr [.int .i64] t1_0 0, AV.rptr [.int .i64] t1_1 0]), (7, AV.int .i64 t7), (8, AV.int .i64 t8)], []⟩ k = (bif decide (t8 < t7) then (bif (decide (0 ≤ t8) && decide (t8 < (t0.length : Int))) then (bif (v142_0 (fI (t0.getD t8.toNat AV.undef) 0) t1_0 t1_1) then k .ret ⟨[(4, AV.int .i64 t8)], []⟩
  else next ⟨[(0, AV.sl [.int .i64] t0), (1, AV.fn 142 [AV.rptr [.int .i64] t1_0 0, AV.rptr [.int .i64] t1_1 0]), (7, AV.int .i64 t7), (8, AV.int .i64 (IntKind.i64.wrap (t8 + 1)))], []⟩)
  else none)
  else k (.exit 0) ⟨[], []⟩) := by kernel_rfl
theorem st154_0 (t0 : List AV) (t1_0 : AV) (t1_1 : AV) (t7 : Int) (ce : CallE) (k : Kont) (s : Int) (next : St → Option AV) : stepA (codeA c154 ce [] 154 0 (sub [1, 0, 1, 0, 0] (body Try.f154))) (normA [] [0, 1, 7, 8]) next ((fun s : Int => ⟨[(0, AV.sl [.int .i64] t0), (1, AV.fn 142 [AV.rptr [.int .i64] t1_0 0, AV.rptr [.int .i64] t1_1 0]), (7, AV.int .i64 t7), (8, AV.int .i64 s)], []⟩) s) k = (R154_0 t0 t1_0 t1_1 t7 s).el none (fun s => next ((fun s : Int => ⟨[(0, AV.sl [.int .i64] t0), (1, AV.fn 142 [AV.rptr [.int .i64] t1_0 0, AV.rptr [.int .i64] t1_1 0]), (7, AV.int .i64 t7), (8, AV.int .i64 s)], []⟩) s)) (sumE (fun _ : Unit => k (.exit 0) ⟨[], []⟩) (fun p : Int => k .ret ⟨[(4, AV.int .i64 p)], []⟩)) := (s154_0 ce t0 t1_0 t1_1 t7 s next k).trans (by unfold R154_0; unfold F154_0; simp only [el_cond, el_ro, el_sum, el_fail, el_next, el_stop] <;> rfl)
theorem ok154_0 {ce : CallE} : LoopOK c154 ce [] 154 0 (sub [1, 0, 1, 0, 0] (body Try.f154)) := by
  intro m hm st k r h
  obtain rfl : l154_0 = m := Option.some.inj hm
  unfold l154_0 at h
  split at h
  · rename_i g0 t0 g1 g2 t1_0 g3 g4 t1_1 g5 t7 t8
    obtain ⟨hg, h⟩ := bif_some h
    simp only [Bool.and_eq_true] at hg
    obtain ⟨⟨⟨⟨⟨q0, q1⟩, q2⟩, q3⟩, q4⟩, q5⟩ := hg
    obtain rfl := ctsEq_eq _ _ q0
    obtain rfl := Nat.eq_of_beq_eq_true q1
    obtain rfl := ctsEq_eq _ _ q2
    obtain rfl := Nat.eq_of_beq_eq_true q3
    obtain rfl := ctsEq_eq _ _ q4
    obtain rfl := Nat.eq_of_beq_eq_true q5
    refine ⟨((t7 - t8).toNat + 1), ?_⟩
    rw [← h]
    exact loop_run (fun s : Int => ⟨[(0, AV.sl [.int .i64] t0), (1, AV.fn 142 [AV.rptr [.int .i64] t1_0 0, AV.rptr [.int .i64] t1_1 0]), (7, AV.int .i64 t7), (8, AV.int .i64 s)], []⟩) (sumE (fun _ : Unit => k (.exit 0) ⟨[], []⟩) (fun p : Int => k .ret ⟨[(4, AV.int .i64 p)], []⟩)) (st154_0 t0 t1_0 t1_1 t7 ce k) _ t8
  · cases h
def q154 (a0 : List AV) (a1_0 : AV) (a1_1 : AV) : Bool := (ro (runW (R154_0 a0 a1_0 a1_1 (a0.length : Int)) (((a0.length : Int) - 0).toNat + 1) 0) false (sumE (fun _ => true) (fun p35 => true)))
def v154_0 (a0 : List AV) (a1_0 : AV) (a1_1 : AV) : Int := (ro (runW (R154_0 a0 a1_0 a1_1 (a0.length : Int)) (((a0.length : Int) - 0).toNat + 1) 0) 0 (sumE (fun _ => (-1)) (fun p35 => p35)))
theorem e154 (a0 : List AV) (a1_0 : AV) (a1_1 : AV) : funA c154 0 154 [AV.sl [.int .i64] a0, AV.fn 142 [AV.rptr [.int .i64] a1_0 0, AV.rptr [.int .i64] a1_1 0]] = (ro (runW (R154_0 a0 a1_0 a1_1 (a0.length : Int)) (((a0.length : Int) - 0).toNat + 1) 0) none (sumE (fun _ => some (AV.int .i64 (-1))) (fun p35 => some (AV.int .i64 p35)))) := by kernel_rfl
theorem r154 (a0 : List AV) (a1_0 : AV) (a1_1 : AV) (h : q154 a0 a1_0 a1_1 = true) : funA c154 0 154 [AV.sl [.int .i64] a0, AV.fn 142 [AV.rptr [.int .i64] a1_0 0, AV.rptr [.int .i64] a1_1 0]] = some (AV.int .i64 (v154_0 a0 a1_0 a1_1)) := (e154 a0 a1_0 a1_1).trans ((brO (fun o : Option (Unit ⊕ Int) => some (AV.int .i64 (ro o 0 (sumE (fun _ => (-1)) (fun p35 => p35))))) (brS (fun o : Unit ⊕ Int => some (AV.int .i64 ((sumE (fun _ => (-1)) (fun p35 => p35)) o))) (fun _ => (fun _ => rfl)) (fun p35 => (fun _ => rfl)))) h)
def m154 : TModel
  | [.sl g0 a0, .fn g1 [.rptr g2 a1_0 g3, .rptr g4 a1_1 g5]] => bif ctsEq g0 ([.int .i64]) && Nat.beq g1 142 && ctsEq g2 ([.int .i64]) && Nat.beq g3 0 && ctsEq g4 ([.int .i64]) && Nat.beq g5 0 then some (q154 a0 a1_0 a1_1, AV.int .i64 (v154_0 a0 a1_0 a1_1)) else none
  | _ => none
theorem k154 : Known Try.prog 154 := ⟨Try.f154, Try.func154, by kernel_rfl, by kernel_rfl⟩
theorem meets154 : Meets Try.prog 154 m154 := by
  refine meet (f := Try.f154) (l := [(0, sub [1, 0, 1, 0, 0] (body Try.f154))]) (hs := [(154, 0, [0, 1, 7, 8]), (154, 999, [4]), (154, 1000, []), (154, 1001, [0, 1, 7, 8])]) (ts := [(142, m142)]) (ws := []) (is := []) (ls := [(154, 0, l154_0)]) (lvl := 0) mixed k154 Try.func154 (by kernel_rfl) (loops_cons ok154_0 noLoop) (allT_cons meets142 allT_nil) allM_nil noI fun w xs us r hl hv h => ?_
  unfold m154 at h
  split at h
  · rename_i g0 a0 g1 g2 a1_0 g3 g4 a1_1 g5
    obtain ⟨hg, h⟩ := bif_pair h
    simp only [Bool.and_eq_true] at hg
    obtain ⟨⟨⟨⟨⟨q0, q1⟩, q2⟩, q3⟩, q4⟩, q5⟩ := hg
    obtain rfl := ctsEq_eq _ _ q0
    obtain rfl := Nat.eq_of_beq_eq_true q1
    obtain rfl := ctsEq_eq _ _ q2
    obtain rfl := Nat.eq_of_beq_eq_true q3
    obtain rfl := ctsEq_eq _ _ q4
    obtain rfl := Nat.eq_of_beq_eq_true q5
    obtain ⟨h1, rfl⟩ := pair_inj h
    exact r154 a0 a1_0 a1_1 h1
  · cases h

/-! ### 141 slices.ContainsFunc[[]int,int] -/
noncomputable def c141 : Cfg := cfg Try.prog [(141, 999, [4])] [(154, m154)] [] [] []
def q141 (a0 : List AV) (a1_0 : AV) (a1_1 : AV) : Bool := q154 a0 a1_0 a1_1
def v141_0 (a0 : List AV) (a1_0 : AV) (a1_1 : AV) : Bool := decide ((v154_0 a0 a1_0 a1_1) ≥ 0)
theorem e141 (a0 : List AV) (a1_0 : AV) (a1_1 : AV) : funA c141 0 141 [AV.sl [.int .i64] a0, AV.fn 142 [AV.rptr [.int .i64] a1_0 0, AV.rptr [.int .i64] a1_1 0]] = (bif q154 a0 a1_0 a1_1 then some (AV.bool (decide ((v154_0 a0 a1_0 a1_1) ≥ 0)))
  else none) := by kernel_rfl
theorem r141 (a0 : List AV) (a1_0 : AV) (a1_1 : AV) (h : q141 a0 a1_0 a1_1 = true) : funA c141 0 141 [AV.sl [.int .i64] a0, AV.fn 142 [AV.rptr [.int .i64] a1_0 0, AV.rptr [.int .i64] a1_1 0]] = some (AV.bool (v141_0 a0 a1_0 a1_1)) := (e141 a0 a1_0 a1_1).trans ((brL1 (fun _ => rfl)) h)
def m141 : TModel
  | [.sl g0 a0, .fn g1 [.rptr g2 a1_0 g3, .rptr g4 a1_1 g5]] => bif ctsEq g0 ([.int .i64]) && Nat.beq g1 142 && ctsEq g2 ([.int .i64]) && Nat.beq g3 0 && ctsEq g4 ([.int .i64]) && Nat.beq g5 0 then some (q141 a0 a1_0 a1_1, AV.bool (v141_0 a0 a1_0 a1_1)) else none
  | _ => none
theorem k141 : Known Try.prog 141 := ⟨Try.f141, Try.func141, by kernel_rfl, by kernel_rfl⟩
theorem meets141 : Meets Try.prog 141 m141 := by
  refine meet (f := Try.f141) (l := []) (hs := [(141, 999, [4])]) (ts := [(154, m154)]) (ws := []) (is := []) (ls := []) (lvl := 0) mixed k141 Try.func141 (by kernel_rfl) noLoop (allT_cons meets154 allT_nil) allM_nil noI fun w xs us r hl hv h => ?_
  unfold m141 at h
  split at h
  · rename_i g0 a0 g1 g2 a1_0 g3 g4 a1_1 g5
    obtain ⟨hg, h⟩ := bif_pair h
    simp only [Bool.and_eq_true] at hg
    obtain ⟨⟨⟨⟨⟨q0, q1⟩, q2⟩, q3⟩, q4⟩, q5⟩ := hg
    obtain rfl := ctsEq_eq _ _ q0
    obtain rfl := Nat.eq_of_beq_eq_true q1
    obtain rfl := ctsEq_eq _ _ q2
    obtain rfl := Nat.eq_of_beq_eq_true q3
    obtain rfl := ctsEq_eq _ _ q4
    obtain rfl := Nat.eq_of_beq_eq_true q5
    obtain ⟨h1, rfl⟩ := pair_inj h
    exact r141 a0 a1_0 a1_1 h1
  · cases h

/-! ### 112 loop.example/g01984/impl.within -/
noncomputable def c112 : Cfg := cfg Try.prog [(112, 999, [6])] [(141, m141)] [] [] []
def q112 (a0 : List AV) (a1 : Int) (a2 : Int) : Bool := q141 a0 (AV.int .i64 a1) (AV.int .i64 a2)
def v112_0 (a0 : List AV) (a1 : Int) (a2 : Int) : Bool := !(v141_0 a0 (AV.int .i64 a1) (AV.int .i64 a2))
theorem e112 (a0 : List AV) (a1 : Int) (a2 : Int) : funA c112 0 112 [AV.sl [.int .i64] a0, AV.int .i64 a1, AV.int .i64 a2] = (bif q141 a0 (AV.int .i64 a1) (AV.int .i64 a2) then some (AV.bool (!(v141_0 a0 (AV.int .i64 a1) (AV.int .i64 a2))))
  else none) := by kernel_rfl
theorem r112 (a0 : List AV) (a1 : Int) (a2 : Int) (h : q112 a0 a1 a2 = true) : funA c112 0 112 [AV.sl [.int .i64] a0, AV.int .i64 a1, AV.int .i64 a2] = some (AV.bool (v112_0 a0 a1 a2)) := (e112 a0 a1 a2).trans ((brL1 (fun _ => rfl)) h)
def m112 : TModel
  | [.sl g0 a0, .int .i64 a1, .int .i64 a2] => bif ctsEq g0 ([.int .i64]) then some (q112 a0 a1 a2, AV.bool (v112_0 a0 a1 a2)) else none
  | _ => none
theorem k112 : Known Try.prog 112 := ⟨Try.f112, Try.func112, by kernel_rfl, by kernel_rfl⟩
theorem meets112 : Meets Try.prog 112 m112 := by
  refine meet (f := Try.f112) (l := []) (hs := [(112, 999, [6])]) (ts := [(141, m141)]) (ws := []) (is := []) (ls := []) (lvl := 0) mixed k112 Try.func112 (by kernel_rfl) noLoop (allT_cons meets141 allT_nil) allM_nil noI fun w xs us r hl hv h => ?_
  unfold m112 at h
  split at h
  · rename_i g0 a0 a1 a2
    obtain ⟨hg, h⟩ := bif_pair h
    have q0 := hg
    obtain rfl := ctsEq_eq _ _ q0
    obtain ⟨h1, rfl⟩ := pair_inj h
    exact r112 a0 a1 a2 h1
  · cases h
end Go.Proofs.Ytdhhceamknidmaa
