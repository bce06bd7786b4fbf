/- The walk of what this claim reaches: printed by a program, each equation checked by the kernel. -/
import Derived.Test.YtdhhceamknidmaaVEy
import Derived.Test.YtdhhceamknidmaaGL6
import Derived.Test.YtdhhceamknidmaaProg
import Derived.KernelRfl
namespace Go.Proofs.Ytdhhceamknidmaa
open Go Go.Proofs.VE
set_option linter.unusedVariables false
set_option linter.unusedSimpArgs false
set_option maxRecDepth 100000
set_option maxHeartbeats 4000000
theorem mixed : Try.prog.follows .mixedOrders = true := by kernel_rfl
/-! ### 79 loop.example/g01984/laws.szIntS -/
noncomputable def c79 : Cfg := cfg Try.prog [(79, 999, [4])] [] [] [] []
def q79 (a0 : List AV) (a1 : Int) : Bool := true
def v79_0 (a0 : List AV) (a1 : Int) : Int := (bif decide (IntKind.i64.wrap (a1 - (a0.length : Int)) < 0) then (-1) else IntKind.i64.wrap (a1 - (a0.length : Int)))
theorem e79 (a0 : List AV) (a1 : Int) : funA c79 0 79 [AV.sl [.int .i64] a0, AV.int .i64 a1] = (bif decide (IntKind.i64.wrap (a1 - (a0.length : Int)) < 0) then some (AV.int .i64 (-1))
  else some (AV.int .i64 (IntKind.i64.wrap (a1 - (a0.length : Int))))) := by kernel_rfl
theorem r79 (a0 : List AV) (a1 : Int) : funA c79 0 79 [AV.sl [.int .i64] a0, AV.int .i64 a1] = some (AV.int .i64 (v79_0 a0 a1)) := (e79 a0 a1).trans (of_tt (brT (fun b => some (AV.int .i64 (bif b then (-1) else IntKind.i64.wrap (a1 - (a0.length : Int))))) (fun _ => rfl) (fun _ => rfl)))
def m79 : TModel
  | [.sl g0 a0, .int .i64 a1] => bif ctsEq g0 ([.int .i64]) then some (true, AV.int .i64 (v79_0 a0 a1)) else none
  | _ => none
theorem k79 : Known Try.prog 79 := ⟨Try.f79, Try.func79, by kernel_rfl, by kernel_rfl⟩
theorem meets79 : Meets Try.prog 79 m79 := by
  refine meet (f := Try.f79) (l := []) (hs := [(79, 999, [4])]) (ts := []) (ws := []) (is := []) (ls := []) (lvl := 0) mixed k79 Try.func79 (by kernel_rfl) noLoop allT_nil allM_nil noI fun w xs us r hl hv h => ?_
  unfold m79 at h
  split at h
  · rename_i g0 a0 a1
    obtain ⟨hg, h⟩ := bif_pair h
    have q0 := hg
    obtain rfl := ctsEq_eq _ _ q0
    obtain ⟨h1, rfl⟩ := pair_inj h
    exact r79 a0 a1
  · cases h

/-! ### 88 loop.example/g01984/laws.szPivotS -/
noncomputable def c88 : Cfg := cfg Try.prog [(88, 999, [4])] [] [] [] []
def q88 (a0 : List AV) (a1 : Int) : Bool := true
def v88_0 (a0 : List AV) (a1 : Int) : Int := (bif decide (IntKind.i64.wrap (a1 - (a0.length : Int)) < 0) then (-1) else IntKind.i64.wrap (a1 - (a0.length : Int)))
theorem e88 (a0 : List AV) (a1 : Int) : funA c88 0 88 [AV.sl [.int .i64, .int .i64] a0, AV.int .i64 a1] = (bif decide (IntKind.i64.wrap (a1 - (a0.length : Int)) < 0) then some (AV.int .i64 (-1))
  else some (AV.int .i64 (IntKind.i64.wrap (a1 - (a0.length : Int))))) := by kernel_rfl
theorem r88 (a0 : List AV) (a1 : Int) : funA c88 0 88 [AV.sl [.int .i64, .int .i64] a0, AV.int .i64 a1] = some (AV.int .i64 (v88_0 a0 a1)) := (e88 a0 a1).trans (of_tt (brT (fun b => some (AV.int .i64 (bif b then (-1) else IntKind.i64.wrap (a1 - (a0.length : Int))))) (fun _ => rfl) (fun _ => rfl)))
def m88 : TModel
  | [.sl g0 a0, .int .i64 a1] => bif ctsEq g0 ([.int .i64, .int .i64]) then some (true, AV.int .i64 (v88_0 a0 a1)) else none
  | _ => none
theorem k88 : Known Try.prog 88 := ⟨Try.f88, Try.func88, by kernel_rfl, by kernel_rfl⟩
theorem meets88 : Meets Try.prog 88 m88 := by
  refine meet (f := Try.f88) (l := []) (hs := [(88, 999, [4])]) (ts := []) (ws := []) (is := []) (ls := []) (lvl := 0) mixed k88 Try.func88 (by kernel_rfl) noLoop allT_nil allM_nil noI fun w xs us r hl hv h => ?_
  unfold m88 at h
  split at h
  · rename_i g0 a0 a1
    obtain ⟨hg, h⟩ := bif_pair h
    have q0 := hg
    obtain rfl := ctsEq_eq _ _ q0
    obtain ⟨h1, rfl⟩ := pair_inj h
    exact r88 a0 a1
  · cases h

/-! ### 36 loop.example/g01984/laws.szCracker -/
noncomputable def c36 : Cfg := cfg Try.prog [(36, 999, [4])] [(79, m79), (88, m88)] [] [] []
def q36 (a0_0 : List AV) (a0_1 : List AV) (a0_2 : List AV) (a1 : Int) : Bool := true
def v36_0 (a0_0 : List AV) (a0_1 : List AV) (a0_2 : List AV) (a1 : Int) : Int := (bif decide ((v79_0 a0_0 a1) < 0) then (-1) else (bif decide ((v79_0 a0_1 (v79_0 a0_0 a1)) < 0) then (-1) else (bif decide ((v88_0 a0_2 (v79_0 a0_1 (v79_0 a0_0 a1))) < 0) then (-1) else (v88_0 a0_2 (v79_0 a0_1 (v79_0 a0_0 a1))))))
theorem e36 (a0_0 : List AV) (a0_1 : List AV) (a0_2 : List AV) (a1 : Int) : funA c36 0 36 [AV.agg [AV.sl [.int .i64] a0_0, AV.sl [.int .i64] a0_1, AV.sl [.int .i64, .int .i64] a0_2], AV.int .i64 a1] = (bif decide ((v79_0 a0_0 a1) < 0) then some (AV.int .i64 (-1))
  else (bif decide ((v79_0 a0_1 (v79_0 a0_0 a1)) < 0) then some (AV.int .i64 (-1))
  else (bif decide ((v88_0 a0_2 (v79_0 a0_1 (v79_0 a0_0 a1))) < 0) then some (AV.int .i64 (-1))
  else some (AV.int .i64 (v88_0 a0_2 (v79_0 a0_1 (v79_0 a0_0 a1))))))) := by kernel_rfl
theorem r36 (a0_0 : List AV) (a0_1 : List AV) (a0_2 : List AV) (a1 : Int) : funA c36 0 36 [AV.agg [AV.sl [.int .i64] a0_0, AV.sl [.int .i64] a0_1, AV.sl [.int .i64, .int .i64] a0_2], AV.int .i64 a1] = some (AV.int .i64 (v36_0 a0_0 a0_1 a0_2 a1)) := (e36 a0_0 a0_1 a0_2 a1).trans (of_tt (brT (fun b => some (AV.int .i64 (bif b then (-1) else (bif decide ((v79_0 a0_1 (v79_0 a0_0 a1)) < 0) then (-1) else (bif decide ((v88_0 a0_2 (v79_0 a0_1 (v79_0 a0_0 a1))) < 0) then (-1) else (v88_0 a0_2 (v79_0 a0_1 (v79_0 a0_0 a1)))))))) (fun _ => rfl) (brT (fun b => some (AV.int .i64 (bif b then (-1) else (bif decide ((v88_0 a0_2 (v79_0 a0_1 (v79_0 a0_0 a1))) < 0) then (-1) else (v88_0 a0_2 (v79_0 a0_1 (v79_0 a0_0 a1))))))) (fun _ => rfl) (brT (fun b => some (AV.int .i64 (bif b then (-1) else (v88_0 a0_2 (v79_0 a0_1 (v79_0 a0_0 a1)))))) (fun _ => rfl) (fun _ => rfl)))))
def m36 : TModel
  | [.agg [.sl g0 a0_0, .sl g1 a0_1, .sl g2 a0_2], .int .i64 a1] => bif ctsEq g0 ([.int .i64]) && ctsEq g1 ([.int .i64]) && ctsEq g2 ([.int .i64, .int .i64]) then some (true, AV.int .i64 (v36_0 a0_0 a0_1 a0_2 a1)) else none
  | _ => none
theorem k36 : Known Try.prog 36 := ⟨Try.f36, Try.func36, by kernel_rfl, by kernel_rfl⟩
theorem meets36 : Meets Try.prog 36 m36 := by
  refine meet (f := Try.f36) (l := []) (hs := [(36, 999, [4])]) (ts := [(79, m79), (88, m88)]) (ws := []) (is := []) (ls := []) (lvl := 0) mixed k36 Try.func36 (by kernel_rfl) noLoop (allT_cons meets79 (allT_cons meets88 allT_nil)) allM_nil noI fun w xs us r hl hv h => ?_
  unfold m36 at h
  split at h
  · rename_i g0 a0_0 g1 a0_1 g2 a0_2 a1
    obtain ⟨hg, h⟩ := bif_pair h
    simp only [Bool.and_eq_true] at hg
    obtain ⟨⟨q0, q1⟩, q2⟩ := hg
    obtain rfl := ctsEq_eq _ _ q0
    obtain rfl := ctsEq_eq _ _ q1
    obtain rfl := ctsEq_eq _ _ q2
    obtain ⟨h1, rfl⟩ := pair_inj h
    exact r36 a0_0 a0_1 a0_2 a1
  · cases h

/-! ### 105 loop.example/g01984/laws.szWorker -/
noncomputable def c105 : Cfg := cfg Try.prog [(105, 999, [4])] [(79, m79)] [] [] []
def q105 (a0_0 : List AV) (a0_1 : Int) (a0_2 : Bool) (a0_3 : Int) (a0_4 : Int) (a0_5 : Int) (a0_6 : Int) (a0_7 : Int) (a0_8 : Int) (a1 : Int) : Bool := true
def v105_0 (a0_0 : List AV) (a0_1 : Int) (a0_2 : Bool) (a0_3 : Int) (a0_4 : Int) (a0_5 : Int) (a0_6 : Int) (a0_7 : Int) (a0_8 : Int) (a1 : Int) : Int := (bif decide ((v79_0 a0_0 a1) < 0) then (-1) else (v79_0 a0_0 a1))
theorem e105 (a0_0 : List AV) (a0_1 : Int) (a0_2 : Bool) (a0_3 : Int) (a0_4 : Int) (a0_5 : Int) (a0_6 : Int) (a0_7 : Int) (a0_8 : Int) (a1 : Int) : funA c105 0 105 [AV.agg [AV.sl [.int .i64] a0_0, AV.int .i64 a0_1, AV.bool a0_2, AV.int .i64 a0_3, AV.int .i64 a0_4, AV.int .i64 a0_5, AV.int .i64 a0_6, AV.int .i64 a0_7, AV.int .i64 a0_8], AV.int .i64 a1] = (bif decide ((v79_0 a0_0 a1) < 0) then some (AV.int .i64 (-1))
  else some (AV.int .i64 (v79_0 a0_0 a1))) := by kernel_rfl
theorem r105 (a0_0 : List AV) (a0_1 : Int) (a0_2 : Bool) (a0_3 : Int) (a0_4 : Int) (a0_5 : Int) (a0_6 : Int) (a0_7 : Int) (a0_8 : Int) (a1 : Int) : funA c105 0 105 [AV.agg [AV.sl [.int .i64] a0_0, AV.int .i64 a0_1, AV.bool a0_2, AV.int .i64 a0_3, AV.int .i64 a0_4, AV.int .i64 a0_5, AV.int .i64 a0_6, AV.int .i64 a0_7, AV.int .i64 a0_8], AV.int .i64 a1] = some (AV.int .i64 (v105_0 a0_0 a0_1 a0_2 a0_3 a0_4 a0_5 a0_6 a0_7 a0_8 a1)) := (e105 a0_0 a0_1 a0_2 a0_3 a0_4 a0_5 a0_6 a0_7 a0_8 a1).trans (of_tt (brT (fun b => some (AV.int .i64 (bif b then (-1) else (v79_0 a0_0 a1)))) (fun _ => rfl) (fun _ => rfl)))
def m105 : TModel
  | [.agg [.sl g0 a0_0, .int .i64 a0_1, .bool a0_2, .int .i64 a0_3, .int .i64 a0_4, .int .i64 a0_5, .int .i64 a0_6, .int .i64 a0_7, .int .i64 a0_8], .int .i64 a1] => bif ctsEq g0 ([.int .i64]) then some (true, AV.int .i64 (v105_0 a0_0 a0_1 a0_2 a0_3 a0_4 a0_5 a0_6 a0_7 a0_8 a1)) else none
  | _ => none
theorem k105 : Known Try.prog 105 := ⟨Try.f105, Try.func105, by kernel_rfl, by kernel_rfl⟩
theorem meets105 : Meets Try.prog 105 m105 := by
  refine meet (f := Try.f105) (l := []) (hs := [(105, 999, [4])]) (ts := [(79, m79)]) (ws := []) (is := []) (ls := []) (lvl := 0) mixed k105 Try.func105 (by kernel_rfl) noLoop (allT_cons meets79 allT_nil) allM_nil noI fun w xs us r hl hv h => ?_
  unfold m105 at h
  split at h
  · rename_i g0 a0_0 a0_1 a0_2 a0_3 a0_4 a0_5 a0_6 a0_7 a0_8 a1
    obtain ⟨hg, h⟩ := bif_pair h
    have q0 := hg
    obtain rfl := ctsEq_eq _ _ q0
    obtain ⟨h1, rfl⟩ := pair_inj h
    exact r105 a0_0 a0_1 a0_2 a0_3 a0_4 a0_5 a0_6 a0_7 a0_8 a1
  · cases h

/-! ### 57 loop.example/g01984/laws.szWorkerS -/
def F57_0 (t0 : List AV) (t1 : Int) (t5 : Int) : Out ((Int × Int)) (Int ⊕ Unit) := (bif decide (t5 < (t0.length : Int)) then (bif (decide (0 ≤ t5) && decide (t5 < (t0.length : Int))) then (bif decide ((v105_0 (fL (t0.getD t5.toNat AV.undef) 0) (fI (t0.getD t5.toNat AV.undef) 1) (fB (t0.getD t5.toNat AV.undef) 2) (fI (t0.getD t5.toNat AV.undef) 3) (fI (t0.getD t5.toNat AV.undef) 4) (fI (t0.getD t5.toNat AV.undef) 5) (fI (t0.getD t5.toNat AV.undef) 6) (fI (t0.getD t5.toNat AV.undef) 7) (fI (t0.getD t5.toNat AV.undef) 8) t1) < 0) then .stop (.inr ())
  else .next ((v105_0 (fL (t0.getD t5.toNat AV.undef) 0) (fI (t0.getD t5.toNat AV.undef) 1) (fB (t0.getD t5.toNat AV.undef) 2) (fI (t0.getD t5.toNat AV.undef) 3) (fI (t0.getD t5.toNat AV.undef) 4) (fI (t0.getD t5.toNat AV.undef) 5) (fI (t0.getD t5.toNat AV.undef) 6) (fI (t0.getD t5.toNat AV.undef) 7) (fI (t0.getD t5.toNat AV.undef) 8) t1), IntKind.i64.wrap (t5 + 1)))
  else .fail)
  else .stop (.inl t1))
def R57_0 (t0 : List AV) : ((Int × Int)) → Out ((Int × Int)) (Int ⊕ Unit) := fun s : Int × Int => F57_0 t0 s.1 s.2
def l57_0 : LModel := fun _ _ st k => match st with
  | ⟨[(0, .sl g0 t0), (1, .int .i64 t1), (5, .int .i64 t5)], []⟩ => bif ctsEq g0 ([.sl [.int .i64], .int .i64, .bool, .int .i64, .int .i64, .int .i64, .int .i64, .int .i64, .int .i64]) then ro (runW (R57_0 t0) (((t0.length : Int) - t5).toNat + 1) (t1, t5)) none (sumE (fun p : Int => k (.exit 0) ⟨[(1, AV.int .i64 p)], []⟩) (fun _ : Unit => k .ret ⟨[(4, AV.int .i64 (-1))], []⟩)) else none
  | _ => none
noncomputable def c57 : Cfg := cfg Try.prog [(57, 0, [0, 1, 5]), (57, 999, [4]), (57, 1000, [1]), (57, 1001, [0, 1, 5])] [(105, m105)] [] [] [(57, 0, l57_0)]
theorem s57_0 (ce : CallE) (t0 : List AV) (t1 : Int) (t5 : Int) (next : St → Option AV) (k : Kont) : stepA (codeA c57 ce [] 57 0 (sub [1, 1, 1, 0, 1, 0, 0] (body Try.f57))) (normA [] [0, 1, 5]) next ⟨[(0, AV.sl [.sl [.int .i64], .int .i64, .bool, .int .i64, .int .i64, .int .i64, .int .i64, .int .i64, .int .i64] t0), (1, AV.int .i64 t1), (5, AV.int .i64 t5)], []⟩ k = (bif decide (t5 < (t0.length : Int)) then (bif (decide (0 ≤ t5) && decide (t5 < (t0.length : Int))) then (bif decide ((v105_0 (fL (t0.getD t5.toNat AV.undef) 0) (fI (t0.getD t5.toNat AV.undef) 1) (fB (t0.getD t5.toNat AV.undef) 2) (fI (t0.getD t5.toNat AV.undef) 3) (fI (t0.getD t5.toNat AV.undef) 4) (fI (t0.getD t5.toNat AV.undef) 5) (fI (t0.getD t5.toNat AV.undef) 6) (fI (t0.getD t5.toNat AV.undef) 7) (fI (t0.getD t5.toNat AV.undef) 8) t1) < 0) then k .ret ⟨[(4, AV.int .i64 (-1))], []⟩
  else next ⟨[(0, AV.sl [.sl [.int .i64], .int .i64, .bool, .int .i64, .int .i64, .int .i64, .int .i64, .int .i64, .int .i64] t0), (1, AV.int .i64 (v105_0 (fL (t0.getD t5.toNat AV.undef) 0) (fI (t0.getD t5.toNat AV.undef) 1) (fB (t0.getD t5.toNat AV.undef) 2) (fI (t0.getD t5.toNat AV.undef) 3) (fI (t0.getD t5.toNat AV.undef) 4) (fI (t0.getD t5.toNat AV.undef) 5) (fI (t0.getD t5.toNat AV.undef) 6) (fI (t0.getD t5.toNat AV.undef) 7) (fI (t0.getD t5.toNat AV.undef) 8) t1)), (5, AV.int .i64 (IntKind.i64.wrap (t5 + 1)))], []⟩)
  else none)
  else k (.exit 0) ⟨[(1, AV.int .i64 t1)], []⟩) := by kernel_rfl
theorem st57_0 (t0 : List AV) (ce : CallE) (k : Kont) (s : (Int × Int)) (next : St → Option AV) : stepA (codeA c57 ce [] 57 0 (sub [1, 1, 1, 0, 1, 0, 0] (body Try.f57))) (normA [] [0, 1, 5]) next ((fun s : Int × Int => ⟨[(0, AV.sl [.sl [.int .i64], .int .i64, .bool, .int .i64, .int .i64, .int .i64, .int .i64, .int .i64, .int .i64] t0), (1, AV.int .i64 s.1), (5, AV.int .i64 s.2)], []⟩) s) k = (R57_0 t0 s).el none (fun s => next ((fun s : Int × Int => ⟨[(0, AV.sl [.sl [.int .i64], .int .i64, .bool, .int .i64, .int .i64, .int .i64, .int .i64, .int .i64, .int .i64] t0), (1, AV.int .i64 s.1), (5, AV.int .i64 s.2)], []⟩) s)) (sumE (fun p : Int => k (.exit 0) ⟨[(1, AV.int .i64 p)], []⟩) (fun _ : Unit => k .ret ⟨[(4, AV.int .i64 (-1))], []⟩)) := (s57_0 ce t0 s.1 s.2 next k).trans (by unfold R57_0; unfold F57_0; simp only [el_cond, el_ro, el_sum, el_fail, el_next, el_stop] <;> rfl)
theorem ok57_0 {ce : CallE} : LoopOK c57 ce [] 57 0 (sub [1, 1, 1, 0, 1, 0, 0] (body Try.f57)) := by
  intro m hm st k r h
  obtain rfl : l57_0 = m := Option.some.inj hm
  unfold l57_0 at h
  split at h
  · rename_i g0 t0 t1 t5
    obtain ⟨hg, h⟩ := bif_some h
    have q0 := hg
    obtain rfl := ctsEq_eq _ _ q0
    refine ⟨(((t0.length : Int) - t5).toNat + 1), ?_⟩
    rw [← h]
    exact loop_run (fun s : Int × Int => ⟨[(0, AV.sl [.sl [.int .i64], .int .i64, .bool, .int .i64, .int .i64, .int .i64, .int .i64, .int .i64, .int .i64] t0), (1, AV.int .i64 s.1), (5, AV.int .i64 s.2)], []⟩) (sumE (fun p : Int => k (.exit 0) ⟨[(1, AV.int .i64 p)], []⟩) (fun _ : Unit => k .ret ⟨[(4, AV.int .i64 (-1))], []⟩)) (st57_0 t0 ce k) _ (t1, t5)
  · cases h
def q57 (a0 : List AV) (a1 : Int) : Bool := (bif decide (IntKind.i64.wrap (a1 - (a0.length : Int)) < 0) then true else (ro (runW (R57_0 a0) (((a0.length : Int) - 0).toNat + 1) (IntKind.i64.wrap (a1 - (a0.length : Int)), 0)) false (sumE (fun p1 => true) (fun _ => true))))
def v57_0 (a0 : List AV) (a1 : Int) : Int := (bif decide (IntKind.i64.wrap (a1 - (a0.length : Int)) < 0) then (-1) else (ro (runW (R57_0 a0) (((a0.length : Int) - 0).toNat + 1) (IntKind.i64.wrap (a1 - (a0.length : Int)), 0)) 0 (sumE (fun p1 => p1) (fun _ => (-1)))))
theorem e57 (a0 : List AV) (a1 : Int) : funA c57 0 57 [AV.sl [.sl [.int .i64], .int .i64, .bool, .int .i64, .int .i64, .int .i64, .int .i64, .int .i64, .int .i64] a0, AV.int .i64 a1] = (bif decide (IntKind.i64.wrap (a1 - (a0.length : Int)) < 0) then some (AV.int .i64 (-1))
  else (ro (runW (R57_0 a0) (((a0.length : Int) - 0).toNat + 1) (IntKind.i64.wrap (a1 - (a0.length : Int)), 0)) none (sumE (fun p1 => some (AV.int .i64 p1)) (fun _ => some (AV.int .i64 (-1)))))) := by kernel_rfl
theorem r57 (a0 : List AV) (a1 : Int) (h : q57 a0 a1 = true) : funA c57 0 57 [AV.sl [.sl [.int .i64], .int .i64, .bool, .int .i64, .int .i64, .int .i64, .int .i64, .int .i64, .int .i64] a0, AV.int .i64 a1] = some (AV.int .i64 (v57_0 a0 a1)) := (e57 a0 a1).trans ((br (fun b => some (AV.int .i64 (bif b then (-1) else (ro (runW (R57_0 a0) (((a0.length : Int) - 0).toNat + 1) (IntKind.i64.wrap (a1 - (a0.length : Int)), 0)) 0 (sumE (fun p1 => p1) (fun _ => (-1))))))) (fun _ => rfl) (brO (fun o : Option (Int ⊕ Unit) => some (AV.int .i64 (ro o 0 (sumE (fun p1 => p1) (fun _ => (-1)))))) (brS (fun o : Int ⊕ Unit => some (AV.int .i64 ((sumE (fun p1 => p1) (fun _ => (-1))) o))) (fun p1 => (fun _ => rfl)) (fun _ => (fun _ => rfl))))) h)
def m57 : TModel
  | [.sl g0 a0, .int .i64 a1] => bif ctsEq g0 ([.sl [.int .i64], .int .i64, .bool, .int .i64, .int .i64, .int .i64, .int .i64, .int .i64, .int .i64]) then some (q57 a0 a1, AV.int .i64 (v57_0 a0 a1)) else none
  | _ => none
theorem k57 : Known Try.prog 57 := ⟨Try.f57, Try.func57, by kernel_rfl, by kernel_rfl⟩
theorem meets57 : Meets Try.prog 57 m57 := by
  refine meet (f := Try.f57) (l := [(0, sub [1, 1, 1, 0, 1, 0, 0] (body Try.f57))]) (hs := [(57, 0, [0, 1, 5]), (57, 999, [4]), (57, 1000, [1]), (57, 1001, [0, 1, 5])]) (ts := [(105, m105)]) (ws := []) (is := []) (ls := [(57, 0, l57_0)]) (lvl := 0) mixed k57 Try.func57 (by kernel_rfl) (loops_cons ok57_0 noLoop) (allT_cons meets105 allT_nil) allM_nil noI fun w xs us r hl hv h => ?_
  unfold m57 at h
  split at h
  · rename_i g0 a0 a1
    obtain ⟨hg, h⟩ := bif_pair h
    have q0 := hg
    obtain rfl := ctsEq_eq _ _ q0
    obtain ⟨h1, rfl⟩ := pair_inj h
    exact r57 a0 a1 h1
  · cases h

/-! ### 14 loop.example/g01984/laws.szBoard -/
noncomputable def c14 : Cfg := cfg Try.prog [(14, 999, [4])] [(36, m36), (57, m57)] [] [] []
def q14 (a0_0 : List AV) (a0_1 : List AV) (a0_2 : List AV) (a0_3 : List AV) (a0_4 : Int) (a1 : Int) : Bool := (bif decide ((v36_0 a0_0 a0_1 a0_2 a1) < 0) then true else q57 a0_3 (v36_0 a0_0 a0_1 a0_2 a1))
def v14_0 (a0_0 : List AV) (a0_1 : List AV) (a0_2 : List AV) (a0_3 : List AV) (a0_4 : Int) (a1 : Int) : Int := (bif decide ((v36_0 a0_0 a0_1 a0_2 a1) < 0) then (-1) else (bif decide ((v57_0 a0_3 (v36_0 a0_0 a0_1 a0_2 a1)) < 0) then (-1) else (v57_0 a0_3 (v36_0 a0_0 a0_1 a0_2 a1))))
theorem e14 (a0_0 : List AV) (a0_1 : List AV) (a0_2 : List AV) (a0_3 : List AV) (a0_4 : Int) (a1 : Int) : funA c14 0 14 [AV.agg [AV.sl [.int .i64] a0_0, AV.sl [.int .i64] a0_1, AV.sl [.int .i64, .int .i64] a0_2, AV.sl [.sl [.int .i64], .int .i64, .bool, .int .i64, .int .i64, .int .i64, .int .i64, .int .i64, .int .i64] a0_3, AV.int .i64 a0_4], AV.int .i64 a1] = (bif decide ((v36_0 a0_0 a0_1 a0_2 a1) < 0) then some (AV.int .i64 (-1))
  else (bif q57 a0_3 (v36_0 a0_0 a0_1 a0_2 a1) then (bif decide ((v57_0 a0_3 (v36_0 a0_0 a0_1 a0_2 a1)) < 0) then some (AV.int .i64 (-1))
  else some (AV.int .i64 (v57_0 a0_3 (v36_0 a0_0 a0_1 a0_2 a1))))
  else none)) := by kernel_rfl
theorem r14 (a0_0 : List AV) (a0_1 : List AV) (a0_2 : List AV) (a0_3 : List AV) (a0_4 : Int) (a1 : Int) (h : q14 a0_0 a0_1 a0_2 a0_3 a0_4 a1 = true) : funA c14 0 14 [AV.agg [AV.sl [.int .i64] a0_0, AV.sl [.int .i64] a0_1, AV.sl [.int .i64, .int .i64] a0_2, AV.sl [.sl [.int .i64], .int .i64, .bool, .int .i64, .int .i64, .int .i64, .int .i64, .int .i64, .int .i64] a0_3, AV.int .i64 a0_4], AV.int .i64 a1] = some (AV.int .i64 (v14_0 a0_0 a0_1 a0_2 a0_3 a0_4 a1)) := (e14 a0_0 a0_1 a0_2 a0_3 a0_4 a1).trans ((br (fun b => some (AV.int .i64 (bif b then (-1) else (bif decide ((v57_0 a0_3 (v36_0 a0_0 a0_1 a0_2 a1)) < 0) then (-1) else (v57_0 a0_3 (v36_0 a0_0 a0_1 a0_2 a1)))))) (fun _ => rfl) (brL1 (brT (fun b => some (AV.int .i64 (bif b then (-1) else (v57_0 a0_3 (v36_0 a0_0 a0_1 a0_2 a1))))) (fun _ => rfl) (fun _ => rfl)))) h)
def m14 : TModel
  | [.agg [.sl g0 a0_0, .sl g1 a0_1, .sl g2 a0_2, .sl g3 a0_3, .int .i64 a0_4], .int .i64 a1] => bif ctsEq g0 ([.int .i64]) && ctsEq g1 ([.int .i64]) && ctsEq g2 ([.int .i64, .int .i64]) && ctsEq g3 ([.sl [.int .i64], .int .i64, .bool, .int .i64, .int .i64, .int .i64, .int .i64, .int .i64, .int .i64]) then some (q14 a0_0 a0_1 a0_2 a0_3 a0_4 a1, AV.int .i64 (v14_0 a0_0 a0_1 a0_2 a0_3 a0_4 a1)) else none
  | _ => none
theorem k14 : Known Try.prog 14 := ⟨Try.f14, Try.func14, by kernel_rfl, by kernel_rfl⟩
theorem meets14 : Meets Try.prog 14 m14 := by
  refine meet (f := Try.f14) (l := []) (hs := [(14, 999, [4])]) (ts := [(36, m36), (57, m57)]) (ws := []) (is := []) (ls := []) (lvl := 0) mixed k14 Try.func14 (by kernel_rfl) noLoop (allT_cons meets36 (allT_cons meets57 allT_nil)) allM_nil noI fun w xs us r hl hv h => ?_
  unfold m14 at h
  split at h
  · rename_i g0 a0_0 g1 a0_1 g2 a0_2 g3 a0_3 a0_4 a1
    obtain ⟨hg, h⟩ := bif_pair h
    simp only [Bool.and_eq_true] at hg
    obtain ⟨⟨⟨q0, q1⟩, q2⟩, q3⟩ := hg
    obtain rfl := ctsEq_eq _ _ q0
    obtain rfl := ctsEq_eq _ _ q1
    obtain rfl := ctsEq_eq _ _ q2
    obtain rfl := ctsEq_eq _ _ q3
    obtain ⟨h1, rfl⟩ := pair_inj h
    exact r14 a0_0 a0_1 a0_2 a0_3 a0_4 a1 h1
  · cases h

/-! ### 27 loop.example/g01984/laws.toIntS -/
def F27_0 (t0 : List AV) (t4 : Int) (h0 : List AV) : Out ((Int × (List AV))) (((List AV))) := (bif decide (t4 < (t0.length : Int)) then (bif (decide (0 ≤ t4) && decide (t4 < (t0.length : Int))) then (bif (decide (0 ≤ t4) && decide (t4 < (h0.length : Int))) then .next (IntKind.i64.wrap (t4 + 1), h0.set t4.toNat (AV.agg [AV.int .i64 (fI (t0.getD t4.toNat AV.undef) 0)]))
  else .fail)
  else .fail)
  else .stop h0)
def R27_0 (t0 : List AV) : ((Int × (List AV))) → Out ((Int × (List AV))) (((List AV))) := fun s : Int × (List AV) => F27_0 t0 s.1 s.2
def l27_0 : LModel := fun _ _ st k => match st with
  | ⟨[(0, .sl g0 t0), (3, .own g1), (4, .int .i64 t4)], [(g2, ⟨false, g3, h0⟩)]⟩ => bif ctsEq g0 ([.int .i64]) && nmEq g1 ([0, 3]) && nmEq g2 ([0, 3]) && ctsEq g3 ([.int .i64]) then ro (runW (R27_0 t0) (((t0.length : Int) - t4).toNat + 1) (t4, h0)) none (fun p : (List AV) => k (.exit 0) ⟨[(3, AV.own [0, 3])], [([0, 3], ⟨false, [.int .i64], p⟩)]⟩) else none
  | _ => none
noncomputable def c27 : Cfg := cfg Try.prog [(27, 0, [0, 3, 4]), (27, 999, [2]), (27, 1000, [3]), (27, 1001, [0, 3, 4])] [] [] [] [(27, 0, l27_0)]
theorem s27_0 (ce : CallE) (t0 : List AV) (t4 : Int) (h0 : List AV) (next : St → Option AV) (k : Kont) : stepA (codeA c27 ce [] 27 0 (sub [1, 1, 0, 1, 0, 0] (body Try.f27))) (normA [] [0, 3, 4]) next ⟨[(0, AV.sl [.int .i64] t0), (3, AV.own [0, 3]), (4, AV.int .i64 t4)], [([0, 3], ⟨false, [.int .i64], h0⟩)]⟩ k = (bif decide (t4 < (t0.length : Int)) then (bif (decide (0 ≤ t4) && decide (t4 < (t0.length : Int))) then (bif (decide (0 ≤ t4) && decide (t4 < (h0.length : Int))) then next ⟨[(0, AV.sl [.int .i64] t0), (3, AV.own [0, 3]), (4, AV.int .i64 (IntKind.i64.wrap (t4 + 1)))], [([0, 3], ⟨false, [.int .i64], h0.set t4.toNat (AV.agg [AV.int .i64 (fI (t0.getD t4.toNat AV.undef) 0)])⟩)]⟩
  else none)
  else none)
  else k (.exit 0) ⟨[(3, AV.own [0, 3])], [([0, 3], ⟨false, [.int .i64], h0⟩)]⟩) := by kernel_rfl
theorem st27_0 (t0 : List AV) (ce : CallE) (k : Kont) (s : (Int × (List AV))) (next : St → Option AV) : stepA (codeA c27 ce [] 27 0 (sub [1, 1, 0, 1, 0, 0] (body Try.f27))) (normA [] [0, 3, 4]) next ((fun s : Int × (List AV) => ⟨[(0, AV.sl [.int .i64] t0), (3, AV.own [0, 3]), (4, AV.int .i64 s.1)], [([0, 3], ⟨false, [.int .i64], s.2⟩)]⟩) s) k = (R27_0 t0 s).el none (fun s => next ((fun s : Int × (List AV) => ⟨[(0, AV.sl [.int .i64] t0), (3, AV.own [0, 3]), (4, AV.int .i64 s.1)], [([0, 3], ⟨false, [.int .i64], s.2⟩)]⟩) s)) (fun p : (List AV) => k (.exit 0) ⟨[(3, AV.own [0, 3])], [([0, 3], ⟨false, [.int .i64], p⟩)]⟩) := (s27_0 ce t0 s.1 s.2 next k).trans (by unfold R27_0; unfold F27_0; simp only [el_cond, el_ro, el_sum, el_fail, el_next, el_stop] <;> rfl)
theorem ok27_0 {ce : CallE} : LoopOK c27 ce [] 27 0 (sub [1, 1, 0, 1, 0, 0] (body Try.f27)) := by
  intro m hm st k r h
  obtain rfl : l27_0 = m := Option.some.inj hm
  unfold l27_0 at h
  split at h
  · rename_i g0 t0 g1 t4 g2 g3 h0
    obtain ⟨hg, h⟩ := bif_some h
    simp only [Bool.and_eq_true] at hg
    obtain ⟨⟨⟨q0, q1⟩, q2⟩, q3⟩ := hg
    obtain rfl := ctsEq_eq _ _ q0
    obtain rfl := (nmEq_iff _ _).1 q1
    obtain rfl := (nmEq_iff _ _).1 q2
    obtain rfl := ctsEq_eq _ _ q3
    refine ⟨(((t0.length : Int) - t4).toNat + 1), ?_⟩
    rw [← h]
    exact loop_run (fun s : Int × (List AV) => ⟨[(0, AV.sl [.int .i64] t0), (3, AV.own [0, 3]), (4, AV.int .i64 s.1)], [([0, 3], ⟨false, [.int .i64], s.2⟩)]⟩) (fun p : (List AV) => k (.exit 0) ⟨[(3, AV.own [0, 3])], [([0, 3], ⟨false, [.int .i64], p⟩)]⟩) (st27_0 t0 ce k) _ (t4, h0)
  · cases h
def q27 (a0 : List AV) : Bool := ((decide (0 ≤ (a0.length : Int)) && decide ((a0.length : Int) ≤ (a0.length : Int)) && decide ((a0.length : Int) * 8 ≤ 140737488355328) && decide ((a0.length : Int) ≤ 140737488355328)) && (ro (runW (R27_0 a0) (((a0.length : Int) - 0).toNat + 1) (0, List.replicate (Int.toNat (a0.length : Int)) (AV.int .i64 0))) false (fun p3 => true)))
def v27_0 (a0 : List AV) : List AV := (ro (runW (R27_0 a0) (((a0.length : Int) - 0).toNat + 1) (0, List.replicate (Int.toNat (a0.length : Int)) (AV.int .i64 0))) [] (fun p3 => p3))
theorem e27 (a0 : List AV) : funA c27 0 27 [AV.sl [.int .i64] a0] = (bif (decide (0 ≤ (a0.length : Int)) && decide ((a0.length : Int) ≤ (a0.length : Int)) && decide ((a0.length : Int) * 8 ≤ 140737488355328) && decide ((a0.length : Int) ≤ 140737488355328)) then (ro (runW (R27_0 a0) (((a0.length : Int) - 0).toNat + 1) (0, List.replicate (Int.toNat (a0.length : Int)) (AV.int .i64 0))) none (fun p3 => some (AV.fl [.int .i64] p3)))
  else none) := by kernel_rfl
theorem r27 (a0 : List AV) (h : q27 a0 = true) : funA c27 0 27 [AV.sl [.int .i64] a0] = some (AV.fl [.int .i64] (v27_0 a0)) := (e27 a0).trans ((brL (brO (fun o : Option (((List AV))) => some (AV.fl [.int .i64] (ro o [] (fun p3 => p3)))) (fun p3 => (fun _ => rfl)))) h)
def m27 : TModel
  | [.sl g0 a0] => bif ctsEq g0 ([.int .i64]) then some (q27 a0, AV.fl [.int .i64] (v27_0 a0)) else none
  | _ => none
theorem k27 : Known Try.prog 27 := ⟨Try.f27, Try.func27, by kernel_rfl, by kernel_rfl⟩
theorem meets27 : Meets Try.prog 27 m27 := by
  refine meet (f := Try.f27) (l := [(0, sub [1, 1, 0, 1, 0, 0] (body Try.f27))]) (hs := [(27, 0, [0, 3, 4]), (27, 999, [2]), (27, 1000, [3]), (27, 1001, [0, 3, 4])]) (ts := []) (ws := []) (is := []) (ls := [(27, 0, l27_0)]) (lvl := 0) mixed k27 Try.func27 (by kernel_rfl) (loops_cons ok27_0 noLoop) allT_nil allM_nil noI fun w xs us r hl hv h => ?_
  unfold m27 at h
  split at h
  · rename_i g0 a0
    obtain ⟨hg, h⟩ := bif_pair h
    have q0 := hg
    obtain rfl := ctsEq_eq _ _ q0
    obtain ⟨h1, rfl⟩ := pair_inj h
    exact r27 a0 h1
  · cases h

/-! ### 121 loop.example/g01984/laws.toPivot -/
noncomputable def c121 : Cfg := cfg Try.prog [(121, 999, [2])] [] [] [] []
def q121 (a0_0 : Int) (a0_1 : Int) : Bool := true
def v121_0 (a0_0 : Int) (a0_1 : Int) : Int := a0_0
def v121_1 (a0_0 : Int) (a0_1 : Int) : Int := a0_1
theorem e121 (a0_0 : Int) (a0_1 : Int) : funA c121 0 121 [AV.agg [AV.int .i64 a0_0, AV.int .i64 a0_1]] = some (AV.agg [AV.int .i64 a0_0, AV.int .i64 a0_1]) := by kernel_rfl
theorem r121 (a0_0 : Int) (a0_1 : Int) : funA c121 0 121 [AV.agg [AV.int .i64 a0_0, AV.int .i64 a0_1]] = some (AV.agg [AV.int .i64 (v121_0 a0_0 a0_1), AV.int .i64 (v121_1 a0_0 a0_1)]) := (e121 a0_0 a0_1).trans (of_tt (fun _ => rfl))
def m121 : TModel
  | [.agg [.int .i64 a0_0, .int .i64 a0_1]] => some (true, AV.agg [AV.int .i64 (v121_0 a0_0 a0_1), AV.int .i64 (v121_1 a0_0 a0_1)])
  | _ => none
theorem k121 : Known Try.prog 121 := ⟨Try.f121, Try.func121, by kernel_rfl, by kernel_rfl⟩
theorem meets121 : Meets Try.prog 121 m121 := by
  refine meet (f := Try.f121) (l := []) (hs := [(121, 999, [2])]) (ts := []) (ws := []) (is := []) (ls := []) (lvl := 0) mixed k121 Try.func121 (by kernel_rfl) noLoop allT_nil allM_nil noI fun w xs us r hl hv h => ?_
  unfold m121 at h
  split at h
  · rename_i a0_0 a0_1
    obtain ⟨h1, rfl⟩ := pair_inj h
    exact r121 a0_0 a0_1
  · cases h

/-! ### 89 loop.example/g01984/laws.toPivotS -/
def F89_0 (t0 : List AV) (t4 : Int) (h0 : List AV) : Out ((Int × (List AV))) (((List AV))) := (bif decide (t4 < (t0.length : Int)) then (bif (decide (0 ≤ t4) && decide (t4 < (t0.length : Int))) then (bif (decide (0 ≤ t4) && decide (t4 < (h0.length : Int))) then .next (IntKind.i64.wrap (t4 + 1), h0.set t4.toNat (AV.agg [AV.int .i64 (v121_0 (fI (t0.getD t4.toNat AV.undef) 0) (fI (t0.getD t4.toNat AV.undef) 1)), AV.int .i64 (v121_1 (fI (t0.getD t4.toNat AV.undef) 0) (fI (t0.getD t4.toNat AV.undef) 1))]))
  else .fail)
  else .fail)
  else .stop h0)
def R89_0 (t0 : List AV) : ((Int × (List AV))) → Out ((Int × (List AV))) (((List AV))) := fun s : Int × (List AV) => F89_0 t0 s.1 s.2
def l89_0 : LModel := fun _ _ st k => match st with
  | ⟨[(0, .sl g0 t0), (3, .own g1), (4, .int .i64 t4)], [(g2, ⟨false, g3, h0⟩)]⟩ => bif ctsEq g0 ([.int .i64, .int .i64]) && nmEq g1 ([0, 3]) && nmEq g2 ([0, 3]) && ctsEq g3 ([.int .i64, .int .i64]) then ro (runW (R89_0 t0) (((t0.length : Int) - t4).toNat + 1) (t4, h0)) none (fun p : (List AV) => k (.exit 0) ⟨[(3, AV.own [0, 3])], [([0, 3], ⟨false, [.int .i64, .int .i64], p⟩)]⟩) else none
  | _ => none
noncomputable def c89 : Cfg := cfg Try.prog [(89, 0, [0, 3, 4]), (89, 999, [2]), (89, 1000, [3]), (89, 1001, [0, 3, 4])] [(121, m121)] [] [] [(89, 0, l89_0)]
theorem s89_0 (ce : CallE) (t0 : List AV) (t4 : Int) (h0 : List AV) (next : St → Option AV) (k : Kont) : stepA (codeA c89 ce [] 89 0 (sub [1, 1, 0, 1, 0, 0] (body Try.f89))) (normA [] [0, 3, 4]) next ⟨[(0, AV.sl [.int .i64, .int .i64] t0), (3, AV.own [0, 3]), (4, AV.int .i64 t4)], [([0, 3], ⟨false, [.int .i64, .int .i64], h0⟩)]⟩ k = (bif decide (t4 < (t0.length : Int)) then (bif (decide (0 ≤ t4) && decide (t4 < (t0.length : Int))) then (bif (decide (0 ≤ t4) && decide (t4 < (h0.length : Int))) then next ⟨[(0, AV.sl [.int .i64, .int .i64] t0), (3, AV.own [0, 3]), (4, AV.int .i64 (IntKind.i64.wrap (t4 + 1)))], [([0, 3], ⟨false, [.int .i64, .int .i64], h0.set t4.toNat (AV.agg [AV.int .i64 (v121_0 (fI (t0.getD t4.toNat AV.undef) 0) (fI (t0.getD t4.toNat AV.undef) 1)), AV.int .i64 (v121_1 (fI (t0.getD t4.toNat AV.undef) 0) (fI (t0.getD t4.toNat AV.undef) 1))])⟩)]⟩
  else none)
  else none)
  else k (.exit 0) ⟨[(3, AV.own [0, 3])], [([0, 3], ⟨false, [.int .i64, .int .i64], h0⟩)]⟩) := by kernel_rfl
theorem st89_0 (t0 : List AV) (ce : CallE) (k : Kont) (s : (Int × (List AV))) (next : St → Option AV) : stepA (codeA c89 ce [] 89 0 (sub [1, 1, 0, 1, 0, 0] (body Try.f89))) (normA [] [0, 3, 4]) next ((fun s : Int × (List AV) => ⟨[(0, AV.sl [.int .i64, .int .i64] t0), (3, AV.own [0, 3]), (4, AV.int .i64 s.1)], [([0, 3], ⟨false, [.int .i64, .int .i64], s.2⟩)]⟩) s) k = (R89_0 t0 s).el none (fun s => next ((fun s : Int × (List AV) => ⟨[(0, AV.sl [.int .i64, .int .i64] t0), (3, AV.own [0, 3]), (4, AV.int .i64 s.1)], [([0, 3], ⟨false, [.int .i64, .int .i64], s.2⟩)]⟩) s)) (fun p : (List AV) => k (.exit 0) ⟨[(3, AV.own [0, 3])], [([0, 3], ⟨false, [.int .i64, .int .i64], p⟩)]⟩) := (s89_0 ce t0 s.1 s.2 next k).trans (by unfold R89_0; unfold F89_0; simp only [el_cond, el_ro, el_sum, el_fail, el_next, el_stop] <;> rfl)
theorem ok89_0 {ce : CallE} : LoopOK c89 ce [] 89 0 (sub [1, 1, 0, 1, 0, 0] (body Try.f89)) := by
  intro m hm st k r h
  obtain rfl : l89_0 = m := Option.some.inj hm
  unfold l89_0 at h
  split at h
  · rename_i g0 t0 g1 t4 g2 g3 h0
    obtain ⟨hg, h⟩ := bif_some h
    simp only [Bool.and_eq_true] at hg
    obtain ⟨⟨⟨q0, q1⟩, q2⟩, q3⟩ := hg
    obtain rfl := ctsEq_eq _ _ q0
    obtain rfl := (nmEq_iff _ _).1 q1
    obtain rfl := (nmEq_iff _ _).1 q2
    obtain rfl := ctsEq_eq _ _ q3
    refine ⟨(((t0.length : Int) - t4).toNat + 1), ?_⟩
    rw [← h]
    exact loop_run (fun s : Int × (List AV) => ⟨[(0, AV.sl [.int .i64, .int .i64] t0), (3, AV.own [0, 3]), (4, AV.int .i64 s.1)], [([0, 3], ⟨false, [.int .i64, .int .i64], s.2⟩)]⟩) (fun p : (List AV) => k (.exit 0) ⟨[(3, AV.own [0, 3])], [([0, 3], ⟨false, [.int .i64, .int .i64], p⟩)]⟩) (st89_0 t0 ce k) _ (t4, h0)
  · cases h
def q89 (a0 : List AV) : Bool := ((decide (0 ≤ (a0.length : Int)) && decide ((a0.length : Int) ≤ (a0.length : Int)) && decide ((a0.length : Int) * 16 ≤ 140737488355328) && decide ((a0.length : Int) ≤ 140737488355328)) && (ro (runW (R89_0 a0) (((a0.length : Int) - 0).toNat + 1) (0, List.replicate (Int.toNat (a0.length : Int)) (AV.agg [AV.int .i64 0, AV.int .i64 0]))) false (fun p4 => true)))
def v89_0 (a0 : List AV) : List AV := (ro (runW (R89_0 a0) (((a0.length : Int) - 0).toNat + 1) (0, List.replicate (Int.toNat (a0.length : Int)) (AV.agg [AV.int .i64 0, AV.int .i64 0]))) [] (fun p4 => p4))
theorem e89 (a0 : List AV) : funA c89 0 89 [AV.sl [.int .i64, .int .i64] a0] = (bif (decide (0 ≤ (a0.length : Int)) && decide ((a0.length : Int) ≤ (a0.length : Int)) && decide ((a0.length : Int) * 16 ≤ 140737488355328) && decide ((a0.length : Int) ≤ 140737488355328)) then (ro (runW (R89_0 a0) (((a0.length : Int) - 0).toNat + 1) (0, List.replicate (Int.toNat (a0.length : Int)) (AV.agg [AV.int .i64 0, AV.int .i64 0]))) none (fun p4 => some (AV.fl [.int .i64, .int .i64] p4)))
  else none) := by kernel_rfl
theorem r89 (a0 : List AV) (h : q89 a0 = true) : funA c89 0 89 [AV.sl [.int .i64, .int .i64] a0] = some (AV.fl [.int .i64, .int .i64] (v89_0 a0)) := (e89 a0).trans ((brL (brO (fun o : Option (((List AV))) => some (AV.fl [.int .i64, .int .i64] (ro o [] (fun p4 => p4)))) (fun p4 => (fun _ => rfl)))) h)
def m89 : TModel
  | [.sl g0 a0] => bif ctsEq g0 ([.int .i64, .int .i64]) then some (q89 a0, AV.fl [.int .i64, .int .i64] (v89_0 a0)) else none
  | _ => none
theorem k89 : Known Try.prog 89 := ⟨Try.f89, Try.func89, by kernel_rfl, by kernel_rfl⟩
theorem meets89 : Meets Try.prog 89 m89 := by
  refine meet (f := Try.f89) (l := [(0, sub [1, 1, 0, 1, 0, 0] (body Try.f89))]) (hs := [(89, 0, [0, 3, 4]), (89, 999, [2]), (89, 1000, [3]), (89, 1001, [0, 3, 4])]) (ts := [(121, m121)]) (ws := []) (is := []) (ls := [(89, 0, l89_0)]) (lvl := 0) mixed k89 Try.func89 (by kernel_rfl) (loops_cons ok89_0 noLoop) (allT_cons meets121 allT_nil) allM_nil noI fun w xs us r hl hv h => ?_
  unfold m89 at h
  split at h
  · rename_i g0 a0
    obtain ⟨hg, h⟩ := bif_pair h
    have q0 := hg
    obtain rfl := ctsEq_eq _ _ q0
    obtain ⟨h1, rfl⟩ := pair_inj h
    exact r89 a0 h1
  · cases h

/-! ### 38 loop.example/g01984/laws.toCracker -/
noncomputable def c38 : Cfg := cfg Try.prog [(38, 999, [2])] [(27, m27), (89, m89)] [] [] []
def q38 (a0_0 : List AV) (a0_1 : List AV) (a0_2 : List AV) : Bool := (q27 a0_0 && (q27 a0_1 && q89 a0_2))
def v38_0 (a0_0 : List AV) (a0_1 : List AV) (a0_2 : List AV) : List AV := (v27_0 a0_0)
def v38_1 (a0_0 : List AV) (a0_1 : List AV) (a0_2 : List AV) : List AV := (v27_0 a0_1)
def v38_2 (a0_0 : List AV) (a0_1 : List AV) (a0_2 : List AV) : List AV := (v89_0 a0_2)
theorem e38 (a0_0 : List AV) (a0_1 : List AV) (a0_2 : List AV) : funA c38 0 38 [AV.agg [AV.sl [.int .i64] a0_0, AV.sl [.int .i64] a0_1, AV.sl [.int .i64, .int .i64] a0_2]] = (bif q27 a0_0 then (bif q27 a0_1 then (bif q89 a0_2 then some (AV.agg [AV.fl [.int .i64] (v27_0 a0_0), AV.fl [.int .i64] (v27_0 a0_1), AV.fl [.int .i64, .int .i64] (v89_0 a0_2)])
  else none)
  else none)
  else none) := by kernel_rfl
theorem r38 (a0_0 : List AV) (a0_1 : List AV) (a0_2 : List AV) (h : q38 a0_0 a0_1 a0_2 = true) : funA c38 0 38 [AV.agg [AV.sl [.int .i64] a0_0, AV.sl [.int .i64] a0_1, AV.sl [.int .i64, .int .i64] a0_2]] = some (AV.agg [AV.fl [.int .i64] (v38_0 a0_0 a0_1 a0_2), AV.fl [.int .i64] (v38_1 a0_0 a0_1 a0_2), AV.fl [.int .i64, .int .i64] (v38_2 a0_0 a0_1 a0_2)]) := (e38 a0_0 a0_1 a0_2).trans ((brL (brL (brL1 (fun _ => rfl)))) h)
def m38 : TModel
  | [.agg [.sl g0 a0_0, .sl g1 a0_1, .sl g2 a0_2]] => bif ctsEq g0 ([.int .i64]) && ctsEq g1 ([.int .i64]) && ctsEq g2 ([.int .i64, .int .i64]) then some (q38 a0_0 a0_1 a0_2, AV.agg [AV.fl [.int .i64] (v38_0 a0_0 a0_1 a0_2), AV.fl [.int .i64] (v38_1 a0_0 a0_1 a0_2), AV.fl [.int .i64, .int .i64] (v38_2 a0_0 a0_1 a0_2)]) else none
  | _ => none
theorem k38 : Known Try.prog 38 := ⟨Try.f38, Try.func38, by kernel_rfl, by kernel_rfl⟩
theorem meets38 : Meets Try.prog 38 m38 := by
  refine meet (f := Try.f38) (l := []) (hs := [(38, 999, [2])]) (ts := [(27, m27), (89, m89)]) (ws := []) (is := []) (ls := []) (lvl := 0) mixed k38 Try.func38 (by kernel_rfl) noLoop (allT_cons meets27 (allT_cons meets89 allT_nil)) allM_nil noI fun w xs us r hl hv h => ?_
  unfold m38 at h
  split at h
  · rename_i g0 a0_0 g1 a0_1 g2 a0_2
    obtain ⟨hg, h⟩ := bif_pair h
    simp only [Bool.and_eq_true] at hg
    obtain ⟨⟨q0, q1⟩, q2⟩ := hg
    obtain rfl := ctsEq_eq _ _ q0
    obtain rfl := ctsEq_eq _ _ q1
    obtain rfl := ctsEq_eq _ _ q2
    obtain ⟨h1, rfl⟩ := pair_inj h
    exact r38 a0_0 a0_1 a0_2 h1
  · cases h

/-! ### 107 loop.example/g01984/laws.toWorker -/
noncomputable def c107 : Cfg := cfg Try.prog [(107, 999, [2])] [(27, m27)] [] [] []
def q107 (a0_0 : List AV) (a0_1 : Int) (a0_2 : Bool) (a0_3 : Int) (a0_4 : Int) (a0_5 : Int) (a0_6 : Int) (a0_7 : Int) (a0_8 : Int) : Bool := q27 a0_0
def v107_0 (a0_0 : List AV) (a0_1 : Int) (a0_2 : Bool) (a0_3 : Int) (a0_4 : Int) (a0_5 : Int) (a0_6 : Int) (a0_7 : Int) (a0_8 : Int) : List AV := (v27_0 a0_0)
def v107_1 (a0_0 : List AV) (a0_1 : Int) (a0_2 : Bool) (a0_3 : Int) (a0_4 : Int) (a0_5 : Int) (a0_6 : Int) (a0_7 : Int) (a0_8 : Int) : Int := a0_1
def v107_2 (a0_0 : List AV) (a0_1 : Int) (a0_2 : Bool) (a0_3 : Int) (a0_4 : Int) (a0_5 : Int) (a0_6 : Int) (a0_7 : Int) (a0_8 : Int) : Bool := a0_2
def v107_3 (a0_0 : List AV) (a0_1 : Int) (a0_2 : Bool) (a0_3 : Int) (a0_4 : Int) (a0_5 : Int) (a0_6 : Int) (a0_7 : Int) (a0_8 : Int) : Int := a0_3
def v107_4 (a0_0 : List AV) (a0_1 : Int) (a0_2 : Bool) (a0_3 : Int) (a0_4 : Int) (a0_5 : Int) (a0_6 : Int) (a0_7 : Int) (a0_8 : Int) : Int := a0_4
def v107_5 (a0_0 : List AV) (a0_1 : Int) (a0_2 : Bool) (a0_3 : Int) (a0_4 : Int) (a0_5 : Int) (a0_6 : Int) (a0_7 : Int) (a0_8 : Int) : Int := a0_5
def v107_6 (a0_0 : List AV) (a0_1 : Int) (a0_2 : Bool) (a0_3 : Int) (a0_4 : Int) (a0_5 : Int) (a0_6 : Int) (a0_7 : Int) (a0_8 : Int) : Int := a0_6
def v107_7 (a0_0 : List AV) (a0_1 : Int) (a0_2 : Bool) (a0_3 : Int) (a0_4 : Int) (a0_5 : Int) (a0_6 : Int) (a0_7 : Int) (a0_8 : Int) : Int := a0_7
def v107_8 (a0_0 : List AV) (a0_1 : Int) (a0_2 : Bool) (a0_3 : Int) (a0_4 : Int) (a0_5 : Int) (a0_6 : Int) (a0_7 : Int) (a0_8 : Int) : Int := a0_8
theorem e107 (a0_0 : List AV) (a0_1 : Int) (a0_2 : Bool) (a0_3 : Int) (a0_4 : Int) (a0_5 : Int) (a0_6 : Int) (a0_7 : Int) (a0_8 : Int) : funA c107 0 107 [AV.agg [AV.sl [.int .i64] a0_0, AV.int .i64 a0_1, AV.bool a0_2, AV.int .i64 a0_3, AV.int .i64 a0_4, AV.int .i64 a0_5, AV.int .i64 a0_6, AV.int .i64 a0_7, AV.int .i64 a0_8]] = (bif q27 a0_0 then some (AV.agg [AV.fl [.int .i64] (v27_0 a0_0), AV.int .i64 a0_1, AV.bool a0_2, AV.int .i64 a0_3, AV.int .i64 a0_4, AV.int .i64 a0_5, AV.int .i64 a0_6, AV.int .i64 a0_7, AV.int .i64 a0_8])
  else none) := by kernel_rfl
theorem r107 (a0_0 : List AV) (a0_1 : Int) (a0_2 : Bool) (a0_3 : Int) (a0_4 : Int) (a0_5 : Int) (a0_6 : Int) (a0_7 : Int) (a0_8 : Int) (h : q107 a0_0 a0_1 a0_2 a0_3 a0_4 a0_5 a0_6 a0_7 a0_8 = true) : funA c107 0 107 [AV.agg [AV.sl [.int .i64] a0_0, AV.int .i64 a0_1, AV.bool a0_2, AV.int .i64 a0_3, AV.int .i64 a0_4, AV.int .i64 a0_5, AV.int .i64 a0_6, AV.int .i64 a0_7, AV.int .i64 a0_8]] = some (AV.agg [AV.fl [.int .i64] (v107_0 a0_0 a0_1 a0_2 a0_3 a0_4 a0_5 a0_6 a0_7 a0_8), AV.int .i64 (v107_1 a0_0 a0_1 a0_2 a0_3 a0_4 a0_5 a0_6 a0_7 a0_8), AV.bool (v107_2 a0_0 a0_1 a0_2 a0_3 a0_4 a0_5 a0_6 a0_7 a0_8), AV.int .i64 (v107_3 a0_0 a0_1 a0_2 a0_3 a0_4 a0_5 a0_6 a0_7 a0_8), AV.int .i64 (v107_4 a0_0 a0_1 a0_2 a0_3 a0_4 a0_5 a0_6 a0_7 a0_8), AV.int .i64 (v107_5 a0_0 a0_1 a0_2 a0_3 a0_4 a0_5 a0_6 a0_7 a0_8), AV.int .i64 (v107_6 a0_0 a0_1 a0_2 a0_3 a0_4 a0_5 a0_6 a0_7 a0_8), AV.int .i64 (v107_7 a0_0 a0_1 a0_2 a0_3 a0_4 a0_5 a0_6 a0_7 a0_8), AV.int .i64 (v107_8 a0_0 a0_1 a0_2 a0_3 a0_4 a0_5 a0_6 a0_7 a0_8)]) := (e107 a0_0 a0_1 a0_2 a0_3 a0_4 a0_5 a0_6 a0_7 a0_8).trans ((brL1 (fun _ => rfl)) h)
def m107 : TModel
  | [.agg [.sl g0 a0_0, .int .i64 a0_1, .bool a0_2, .int .i64 a0_3, .int .i64 a0_4, .int .i64 a0_5, .int .i64 a0_6, .int .i64 a0_7, .int .i64 a0_8]] => bif ctsEq g0 ([.int .i64]) then some (q107 a0_0 a0_1 a0_2 a0_3 a0_4 a0_5 a0_6 a0_7 a0_8, AV.agg [AV.fl [.int .i64] (v107_0 a0_0 a0_1 a0_2 a0_3 a0_4 a0_5 a0_6 a0_7 a0_8), AV.int .i64 (v107_1 a0_0 a0_1 a0_2 a0_3 a0_4 a0_5 a0_6 a0_7 a0_8), AV.bool (v107_2 a0_0 a0_1 a0_2 a0_3 a0_4 a0_5 a0_6 a0_7 a0_8), AV.int .i64 (v107_3 a0_0 a0_1 a0_2 a0_3 a0_4 a0_5 a0_6 a0_7 a0_8), AV.int .i64 (v107_4 a0_0 a0_1 a0_2 a0_3 a0_4 a0_5 a0_6 a0_7 a0_8), AV.int .i64 (v107_5 a0_0 a0_1 a0_2 a0_3 a0_4 a0_5 a0_6 a0_7 a0_8), AV.int .i64 (v107_6 a0_0 a0_1 a0_2 a0_3 a0_4 a0_5 a0_6 a0_7 a0_8), AV.int .i64 (v107_7 a0_0 a0_1 a0_2 a0_3 a0_4 a0_5 a0_6 a0_7 a0_8), AV.int .i64 (v107_8 a0_0 a0_1 a0_2 a0_3 a0_4 a0_5 a0_6 a0_7 a0_8)]) else none
  | _ => none
theorem k107 : Known Try.prog 107 := ⟨Try.f107, Try.func107, by kernel_rfl, by kernel_rfl⟩
theorem meets107 : Meets Try.prog 107 m107 := by
  refine meet (f := Try.f107) (l := []) (hs := [(107, 999, [2])]) (ts := [(27, m27)]) (ws := []) (is := []) (ls := []) (lvl := 0) mixed k107 Try.func107 (by kernel_rfl) noLoop (allT_cons meets27 allT_nil) allM_nil noI fun w xs us r hl hv h => ?_
  unfold m107 at h
  split at h
  · rename_i g0 a0_0 a0_1 a0_2 a0_3 a0_4 a0_5 a0_6 a0_7 a0_8
    obtain ⟨hg, h⟩ := bif_pair h
    have q0 := hg
    obtain rfl := ctsEq_eq _ _ q0
    obtain ⟨h1, rfl⟩ := pair_inj h
    exact r107 a0_0 a0_1 a0_2 a0_3 a0_4 a0_5 a0_6 a0_7 a0_8 h1
  · cases h

/-! ### 60 loop.example/g01984/laws.toWorkerS -/
def F60_0 (t0 : List AV) (t4 : Int) (h0 : List AV) : Out ((Int × (List AV))) (((List AV))) := (bif decide (t4 < (t0.length : Int)) then (bif (decide (0 ≤ t4) && decide (t4 < (t0.length : Int))) then (bif q107 (fL (t0.getD t4.toNat AV.undef) 0) (fI (t0.getD t4.toNat AV.undef) 1) (fB (t0.getD t4.toNat AV.undef) 2) (fI (t0.getD t4.toNat AV.undef) 3) (fI (t0.getD t4.toNat AV.undef) 4) (fI (t0.getD t4.toNat AV.undef) 5) (fI (t0.getD t4.toNat AV.undef) 6) (fI (t0.getD t4.toNat AV.undef) 7) (fI (t0.getD t4.toNat AV.undef) 8) then (bif (decide (0 ≤ t4) && decide (t4 < (h0.length : Int))) then .next (IntKind.i64.wrap (t4 + 1), h0.set t4.toNat (AV.agg [AV.sl [.int .i64] (v107_0 (fL (t0.getD t4.toNat AV.undef) 0) (fI (t0.getD t4.toNat AV.undef) 1) (fB (t0.getD t4.toNat AV.undef) 2) (fI (t0.getD t4.toNat AV.undef) 3) (fI (t0.getD t4.toNat AV.undef) 4) (fI (t0.getD t4.toNat AV.undef) 5) (fI (t0.getD t4.toNat AV.undef) 6) (fI (t0.getD t4.toNat AV.undef) 7) (fI (t0.getD t4.toNat AV.undef) 8)), AV.int .i64 (v107_1 (fL (t0.getD t4.toNat AV.undef) 0) (fI (t0.getD t4.toNat AV.undef) 1) (fB (t0.getD t4.toNat AV.undef) 2) (fI (t0.getD t4.toNat AV.undef) 3) (fI (t0.getD t4.toNat AV.undef) 4) (fI (t0.getD t4.toNat AV.undef) 5) (fI (t0.getD t4.toNat AV.undef) 6) (fI (t0.getD t4.toNat AV.undef) 7) (fI (t0.getD t4.toNat AV.undef) 8)), AV.bool (v107_2 (fL (t0.getD t4.toNat AV.undef) 0) (fI (t0.getD t4.toNat AV.undef) 1) (fB (t0.getD t4.toNat AV.undef) 2) (fI (t0.getD t4.toNat AV.undef) 3) (fI (t0.getD t4.toNat AV.undef) 4) (fI (t0.getD t4.toNat AV.undef) 5) (fI (t0.getD t4.toNat AV.undef) 6) (fI (t0.getD t4.toNat AV.undef) 7) (fI (t0.getD t4.toNat AV.undef) 8)), AV.int .i64 (v107_3 (fL (t0.getD t4.toNat AV.undef) 0) (fI (t0.getD t4.toNat AV.undef) 1) (fB (t0.getD t4.toNat AV.undef) 2) (fI (t0.getD t4.toNat AV.undef) 3) (fI (t0.getD t4.toNat AV.undef) 4) (fI (t0.getD t4.toNat AV.undef) 5) (fI (t0.getD t4.toNat AV.undef) 6) (fI (t0.getD t4.toNat AV.undef) 7) (fI (t0.getD t4.toNat AV.undef) 8)), AV.int .i64 (v107_4 (fL (t0.getD t4.toNat AV.undef) 0) (fI (t0.getD t4.toNat AV.undef) 1) (fB (t0.getD t4.toNat AV.undef) 2) (fI (t0.getD t4.toNat AV.undef) 3) (fI (t0.getD t4.toNat AV.undef) 4) (fI (t0.getD t4.toNat AV.undef) 5) (fI (t0.getD t4.toNat AV.undef) 6) (fI (t0.getD t4.toNat AV.undef) 7) (fI (t0.getD t4.toNat AV.undef) 8)), AV.int .i64 (v107_5 (fL (t0.getD t4.toNat AV.undef) 0) (fI (t0.getD t4.toNat AV.undef) 1) (fB (t0.getD t4.toNat AV.undef) 2) (fI (t0.getD t4.toNat AV.undef) 3) (fI (t0.getD t4.toNat AV.undef) 4) (fI (t0.getD t4.toNat AV.undef) 5) (fI (t0.getD t4.toNat AV.undef) 6) (fI (t0.getD t4.toNat AV.undef) 7) (fI (t0.getD t4.toNat AV.undef) 8)), AV.int .i64 (v107_6 (fL (t0.getD t4.toNat AV.undef) 0) (fI (t0.getD t4.toNat AV.undef) 1) (fB (t0.getD t4.toNat AV.undef) 2) (fI (t0.getD t4.toNat AV.undef) 3) (fI (t0.getD t4.toNat AV.undef) 4) (fI (t0.getD t4.toNat AV.undef) 5) (fI (t0.getD t4.toNat AV.undef) 6) (fI (t0.getD t4.toNat AV.undef) 7) (fI (t0.getD t4.toNat AV.undef) 8)), AV.int .i64 (v107_7 (fL (t0.getD t4.toNat AV.undef) 0) (fI (t0.getD t4.toNat AV.undef) 1) (fB (t0.getD t4.toNat AV.undef) 2) (fI (t0.getD t4.toNat AV.undef) 3) (fI (t0.getD t4.toNat AV.undef) 4) (fI (t0.getD t4.toNat AV.undef) 5) (fI (t0.getD t4.toNat AV.undef) 6) (fI (t0.getD t4.toNat AV.undef) 7) (fI (t0.getD t4.toNat AV.undef) 8)), AV.int .i64 (v107_8 (fL (t0.getD t4.toNat AV.undef) 0) (fI (t0.getD t4.toNat AV.undef) 1) (fB (t0.getD t4.toNat AV.undef) 2) (fI (t0.getD t4.toNat AV.undef) 3) (fI (t0.getD t4.toNat AV.undef) 4) (fI (t0.getD t4.toNat AV.undef) 5) (fI (t0.getD t4.toNat AV.undef) 6) (fI (t0.getD t4.toNat AV.undef) 7) (fI (t0.getD t4.toNat AV.undef) 8))]))
  else .fail)
  else .fail)
  else .fail)
  else .stop h0)
def R60_0 (t0 : List AV) : ((Int × (List AV))) → Out ((Int × (List AV))) (((List AV))) := fun s : Int × (List AV) => F60_0 t0 s.1 s.2
def l60_0 : LModel := fun _ _ st k => match st with
  | ⟨[(0, .sl g0 t0), (3, .own g1), (4, .int .i64 t4)], [(g2, ⟨false, g3, h0⟩)]⟩ => bif ctsEq g0 ([.sl [.int .i64], .int .i64, .bool, .int .i64, .int .i64, .int .i64, .int .i64, .int .i64, .int .i64]) && nmEq g1 ([0, 3]) && nmEq g2 ([0, 3]) && ctsEq g3 ([.sl [.int .i64], .int .i64, .bool, .int .i64, .int .i64, .int .i64, .int .i64, .int .i64, .int .i64]) then ro (runW (R60_0 t0) (((t0.length : Int) - t4).toNat + 1) (t4, h0)) none (fun p : (List AV) => k (.exit 0) ⟨[(3, AV.own [0, 3])], [([0, 3], ⟨false, [.sl [.int .i64], .int .i64, .bool, .int .i64, .int .i64, .int .i64, .int .i64, .int .i64, .int .i64], p⟩)]⟩) else none
  | _ => none
noncomputable def c60 : Cfg := cfg Try.prog [(60, 0, [0, 3, 4]), (60, 999, [2]), (60, 1000, [3]), (60, 1001, [0, 3, 4])] [(107, m107)] [] [] [(60, 0, l60_0)]
theorem s60_0 (ce : CallE) (t0 : List AV) (t4 : Int) (h0 : List AV) (next : St → Option AV) (k : Kont) : stepA (codeA c60 ce [] 60 0 (sub [1, 1, 0, 1, 0, 0] (body Try.f60))) (normA [] [0, 3, 4]) next ⟨[(0, AV.sl [.sl [.int .i64], .int .i64, .bool, .int .i64, .int .i64, .int .i64, .int .i64, .int .i64, .int .i64] t0), (3, AV.own [0, 3]), (4, AV.int .i64 t4)], [([0, 3], ⟨false, [.sl [.int .i64], .int .i64, .bool, .int .i64, .int .i64, .int .i64, .int .i64, .int .i64, .int .i64], h0⟩)]⟩ k = (bif decide (t4 < (t0.length : Int)) then (bif (decide (0 ≤ t4) && decide (t4 < (t0.length : Int))) then (bif q107 (fL (t0.getD t4.toNat AV.undef) 0) (fI (t0.getD t4.toNat AV.undef) 1) (fB (t0.getD t4.toNat AV.undef) 2) (fI (t0.getD t4.toNat AV.undef) 3) (fI (t0.getD t4.toNat AV.undef) 4) (fI (t0.getD t4.toNat AV.undef) 5) (fI (t0.getD t4.toNat AV.undef) 6) (fI (t0.getD t4.toNat AV.undef) 7) (fI (t0.getD t4.toNat AV.undef) 8) then (bif (decide (0 ≤ t4) && decide (t4 < (h0.length : Int))) then next ⟨[(0, AV.sl [.sl [.int .i64], .int .i64, .bool, .int .i64, .int .i64, .int .i64, .int .i64, .int .i64, .int .i64] t0), (3, AV.own [0, 3]), (4, AV.int .i64 (IntKind.i64.wrap (t4 + 1)))], [([0, 3], ⟨false, [.sl [.int .i64], .int .i64, .bool, .int .i64, .int .i64, .int .i64, .int .i64, .int .i64, .int .i64], h0.set t4.toNat (AV.agg [AV.sl [.int .i64] (v107_0 (fL (t0.getD t4.toNat AV.undef) 0) (fI (t0.getD t4.toNat AV.undef) 1) (fB (t0.getD t4.toNat AV.undef) 2) (fI (t0.getD t4.toNat AV.undef) 3) (fI (t0.getD t4.toNat AV.undef) 4) (fI (t0.getD t4.toNat AV.undef) 5) (fI (t0.getD t4.toNat AV.undef) 6) (fI (t0.getD t4.toNat AV.undef) 7) (fI (t0.getD t4.toNat AV.undef) 8)), AV.int .i64 (v107_1 (fL (t0.getD t4.toNat AV.undef) 0) (fI (t0.getD t4.toNat AV.undef) 1) (fB (t0.getD t4.toNat AV.undef) 2) (fI (t0.getD t4.toNat AV.undef) 3) (fI (t0.getD t4.toNat AV.undef) 4) (fI (t0.getD t4.toNat AV.undef) 5) (fI (t0.getD t4.toNat AV.undef) 6) (fI (t0.getD t4.toNat AV.undef) 7) (fI (t0.getD t4.toNat AV.undef) 8)), AV.bool (v107_2 (fL (t0.getD t4.toNat AV.undef) 0) (fI (t0.getD t4.toNat AV.undef) 1) (fB (t0.getD t4.toNat AV.undef) 2) (fI (t0.getD t4.toNat AV.undef) 3) (fI (t0.getD t4.toNat AV.undef) 4) (fI (t0.getD t4.toNat AV.undef) 5) (fI (t0.getD t4.toNat AV.undef) 6) (fI (t0.getD t4.toNat AV.undef) 7) (fI (t0.getD t4.toNat AV.undef) 8)), AV.int .i64 (v107_3 (fL (t0.getD t4.toNat AV.undef) 0) (fI (t0.getD t4.toNat AV.undef) 1) (fB (t0.getD t4.toNat AV.undef) 2) (fI (t0.getD t4.toNat AV.undef) 3) (fI (t0.getD t4.toNat AV.undef) 4) (fI (t0.getD t4.toNat AV.undef) 5) (fI (t0.getD t4.toNat AV.undef) 6) (fI (t0.getD t4.toNat AV.undef) 7) (fI (t0.getD t4.toNat AV.undef) 8)), AV.int .i64 (v107_4 (fL (t0.getD t4.toNat AV.undef) 0) (fI (t0.getD t4.toNat AV.undef) 1) (fB (t0.getD t4.toNat AV.undef) 2) (fI (t0.getD t4.toNat AV.undef) 3) (fI (t0.getD t4.toNat AV.undef) 4) (fI (t0.getD t4.toNat AV.undef) 5) (fI (t0.getD t4.toNat AV.undef) 6) (fI (t0.getD t4.toNat AV.undef) 7) (fI (t0.getD t4.toNat AV.undef) 8)), AV.int .i64 (v107_5 (fL (t0.getD t4.toNat AV.undef) 0) (fI (t0.getD t4.toNat AV.undef) 1) (fB (t0.getD t4.toNat AV.undef) 2) (fI (t0.getD t4.toNat AV.undef) 3) (fI (t0.getD t4.toNat AV.undef) 4) (fI (t0.getD t4.toNat AV.undef) 5) (fI (t0.getD t4.toNat AV.undef) 6) (fI (t0.getD t4.toNat AV.undef) 7) (fI (t0.getD t4.toNat AV.undef) 8)), AV.int .i64 (v107_6 (fL (t0.getD t4.toNat AV.undef) 0) (fI (t0.getD t4.toNat AV.undef) 1) (fB (t0.getD t4.toNat AV.undef) 2) (fI (t0.getD t4.toNat AV.undef) 3) (fI (t0.getD t4.toNat AV.undef) 4) (fI (t0.getD t4.toNat AV.undef) 5) (fI (t0.getD t4.toNat AV.undef) 6) (fI (t0.getD t4.toNat AV.undef) 7) (fI (t0.getD t4.toNat AV.undef) 8)), AV.int .i64 (v107_7 (fL (t0.getD t4.toNat AV.undef) 0) (fI (t0.getD t4.toNat AV.undef) 1) (fB (t0.getD t4.toNat AV.undef) 2) (fI (t0.getD t4.toNat AV.undef) 3) (fI (t0.getD t4.toNat AV.undef) 4) (fI (t0.getD t4.toNat AV.undef) 5) (fI (t0.getD t4.toNat AV.undef) 6) (fI (t0.getD t4.toNat AV.undef) 7) (fI (t0.getD t4.toNat AV.undef) 8)), AV.int .i64 (v107_8 (fL (t0.getD t4.toNat AV.undef) 0) (fI (t0.getD t4.toNat AV.undef) 1) (fB (t0.getD t4.toNat AV.undef) 2) (fI (t0.getD t4.toNat AV.undef) 3) (fI (t0.getD t4.toNat AV.undef) 4) (fI (t0.getD t4.toNat AV.undef) 5) (fI (t0.getD t4.toNat AV.undef) 6) (fI (t0.getD t4.toNat AV.undef) 7) (fI (t0.getD t4.toNat AV.undef) 8))])⟩)]⟩
  else none)
  else none)
  else none)
  else k (.exit 0) ⟨[(3, AV.own [0, 3])], [([0, 3], ⟨false, [.sl [.int .i64], .int .i64, .bool, .int .i64, .int .i64, .int .i64, .int .i64, .int .i64, .int .i64], h0⟩)]⟩) := by kernel_rfl
theorem st60_0 (t0 : List AV) (ce : CallE) (k : Kont) (s : (Int × (List AV))) (next : St → Option AV) : stepA (codeA c60 ce [] 60 0 (sub [1, 1, 0, 1, 0, 0] (body Try.f60))) (normA [] [0, 3, 4]) next ((fun s : Int × (List AV) => ⟨[(0, AV.sl [.sl [.int .i64], .int .i64, .bool, .int .i64, .int .i64, .int .i64, .int .i64, .int .i64, .int .i64] t0), (3, AV.own [0, 3]), (4, AV.int .i64 s.1)], [([0, 3], ⟨false, [.sl [.int .i64], .int .i64, .bool, .int .i64, .int .i64, .int .i64, .int .i64, .int .i64, .int .i64], s.2⟩)]⟩) s) k = (R60_0 t0 s).el none (fun s => next ((fun s : Int × (List AV) => ⟨[(0, AV.sl [.sl [.int .i64], .int .i64, .bool, .int .i64, .int .i64, .int .i64, .int .i64, .int .i64, .int .i64] t0), (3, AV.own [0, 3]), (4, AV.int .i64 s.1)], [([0, 3], ⟨false, [.sl [.int .i64], .int .i64, .bool, .int .i64, .int .i64, .int .i64, .int .i64, .int .i64, .int .i64], s.2⟩)]⟩) s)) (fun p : (List AV) => k (.exit 0) ⟨[(3, AV.own [0, 3])], [([0, 3], ⟨false, [.sl [.int .i64], .int .i64, .bool, .int .i64, .int .i64, .int .i64, .int .i64, .int .i64, .int .i64], p⟩)]⟩) := (s60_0 ce t0 s.1 s.2 next k).trans (by unfold R60_0; unfold F60_0; simp only [el_cond, el_ro, el_sum, el_fail, el_next, el_stop] <;> rfl)
theorem ok60_0 {ce : CallE} : LoopOK c60 ce [] 60 0 (sub [1, 1, 0, 1, 0, 0] (body Try.f60)) := by
  intro m hm st k r h
  obtain rfl : l60_0 = m := Option.some.inj hm
  unfold l60_0 at h
  split at h
  · rename_i g0 t0 g1 t4 g2 g3 h0
    obtain ⟨hg, h⟩ := bif_some h
    simp only [Bool.and_eq_true] at hg
    obtain ⟨⟨⟨q0, q1⟩, q2⟩, q3⟩ := hg
    obtain rfl := ctsEq_eq _ _ q0
    obtain rfl := (nmEq_iff _ _).1 q1
    obtain rfl := (nmEq_iff _ _).1 q2
    obtain rfl := ctsEq_eq _ _ q3
    refine ⟨(((t0.length : Int) - t4).toNat + 1), ?_⟩
    rw [← h]
    exact loop_run (fun s : Int × (List AV) => ⟨[(0, AV.sl [.sl [.int .i64], .int .i64, .bool, .int .i64, .int .i64, .int .i64, .int .i64, .int .i64, .int .i64] t0), (3, AV.own [0, 3]), (4, AV.int .i64 s.1)], [([0, 3], ⟨false, [.sl [.int .i64], .int .i64, .bool, .int .i64, .int .i64, .int .i64, .int .i64, .int .i64, .int .i64], s.2⟩)]⟩) (fun p : (List AV) => k (.exit 0) ⟨[(3, AV.own [0, 3])], [([0, 3], ⟨false, [.sl [.int .i64], .int .i64, .bool, .int .i64, .int .i64, .int .i64, .int .i64, .int .i64, .int .i64], p⟩)]⟩) (st60_0 t0 ce k) _ (t4, h0)
  · cases h
def q60 (a0 : List AV) : Bool := ((decide (0 ≤ (a0.length : Int)) && decide ((a0.length : Int) ≤ (a0.length : Int)) && decide ((a0.length : Int) * 88 ≤ 140737488355328) && decide ((a0.length : Int) ≤ 140737488355328)) && (ro (runW (R60_0 a0) (((a0.length : Int) - 0).toNat + 1) (0, List.replicate (Int.toNat (a0.length : Int)) (AV.agg [AV.sl [.int .i64] ([] : List AV), AV.int .i64 0, AV.bool false, AV.int .i64 0, AV.int .i64 0, AV.int .i64 0, AV.int .i64 0, AV.int .i64 0, AV.int .i64 0]))) false (fun p5 => true)))
def v60_0 (a0 : List AV) : List AV := (ro (runW (R60_0 a0) (((a0.length : Int) - 0).toNat + 1) (0, List.replicate (Int.toNat (a0.length : Int)) (AV.agg [AV.sl [.int .i64] ([] : List AV), AV.int .i64 0, AV.bool false, AV.int .i64 0, AV.int .i64 0, AV.int .i64 0, AV.int .i64 0, AV.int .i64 0, AV.int .i64 0]))) [] (fun p5 => p5))
theorem e60 (a0 : List AV) : funA c60 0 60 [AV.sl [.sl [.int .i64], .int .i64, .bool, .int .i64, .int .i64, .int .i64, .int .i64, .int .i64, .int .i64] a0] = (bif (decide (0 ≤ (a0.length : Int)) && decide ((a0.length : Int) ≤ (a0.length : Int)) && decide ((a0.length : Int) * 88 ≤ 140737488355328) && decide ((a0.length : Int) ≤ 140737488355328)) then (ro (runW (R60_0 a0) (((a0.length : Int) - 0).toNat + 1) (0, List.replicate (Int.toNat (a0.length : Int)) (AV.agg [AV.sl [.int .i64] ([] : List AV), AV.int .i64 0, AV.bool false, AV.int .i64 0, AV.int .i64 0, AV.int .i64 0, AV.int .i64 0, AV.int .i64 0, AV.int .i64 0]))) none (fun p5 => some (AV.fl [.sl [.int .i64], .int .i64, .bool, .int .i64, .int .i64, .int .i64, .int .i64, .int .i64, .int .i64] p5)))
  else none) := by kernel_rfl
theorem r60 (a0 : List AV) (h : q60 a0 = true) : funA c60 0 60 [AV.sl [.sl [.int .i64], .int .i64, .bool, .int .i64, .int .i64, .int .i64, .int .i64, .int .i64, .int .i64] a0] = some (AV.fl [.sl [.int .i64], .int .i64, .bool, .int .i64, .int .i64, .int .i64, .int .i64, .int .i64, .int .i64] (v60_0 a0)) := (e60 a0).trans ((brL (brO (fun o : Option (((List AV))) => some (AV.fl [.sl [.int .i64], .int .i64, .bool, .int .i64, .int .i64, .int .i64, .int .i64, .int .i64, .int .i64] (ro o [] (fun p5 => p5)))) (fun p5 => (fun _ => rfl)))) h)
def m60 : TModel
  | [.sl g0 a0] => bif ctsEq g0 ([.sl [.int .i64], .int .i64, .bool, .int .i64, .int .i64, .int .i64, .int .i64, .int .i64, .int .i64]) then some (q60 a0, AV.fl [.sl [.int .i64], .int .i64, .bool, .int .i64, .int .i64, .int .i64, .int .i64, .int .i64, .int .i64] (v60_0 a0)) else none
  | _ => none
theorem k60 : Known Try.prog 60 := ⟨Try.f60, Try.func60, by kernel_rfl, by kernel_rfl⟩
theorem meets60 : Meets Try.prog 60 m60 := by
  refine meet (f := Try.f60) (l := [(0, sub [1, 1, 0, 1, 0, 0] (body Try.f60))]) (hs := [(60, 0, [0, 3, 4]), (60, 999, [2]), (60, 1000, [3]), (60, 1001, [0, 3, 4])]) (ts := [(107, m107)]) (ws := []) (is := []) (ls := [(60, 0, l60_0)]) (lvl := 0) mixed k60 Try.func60 (by kernel_rfl) (loops_cons ok60_0 noLoop) (allT_cons meets107 allT_nil) allM_nil noI fun w xs us r hl hv h => ?_
  unfold m60 at h
  split at h
  · rename_i g0 a0
    obtain ⟨hg, h⟩ := bif_pair h
    have q0 := hg
    obtain rfl := ctsEq_eq _ _ q0
    obtain ⟨h1, rfl⟩ := pair_inj h
    exact r60 a0 h1
  · cases h

/-! ### 16 loop.example/g01984/laws.toBoard -/
noncomputable def c16 : Cfg := cfg Try.prog [(16, 999, [2])] [(38, m38), (60, m60)] [] [] []
def q16 (a0_0 : List AV) (a0_1 : List AV) (a0_2 : List AV) (a0_3 : List AV) (a0_4 : Int) : Bool := (q38 a0_0 a0_1 a0_2 && q60 a0_3)
def v16_0 (a0_0 : List AV) (a0_1 : List AV) (a0_2 : List AV) (a0_3 : List AV) (a0_4 : Int) : List AV := (v38_0 a0_0 a0_1 a0_2)
def v16_1 (a0_0 : List AV) (a0_1 : List AV) (a0_2 : List AV) (a0_3 : List AV) (a0_4 : Int) : List AV := (v38_1 a0_0 a0_1 a0_2)
def v16_2 (a0_0 : List AV) (a0_1 : List AV) (a0_2 : List AV) (a0_3 : List AV) (a0_4 : Int) : List AV := (v38_2 a0_0 a0_1 a0_2)
def v16_3 (a0_0 : List AV) (a0_1 : List AV) (a0_2 : List AV) (a0_3 : List AV) (a0_4 : Int) : List AV := (v60_0 a0_3)
def v16_4 (a0_0 : List AV) (a0_1 : List AV) (a0_2 : List AV) (a0_3 : List AV) (a0_4 : Int) : Int := a0_4
theorem e16 (a0_0 : List AV) (a0_1 : List AV) (a0_2 : List AV) (a0_3 : List AV) (a0_4 : Int) : funA c16 0 16 [AV.agg [AV.sl [.int .i64] a0_0, AV.sl [.int .i64] a0_1, AV.sl [.int .i64, .int .i64] a0_2, AV.sl [.sl [.int .i64], .int .i64, .bool, .int .i64, .int .i64, .int .i64, .int .i64, .int .i64, .int .i64] a0_3, AV.int .i64 a0_4]] = (bif q38 a0_0 a0_1 a0_2 then (bif q60 a0_3 then some (AV.agg [AV.fl [.int .i64] (v38_0 a0_0 a0_1 a0_2), AV.fl [.int .i64] (v38_1 a0_0 a0_1 a0_2), AV.fl [.int .i64, .int .i64] (v38_2 a0_0 a0_1 a0_2), AV.fl [.sl [.int .i64], .int .i64, .bool, .int .i64, .int .i64, .int .i64, .int .i64, .int .i64, .int .i64] (v60_0 a0_3), AV.int .i64 a0_4])
  else none)
  else none) := by kernel_rfl
theorem r16 (a0_0 : List AV) (a0_1 : List AV) (a0_2 : List AV) (a0_3 : List AV) (a0_4 : Int) (h : q16 a0_0 a0_1 a0_2 a0_3 a0_4 = true) : funA c16 0 16 [AV.agg [AV.sl [.int .i64] a0_0, AV.sl [.int .i64] a0_1, AV.sl [.int .i64, .int .i64] a0_2, AV.sl [.sl [.int .i64], .int .i64, .bool, .int .i64, .int .i64, .int .i64, .int .i64, .int .i64, .int .i64] a0_3, AV.int .i64 a0_4]] = some (AV.agg [AV.fl [.int .i64] (v16_0 a0_0 a0_1 a0_2 a0_3 a0_4), AV.fl [.int .i64] (v16_1 a0_0 a0_1 a0_2 a0_3 a0_4), AV.fl [.int .i64, .int .i64] (v16_2 a0_0 a0_1 a0_2 a0_3 a0_4), AV.fl [.sl [.int .i64], .int .i64, .bool, .int .i64, .int .i64, .int .i64, .int .i64, .int .i64, .int .i64] (v16_3 a0_0 a0_1 a0_2 a0_3 a0_4), AV.int .i64 (v16_4 a0_0 a0_1 a0_2 a0_3 a0_4)]) := (e16 a0_0 a0_1 a0_2 a0_3 a0_4).trans ((brL (brL1 (fun _ => rfl))) h)
def m16 : TModel
  | [.agg [.sl g0 a0_0, .sl g1 a0_1, .sl g2 a0_2, .sl g3 a0_3, .int .i64 a0_4]] => bif ctsEq g0 ([.int .i64]) && ctsEq g1 ([.int .i64]) && ctsEq g2 ([.int .i64, .int .i64]) && ctsEq g3 ([.sl [.int .i64], .int .i64, .bool, .int .i64, .int .i64, .int .i64, .int .i64, .int .i64, .int .i64]) then some (q16 a0_0 a0_1 a0_2 a0_3 a0_4, AV.agg [AV.fl [.int .i64] (v16_0 a0_0 a0_1 a0_2 a0_3 a0_4), AV.fl [.int .i64] (v16_1 a0_0 a0_1 a0_2 a0_3 a0_4), AV.fl [.int .i64, .int .i64] (v16_2 a0_0 a0_1 a0_2 a0_3 a0_4), AV.fl [.sl [.int .i64], .int .i64, .bool, .int .i64, .int .i64, .int .i64, .int .i64, .int .i64, .int .i64] (v16_3 a0_0 a0_1 a0_2 a0_3 a0_4), AV.int .i64 (v16_4 a0_0 a0_1 a0_2 a0_3 a0_4)]) else none
  | _ => none
theorem k16 : Known Try.prog 16 := ⟨Try.f16, Try.func16, by kernel_rfl, by kernel_rfl⟩
theorem meets16 : Meets Try.prog 16 m16 := by
  refine meet (f := Try.f16) (l := []) (hs := [(16, 999, [2])]) (ts := [(38, m38), (60, m60)]) (ws := []) (is := []) (ls := []) (lvl := 0) mixed k16 Try.func16 (by kernel_rfl) noLoop (allT_cons meets38 (allT_cons meets60 allT_nil)) allM_nil noI fun w xs us r hl hv h => ?_
  unfold m16 at h
  split at h
  · rename_i g0 a0_0 g1 a0_1 g2 a0_2 g3 a0_3 a0_4
    obtain ⟨hg, h⟩ := bif_pair h
    simp only [Bool.and_eq_true] at hg
    obtain ⟨⟨⟨q0, q1⟩, q2⟩, q3⟩ := hg
    obtain rfl := ctsEq_eq _ _ q0
    obtain rfl := ctsEq_eq _ _ q1
    obtain rfl := ctsEq_eq _ _ q2
    obtain rfl := ctsEq_eq _ _ q3
    obtain ⟨h1, rfl⟩ := pair_inj h
    exact r16 a0_0 a0_1 a0_2 a0_3 a0_4 h1
  · cases h

/-! ### 59 loop.example/g01984/spec.l4Ints -/
def F59_0 (t0 : List AV) (t1 : List AV) (t5 : Int) : Out (Int) (Unit ⊕ Unit) := (bif decide (t5 < (t0.length : Int)) then (bif (decide (0 ≤ t5) && decide (t5 < (t0.length : Int))) then (bif (decide (0 ≤ t5) && decide (t5 < (t1.length : Int))) then (bif !decide (fI (t0.getD t5.toNat AV.undef) 0 = fI (t1.getD t5.toNat AV.undef) 0) then .stop (.inr ())
  else .next (IntKind.i64.wrap (t5 + 1)))
  else .fail)
  else .fail)
  else .stop (.inl ()))
def R59_0 (t0 : List AV) (t1 : List AV) : (Int) → Out (Int) (Unit ⊕ Unit) := fun s : Int => F59_0 t0 t1 s
def l59_0 : LModel := fun _ _ st k => match st with
  | ⟨[(0, .sl g0 t0), (1, .sl g1 t1), (5, .int .i64 t5)], []⟩ => bif ctsEq g0 ([.int .i64]) && ctsEq g1 ([.int .i64]) then ro (runW (R59_0 t0 t1) (((t0.length : Int) - t5).toNat + 1) t5) none (sumE (fun _ : Unit => k (.exit 0) ⟨[], []⟩) (fun _ : Unit => k .ret ⟨[(4, AV.bool false)], []⟩)) else none
  | _ => none
noncomputable def c59 : Cfg := cfg Try.prog [(59, 0, [0, 1, 5]), (59, 999, [4]), (59, 1000, []), (59, 1001, [0, 1, 5])] [] [] [] [(59, 0, l59_0)]
theorem s59_0 (ce : CallE) (t0 : List AV) (t1 : List AV) (t5 : Int) (next : St → Option AV) (k : Kont) : stepA (codeA c59 ce [] 59 0 (sub [1, 1, 0, 1, 0, 0] (body Try.f59))) (normA [] [0, 1, 5]) next ⟨[(0, AV.sl [.int .i64] t0), (1, AV.sl [.int .i64] t1), (5, AV.int .i64 t5)], []⟩ k = (bif decide (t5 < (t0.length : Int)) then (bif (decide (0 ≤ t5) && decide (t5 < (t0.length : Int))) then (bif (decide (0 ≤ t5) && decide (t5 < (t1.length : Int))) then (bif !decide (fI (t0.getD t5.toNat AV.undef) 0 = fI (t1.getD t5.toNat AV.undef) 0) then k .ret ⟨[(4, AV.bool false)], []⟩
  else next ⟨[(0, AV.sl [.int .i64] t0), (1, AV.sl [.int .i64] t1), (5, AV.int .i64 (IntKind.i64.wrap (t5 + 1)))], []⟩)
  else none)
  else none)
  else k (.exit 0) ⟨[], []⟩) := by kernel_rfl
theorem st59_0 (t0 : List AV) (t1 : List AV) (ce : CallE) (k : Kont) (s : Int) (next : St → Option AV) : stepA (codeA c59 ce [] 59 0 (sub [1, 1, 0, 1, 0, 0] (body Try.f59))) (normA [] [0, 1, 5]) next ((fun s : Int => ⟨[(0, AV.sl [.int .i64] t0), (1, AV.sl [.int .i64] t1), (5, AV.int .i64 s)], []⟩) s) k = (R59_0 t0 t1 s).el none (fun s => next ((fun s : Int => ⟨[(0, AV.sl [.int .i64] t0), (1, AV.sl [.int .i64] t1), (5, AV.int .i64 s)], []⟩) s)) (sumE (fun _ : Unit => k (.exit 0) ⟨[], []⟩) (fun _ : Unit => k .ret ⟨[(4, AV.bool false)], []⟩)) := (s59_0 ce t0 t1 s next k).trans (by unfold R59_0; unfold F59_0; simp only [el_cond, el_ro, el_sum, el_fail, el_next, el_stop] <;> rfl)
theorem ok59_0 {ce : CallE} : LoopOK c59 ce [] 59 0 (sub [1, 1, 0, 1, 0, 0] (body Try.f59)) := by
  intro m hm st k r h
  obtain rfl : l59_0 = m := Option.some.inj hm
  unfold l59_0 at h
  split at h
  · rename_i g0 t0 g1 t1 t5
    obtain ⟨hg, h⟩ := bif_some h
    simp only [Bool.and_eq_true] at hg
    obtain ⟨q0, q1⟩ := hg
    obtain rfl := ctsEq_eq _ _ q0
    obtain rfl := ctsEq_eq _ _ q1
    refine ⟨(((t0.length : Int) - t5).toNat + 1), ?_⟩
    rw [← h]
    exact loop_run (fun s : Int => ⟨[(0, AV.sl [.int .i64] t0), (1, AV.sl [.int .i64] t1), (5, AV.int .i64 s)], []⟩) (sumE (fun _ : Unit => k (.exit 0) ⟨[], []⟩) (fun _ : Unit => k .ret ⟨[(4, AV.bool false)], []⟩)) (st59_0 t0 t1 ce k) _ t5
  · cases h
def q59 (a0 : List AV) (a1 : List AV) : Bool := (bif !decide ((a0.length : Int) = (a1.length : Int)) then true else (ro (runW (R59_0 a0 a1) (((a0.length : Int) - 0).toNat + 1) 0) false (sumE (fun _ => true) (fun _ => true))))
def v59_0 (a0 : List AV) (a1 : List AV) : Bool := (bif !decide ((a0.length : Int) = (a1.length : Int)) then false else (ro (runW (R59_0 a0 a1) (((a0.length : Int) - 0).toNat + 1) 0) false (sumE (fun _ => true) (fun _ => false))))
theorem e59 (a0 : List AV) (a1 : List AV) : funA c59 0 59 [AV.sl [.int .i64] a0, AV.sl [.int .i64] a1] = (bif !decide ((a0.length : Int) = (a1.length : Int)) then some (AV.bool false)
  else (ro (runW (R59_0 a0 a1) (((a0.length : Int) - 0).toNat + 1) 0) none (sumE (fun _ => some (AV.bool true)) (fun _ => some (AV.bool false))))) := by kernel_rfl
theorem r59 (a0 : List AV) (a1 : List AV) (h : q59 a0 a1 = true) : funA c59 0 59 [AV.sl [.int .i64] a0, AV.sl [.int .i64] a1] = some (AV.bool (v59_0 a0 a1)) := (e59 a0 a1).trans ((br (fun b => some (AV.bool (bif b then false else (ro (runW (R59_0 a0 a1) (((a0.length : Int) - 0).toNat + 1) 0) false (sumE (fun _ => true) (fun _ => false)))))) (fun _ => rfl) (brO (fun o : Option (Unit ⊕ Unit) => some (AV.bool (ro o false (sumE (fun _ => true) (fun _ => false))))) (brS (fun o : Unit ⊕ Unit => some (AV.bool ((sumE (fun _ => true) (fun _ => false)) o))) (fun _ => (fun _ => rfl)) (fun _ => (fun _ => rfl))))) h)
def m59 : TModel
  | [.sl g0 a0, .sl g1 a1] => bif ctsEq g0 ([.int .i64]) && ctsEq g1 ([.int .i64]) then some (q59 a0 a1, AV.bool (v59_0 a0 a1)) else none
  | _ => none
theorem k59 : Known Try.prog 59 := ⟨Try.f59, Try.func59, by kernel_rfl, by kernel_rfl⟩
theorem meets59 : Meets Try.prog 59 m59 := by
  refine meet (f := Try.f59) (l := [(0, sub [1, 1, 0, 1, 0, 0] (body Try.f59))]) (hs := [(59, 0, [0, 1, 5]), (59, 999, [4]), (59, 1000, []), (59, 1001, [0, 1, 5])]) (ts := []) (ws := []) (is := []) (ls := [(59, 0, l59_0)]) (lvl := 0) mixed k59 Try.func59 (by kernel_rfl) (loops_cons ok59_0 noLoop) allT_nil allM_nil noI fun w xs us r hl hv h => ?_
  unfold m59 at h
  split at h
  · rename_i g0 a0 g1 a1
    obtain ⟨hg, h⟩ := bif_pair h
    simp only [Bool.and_eq_true] at hg
    obtain ⟨q0, q1⟩ := hg
    obtain rfl := ctsEq_eq _ _ q0
    obtain rfl := ctsEq_eq _ _ q1
    obtain ⟨h1, rfl⟩ := pair_inj h
    exact r59 a0 a1 h1
  · cases h

/-! ### 106 loop.example/g01984/spec.l4Same -/
def F106_0 (t0 : List AV) (t1 : List AV) (t5 : Int) : Out (Int) (Unit ⊕ Unit) := (bif decide (t5 < (t0.length : Int)) then (bif (decide (0 ≤ t5) && decide (t5 < (t0.length : Int))) then (bif (decide (0 ≤ t5) && decide (t5 < (t1.length : Int))) then (bif !(bif decide (fI (t0.getD t5.toNat AV.undef) 0 = fI (t1.getD t5.toNat AV.undef) 0) then (bif decide (fI (t0.getD t5.toNat AV.undef) 1 = fI (t1.getD t5.toNat AV.undef) 1) then true else false) else false) then .stop (.inr ())
  else .next (IntKind.i64.wrap (t5 + 1)))
  else .fail)
  else .fail)
  else .stop (.inl ()))
def R106_0 (t0 : List AV) (t1 : List AV) : (Int) → Out (Int) (Unit ⊕ Unit) := fun s : Int => F106_0 t0 t1 s
def l106_0 : LModel := fun _ _ st k => match st with
  | ⟨[(0, .sl g0 t0), (1, .sl g1 t1), (5, .int .i64 t5)], []⟩ => bif ctsEq g0 ([.int .i64, .int .i64]) && ctsEq g1 ([.int .i64, .int .i64]) then ro (runW (R106_0 t0 t1) (((t0.length : Int) - t5).toNat + 1) t5) none (sumE (fun _ : Unit => k (.exit 0) ⟨[], []⟩) (fun _ : Unit => k .ret ⟨[(4, AV.bool false)], []⟩)) else none
  | _ => none
noncomputable def c106 : Cfg := cfg Try.prog [(106, 0, [0, 1, 5]), (106, 999, [4]), (106, 1000, []), (106, 1001, [0, 1, 5])] [] [] [] [(106, 0, l106_0)]
theorem s106_0 (ce : CallE) (t0 : List AV) (t1 : List AV) (t5 : Int) (next : St → Option AV) (k : Kont) : stepA (codeA c106 ce [] 106 0 (sub [1, 1, 0, 1, 0, 0] (body Try.f106))) (normA [] [0, 1, 5]) next ⟨[(0, AV.sl [.int .i64, .int .i64] t0), (1, AV.sl [.int .i64, .int .i64] t1), (5, AV.int .i64 t5)], []⟩ k = (bif decide (t5 < (t0.length : Int)) then (bif (decide (0 ≤ t5) && decide (t5 < (t0.length : Int))) then (bif (decide (0 ≤ t5) && decide (t5 < (t1.length : Int))) then (bif !(bif decide (fI (t0.getD t5.toNat AV.undef) 0 = fI (t1.getD t5.toNat AV.undef) 0) then (bif decide (fI (t0.getD t5.toNat AV.undef) 1 = fI (t1.getD t5.toNat AV.undef) 1) then true else false) else false) then k .ret ⟨[(4, AV.bool false)], []⟩
  else next ⟨[(0, AV.sl [.int .i64, .int .i64] t0), (1, AV.sl [.int .i64, .int .i64] t1), (5, AV.int .i64 (IntKind.i64.wrap (t5 + 1)))], []⟩)
  else none)
  else none)
  else k (.exit 0) ⟨[], []⟩) := by kernel_rfl
theorem st106_0 (t0 : List AV) (t1 : List AV) (ce : CallE) (k : Kont) (s : Int) (next : St → Option AV) : stepA (codeA c106 ce [] 106 0 (sub [1, 1, 0, 1, 0, 0] (body Try.f106))) (normA [] [0, 1, 5]) next ((fun s : Int => ⟨[(0, AV.sl [.int .i64, .int .i64] t0), (1, AV.sl [.int .i64, .int .i64] t1), (5, AV.int .i64 s)], []⟩) s) k = (R106_0 t0 t1 s).el none (fun s => next ((fun s : Int => ⟨[(0, AV.sl [.int .i64, .int .i64] t0), (1, AV.sl [.int .i64, .int .i64] t1), (5, AV.int .i64 s)], []⟩) s)) (sumE (fun _ : Unit => k (.exit 0) ⟨[], []⟩) (fun _ : Unit => k .ret ⟨[(4, AV.bool false)], []⟩)) := (s106_0 ce t0 t1 s next k).trans (by unfold R106_0; unfold F106_0; simp only [el_cond, el_ro, el_sum, el_fail, el_next, el_stop] <;> rfl)
theorem ok106_0 {ce : CallE} : LoopOK c106 ce [] 106 0 (sub [1, 1, 0, 1, 0, 0] (body Try.f106)) := by
  intro m hm st k r h
  obtain rfl : l106_0 = m := Option.some.inj hm
  unfold l106_0 at h
  split at h
  · rename_i g0 t0 g1 t1 t5
    obtain ⟨hg, h⟩ := bif_some h
    simp only [Bool.and_eq_true] at hg
    obtain ⟨q0, q1⟩ := hg
    obtain rfl := ctsEq_eq _ _ q0
    obtain rfl := ctsEq_eq _ _ q1
    refine ⟨(((t0.length : Int) - t5).toNat + 1), ?_⟩
    rw [← h]
    exact loop_run (fun s : Int => ⟨[(0, AV.sl [.int .i64, .int .i64] t0), (1, AV.sl [.int .i64, .int .i64] t1), (5, AV.int .i64 s)], []⟩) (sumE (fun _ : Unit => k (.exit 0) ⟨[], []⟩) (fun _ : Unit => k .ret ⟨[(4, AV.bool false)], []⟩)) (st106_0 t0 t1 ce k) _ t5
  · cases h
def q106 (a0 : List AV) (a1 : List AV) : Bool := (bif !decide ((a0.length : Int) = (a1.length : Int)) then true else (ro (runW (R106_0 a0 a1) (((a0.length : Int) - 0).toNat + 1) 0) false (sumE (fun _ => true) (fun _ => true))))
def v106_0 (a0 : List AV) (a1 : List AV) : Bool := (bif !decide ((a0.length : Int) = (a1.length : Int)) then false else (ro (runW (R106_0 a0 a1) (((a0.length : Int) - 0).toNat + 1) 0) false (sumE (fun _ => true) (fun _ => false))))
theorem e106 (a0 : List AV) (a1 : List AV) : funA c106 0 106 [AV.sl [.int .i64, .int .i64] a0, AV.sl [.int .i64, .int .i64] a1] = (bif !decide ((a0.length : Int) = (a1.length : Int)) then some (AV.bool false)
  else (ro (runW (R106_0 a0 a1) (((a0.length : Int) - 0).toNat + 1) 0) none (sumE (fun _ => some (AV.bool true)) (fun _ => some (AV.bool false))))) := by kernel_rfl
theorem r106 (a0 : List AV) (a1 : List AV) (h : q106 a0 a1 = true) : funA c106 0 106 [AV.sl [.int .i64, .int .i64] a0, AV.sl [.int .i64, .int .i64] a1] = some (AV.bool (v106_0 a0 a1)) := (e106 a0 a1).trans ((br (fun b => some (AV.bool (bif b then false else (ro (runW (R106_0 a0 a1) (((a0.length : Int) - 0).toNat + 1) 0) false (sumE (fun _ => true) (fun _ => false)))))) (fun _ => rfl) (brO (fun o : Option (Unit ⊕ Unit) => some (AV.bool (ro o false (sumE (fun _ => true) (fun _ => false))))) (brS (fun o : Unit ⊕ Unit => some (AV.bool ((sumE (fun _ => true) (fun _ => false)) o))) (fun _ => (fun _ => rfl)) (fun _ => (fun _ => rfl))))) h)
def m106 : TModel
  | [.sl g0 a0, .sl g1 a1] => bif ctsEq g0 ([.int .i64, .int .i64]) && ctsEq g1 ([.int .i64, .int .i64]) then some (q106 a0 a1, AV.bool (v106_0 a0 a1)) else none
  | _ => none
theorem k106 : Known Try.prog 106 := ⟨Try.f106, Try.func106, by kernel_rfl, by kernel_rfl⟩
theorem meets106 : Meets Try.prog 106 m106 := by
  refine meet (f := Try.f106) (l := [(0, sub [1, 1, 0, 1, 0, 0] (body Try.f106))]) (hs := [(106, 0, [0, 1, 5]), (106, 999, [4]), (106, 1000, []), (106, 1001, [0, 1, 5])]) (ts := []) (ws := []) (is := []) (ls := [(106, 0, l106_0)]) (lvl := 0) mixed k106 Try.func106 (by kernel_rfl) (loops_cons ok106_0 noLoop) allT_nil allM_nil noI fun w xs us r hl hv h => ?_
  unfold m106 at h
  split at h
  · rename_i g0 a0 g1 a1
    obtain ⟨hg, h⟩ := bif_pair h
    simp only [Bool.and_eq_true] at hg
    obtain ⟨q0, q1⟩ := hg
    obtain rfl := ctsEq_eq _ _ q0
    obtain rfl := ctsEq_eq _ _ q1
    obtain ⟨h1, rfl⟩ := pair_inj h
    exact r106 a0 a1 h1
  · cases h

/-! ### 58 loop.example/g01984/spec.EqualCrackers -/
noncomputable def c58 : Cfg := cfg Try.prog [(58, 999, [4])] [(59, m59), (106, m106)] [] [] []
def q58 (a0_0 : List AV) (a0_1 : List AV) (a0_2 : List AV) (a1_0 : List AV) (a1_1 : List AV) (a1_2 : List AV) : Bool := (q59 a0_0 a1_0 && (bif (v59_0 a0_0 a1_0) then (q59 a0_1 a1_1 && (bif (v59_0 a0_1 a1_1) then q106 a0_2 a1_2 else true)) else true))
def v58_0 (a0_0 : List AV) (a0_1 : List AV) (a0_2 : List AV) (a1_0 : List AV) (a1_1 : List AV) (a1_2 : List AV) : Bool := (bif (v59_0 a0_0 a1_0) then (bif (v59_0 a0_1 a1_1) then (v106_0 a0_2 a1_2) else false) else false)
theorem e58 (a0_0 : List AV) (a0_1 : List AV) (a0_2 : List AV) (a1_0 : List AV) (a1_1 : List AV) (a1_2 : List AV) : funA c58 0 58 [AV.agg [AV.sl [.int .i64] a0_0, AV.sl [.int .i64] a0_1, AV.sl [.int .i64, .int .i64] a0_2], AV.agg [AV.sl [.int .i64] a1_0, AV.sl [.int .i64] a1_1, AV.sl [.int .i64, .int .i64] a1_2]] = (bif q59 a0_0 a1_0 then (bif (v59_0 a0_0 a1_0) then (bif q59 a0_1 a1_1 then (bif (v59_0 a0_1 a1_1) then (bif q106 a0_2 a1_2 then some (AV.bool (v106_0 a0_2 a1_2))
  else none)
  else some (AV.bool false))
  else none)
  else some (AV.bool false))
  else none) := by kernel_rfl
theorem r58 (a0_0 : List AV) (a0_1 : List AV) (a0_2 : List AV) (a1_0 : List AV) (a1_1 : List AV) (a1_2 : List AV) (h : q58 a0_0 a0_1 a0_2 a1_0 a1_1 a1_2 = true) : funA c58 0 58 [AV.agg [AV.sl [.int .i64] a0_0, AV.sl [.int .i64] a0_1, AV.sl [.int .i64, .int .i64] a0_2], AV.agg [AV.sl [.int .i64] a1_0, AV.sl [.int .i64] a1_1, AV.sl [.int .i64, .int .i64] a1_2]] = some (AV.bool (v58_0 a0_0 a0_1 a0_2 a1_0 a1_1 a1_2)) := (e58 a0_0 a0_1 a0_2 a1_0 a1_1 a1_2).trans ((brL (br (fun b => some (AV.bool (bif b then (bif (v59_0 a0_1 a1_1) then (v106_0 a0_2 a1_2) else false) else false))) (brL (br (fun b => some (AV.bool (bif b then (v106_0 a0_2 a1_2) else false))) (brL1 (fun _ => rfl)) (fun _ => rfl))) (fun _ => rfl))) h)
def m58 : TModel
  | [.agg [.sl g0 a0_0, .sl g1 a0_1, .sl g2 a0_2], .agg [.sl g3 a1_0, .sl g4 a1_1, .sl g5 a1_2]] => bif ctsEq g0 ([.int .i64]) && ctsEq g1 ([.int .i64]) && ctsEq g2 ([.int .i64, .int .i64]) && ctsEq g3 ([.int .i64]) && ctsEq g4 ([.int .i64]) && ctsEq g5 ([.int .i64, .int .i64]) then some (q58 a0_0 a0_1 a0_2 a1_0 a1_1 a1_2, AV.bool (v58_0 a0_0 a0_1 a0_2 a1_0 a1_1 a1_2)) else none
  | _ => none
theorem k58 : Known Try.prog 58 := ⟨Try.f58, Try.func58, by kernel_rfl, by kernel_rfl⟩
theorem meets58 : Meets Try.prog 58 m58 := by
  refine meet (f := Try.f58) (l := []) (hs := [(58, 999, [4])]) (ts := [(59, m59), (106, m106)]) (ws := []) (is := []) (ls := []) (lvl := 0) mixed k58 Try.func58 (by kernel_rfl) noLoop (allT_cons meets59 (allT_cons meets106 allT_nil)) allM_nil noI fun w xs us r hl hv h => ?_
  unfold m58 at h
  split at h
  · rename_i g0 a0_0 g1 a0_1 g2 a0_2 g3 a1_0 g4 a1_1 g5 a1_2
    obtain ⟨hg, h⟩ := bif_pair h
    simp only [Bool.and_eq_true] at hg
    obtain ⟨⟨⟨⟨⟨q0, q1⟩, q2⟩, q3⟩, q4⟩, q5⟩ := hg
    obtain rfl := ctsEq_eq _ _ q0
    obtain rfl := ctsEq_eq _ _ q1
    obtain rfl := ctsEq_eq _ _ q2
    obtain rfl := ctsEq_eq _ _ q3
    obtain rfl := ctsEq_eq _ _ q4
    obtain rfl := ctsEq_eq _ _ q5
    obtain ⟨h1, rfl⟩ := pair_inj h
    exact r58 a0_0 a0_1 a0_2 a1_0 a1_1 a1_2 h1
  · cases h

/-! ### 15 loop.example/g01984/spec.EqualBoards -/
def F15_0 (h0_0 : List AV) (h0_1 : List AV) (h0_2 : List AV) (h0_3 : List AV) (h0_4 : Int) (h1_0 : List AV) (h1_1 : List AV) (h1_2 : List AV) (h1_3 : List AV) (h1_4 : Int) (t5 : Int) : Out (Int) (Unit ⊕ ((List AV) × Int × Bool × Int × Int × Int × Int × Int × Int × (List AV) × Int × Bool × Int × Int × Int × Int × Int × Int)) := (bif decide (t5 < (h0_3.length : Int)) then (bif (decide (0 ≤ t5) && decide (t5 < (h0_3.length : Int))) then (bif (decide (0 ≤ t5) && decide (t5 < (h1_3.length : Int))) then (bif q59 (fL (h0_3.getD t5.toNat AV.undef) 0) (fL (h1_3.getD t5.toNat AV.undef) 0) then (bif !(v59_0 (fL (h0_3.getD t5.toNat AV.undef) 0) (fL (h1_3.getD t5.toNat AV.undef) 0)) then .stop (.inr (fL (h0_3.getD t5.toNat AV.undef) 0, fI (h0_3.getD t5.toNat AV.undef) 1, fB (h0_3.getD t5.toNat AV.undef) 2, fI (h0_3.getD t5.toNat AV.undef) 3, fI (h0_3.getD t5.toNat AV.undef) 4, fI (h0_3.getD t5.toNat AV.undef) 5, fI (h0_3.getD t5.toNat AV.undef) 6, fI (h0_3.getD t5.toNat AV.undef) 7, fI (h0_3.getD t5.toNat AV.undef) 8, fL (h1_3.getD t5.toNat AV.undef) 0, fI (h1_3.getD t5.toNat AV.undef) 1, fB (h1_3.getD t5.toNat AV.undef) 2, fI (h1_3.getD t5.toNat AV.undef) 3, fI (h1_3.getD t5.toNat AV.undef) 4, fI (h1_3.getD t5.toNat AV.undef) 5, fI (h1_3.getD t5.toNat AV.undef) 6, fI (h1_3.getD t5.toNat AV.undef) 7, fI (h1_3.getD t5.toNat AV.undef) 8))
  else (bif !decide (fI (h0_3.getD t5.toNat AV.undef) 1 = fI (h1_3.getD t5.toNat AV.undef) 1) then .stop (.inr (fL (h0_3.getD t5.toNat AV.undef) 0, fI (h0_3.getD t5.toNat AV.undef) 1, fB (h0_3.getD t5.toNat AV.undef) 2, fI (h0_3.getD t5.toNat AV.undef) 3, fI (h0_3.getD t5.toNat AV.undef) 4, fI (h0_3.getD t5.toNat AV.undef) 5, fI (h0_3.getD t5.toNat AV.undef) 6, fI (h0_3.getD t5.toNat AV.undef) 7, fI (h0_3.getD t5.toNat AV.undef) 8, fL (h1_3.getD t5.toNat AV.undef) 0, fI (h1_3.getD t5.toNat AV.undef) 1, fB (h1_3.getD t5.toNat AV.undef) 2, fI (h1_3.getD t5.toNat AV.undef) 3, fI (h1_3.getD t5.toNat AV.undef) 4, fI (h1_3.getD t5.toNat AV.undef) 5, fI (h1_3.getD t5.toNat AV.undef) 6, fI (h1_3.getD t5.toNat AV.undef) 7, fI (h1_3.getD t5.toNat AV.undef) 8))
  else (bif !(fB (h0_3.getD t5.toNat AV.undef) 2 == fB (h1_3.getD t5.toNat AV.undef) 2) then .stop (.inr (fL (h0_3.getD t5.toNat AV.undef) 0, fI (h0_3.getD t5.toNat AV.undef) 1, fB (h0_3.getD t5.toNat AV.undef) 2, fI (h0_3.getD t5.toNat AV.undef) 3, fI (h0_3.getD t5.toNat AV.undef) 4, fI (h0_3.getD t5.toNat AV.undef) 5, fI (h0_3.getD t5.toNat AV.undef) 6, fI (h0_3.getD t5.toNat AV.undef) 7, fI (h0_3.getD t5.toNat AV.undef) 8, fL (h1_3.getD t5.toNat AV.undef) 0, fI (h1_3.getD t5.toNat AV.undef) 1, fB (h1_3.getD t5.toNat AV.undef) 2, fI (h1_3.getD t5.toNat AV.undef) 3, fI (h1_3.getD t5.toNat AV.undef) 4, fI (h1_3.getD t5.toNat AV.undef) 5, fI (h1_3.getD t5.toNat AV.undef) 6, fI (h1_3.getD t5.toNat AV.undef) 7, fI (h1_3.getD t5.toNat AV.undef) 8))
  else (bif !decide (fI (h0_3.getD t5.toNat AV.undef) 3 = fI (h1_3.getD t5.toNat AV.undef) 3) then .stop (.inr (fL (h0_3.getD t5.toNat AV.undef) 0, fI (h0_3.getD t5.toNat AV.undef) 1, fB (h0_3.getD t5.toNat AV.undef) 2, fI (h0_3.getD t5.toNat AV.undef) 3, fI (h0_3.getD t5.toNat AV.undef) 4, fI (h0_3.getD t5.toNat AV.undef) 5, fI (h0_3.getD t5.toNat AV.undef) 6, fI (h0_3.getD t5.toNat AV.undef) 7, fI (h0_3.getD t5.toNat AV.undef) 8, fL (h1_3.getD t5.toNat AV.undef) 0, fI (h1_3.getD t5.toNat AV.undef) 1, fB (h1_3.getD t5.toNat AV.undef) 2, fI (h1_3.getD t5.toNat AV.undef) 3, fI (h1_3.getD t5.toNat AV.undef) 4, fI (h1_3.getD t5.toNat AV.undef) 5, fI (h1_3.getD t5.toNat AV.undef) 6, fI (h1_3.getD t5.toNat AV.undef) 7, fI (h1_3.getD t5.toNat AV.undef) 8))
  else (bif !decide (fI (h0_3.getD t5.toNat AV.undef) 4 = fI (h1_3.getD t5.toNat AV.undef) 4) then .stop (.inr (fL (h0_3.getD t5.toNat AV.undef) 0, fI (h0_3.getD t5.toNat AV.undef) 1, fB (h0_3.getD t5.toNat AV.undef) 2, fI (h0_3.getD t5.toNat AV.undef) 3, fI (h0_3.getD t5.toNat AV.undef) 4, fI (h0_3.getD t5.toNat AV.undef) 5, fI (h0_3.getD t5.toNat AV.undef) 6, fI (h0_3.getD t5.toNat AV.undef) 7, fI (h0_3.getD t5.toNat AV.undef) 8, fL (h1_3.getD t5.toNat AV.undef) 0, fI (h1_3.getD t5.toNat AV.undef) 1, fB (h1_3.getD t5.toNat AV.undef) 2, fI (h1_3.getD t5.toNat AV.undef) 3, fI (h1_3.getD t5.toNat AV.undef) 4, fI (h1_3.getD t5.toNat AV.undef) 5, fI (h1_3.getD t5.toNat AV.undef) 6, fI (h1_3.getD t5.toNat AV.undef) 7, fI (h1_3.getD t5.toNat AV.undef) 8))
  else (bif !decide (fI (h0_3.getD t5.toNat AV.undef) 5 = fI (h1_3.getD t5.toNat AV.undef) 5) then .stop (.inr (fL (h0_3.getD t5.toNat AV.undef) 0, fI (h0_3.getD t5.toNat AV.undef) 1, fB (h0_3.getD t5.toNat AV.undef) 2, fI (h0_3.getD t5.toNat AV.undef) 3, fI (h0_3.getD t5.toNat AV.undef) 4, fI (h0_3.getD t5.toNat AV.undef) 5, fI (h0_3.getD t5.toNat AV.undef) 6, fI (h0_3.getD t5.toNat AV.undef) 7, fI (h0_3.getD t5.toNat AV.undef) 8, fL (h1_3.getD t5.toNat AV.undef) 0, fI (h1_3.getD t5.toNat AV.undef) 1, fB (h1_3.getD t5.toNat AV.undef) 2, fI (h1_3.getD t5.toNat AV.undef) 3, fI (h1_3.getD t5.toNat AV.undef) 4, fI (h1_3.getD t5.toNat AV.undef) 5, fI (h1_3.getD t5.toNat AV.undef) 6, fI (h1_3.getD t5.toNat AV.undef) 7, fI (h1_3.getD t5.toNat AV.undef) 8))
  else (bif !decide (fI (h0_3.getD t5.toNat AV.undef) 6 = fI (h1_3.getD t5.toNat AV.undef) 6) then .stop (.inr (fL (h0_3.getD t5.toNat AV.undef) 0, fI (h0_3.getD t5.toNat AV.undef) 1, fB (h0_3.getD t5.toNat AV.undef) 2, fI (h0_3.getD t5.toNat AV.undef) 3, fI (h0_3.getD t5.toNat AV.undef) 4, fI (h0_3.getD t5.toNat AV.undef) 5, fI (h0_3.getD t5.toNat AV.undef) 6, fI (h0_3.getD t5.toNat AV.undef) 7, fI (h0_3.getD t5.toNat AV.undef) 8, fL (h1_3.getD t5.toNat AV.undef) 0, fI (h1_3.getD t5.toNat AV.undef) 1, fB (h1_3.getD t5.toNat AV.undef) 2, fI (h1_3.getD t5.toNat AV.undef) 3, fI (h1_3.getD t5.toNat AV.undef) 4, fI (h1_3.getD t5.toNat AV.undef) 5, fI (h1_3.getD t5.toNat AV.undef) 6, fI (h1_3.getD t5.toNat AV.undef) 7, fI (h1_3.getD t5.toNat AV.undef) 8))
  else (bif !decide (fI (h0_3.getD t5.toNat AV.undef) 7 = fI (h1_3.getD t5.toNat AV.undef) 7) then .stop (.inr (fL (h0_3.getD t5.toNat AV.undef) 0, fI (h0_3.getD t5.toNat AV.undef) 1, fB (h0_3.getD t5.toNat AV.undef) 2, fI (h0_3.getD t5.toNat AV.undef) 3, fI (h0_3.getD t5.toNat AV.undef) 4, fI (h0_3.getD t5.toNat AV.undef) 5, fI (h0_3.getD t5.toNat AV.undef) 6, fI (h0_3.getD t5.toNat AV.undef) 7, fI (h0_3.getD t5.toNat AV.undef) 8, fL (h1_3.getD t5.toNat AV.undef) 0, fI (h1_3.getD t5.toNat AV.undef) 1, fB (h1_3.getD t5.toNat AV.undef) 2, fI (h1_3.getD t5.toNat AV.undef) 3, fI (h1_3.getD t5.toNat AV.undef) 4, fI (h1_3.getD t5.toNat AV.undef) 5, fI (h1_3.getD t5.toNat AV.undef) 6, fI (h1_3.getD t5.toNat AV.undef) 7, fI (h1_3.getD t5.toNat AV.undef) 8))
  else (bif !decide (fI (h0_3.getD t5.toNat AV.undef) 8 = fI (h1_3.getD t5.toNat AV.undef) 8) then .stop (.inr (fL (h0_3.getD t5.toNat AV.undef) 0, fI (h0_3.getD t5.toNat AV.undef) 1, fB (h0_3.getD t5.toNat AV.undef) 2, fI (h0_3.getD t5.toNat AV.undef) 3, fI (h0_3.getD t5.toNat AV.undef) 4, fI (h0_3.getD t5.toNat AV.undef) 5, fI (h0_3.getD t5.toNat AV.undef) 6, fI (h0_3.getD t5.toNat AV.undef) 7, fI (h0_3.getD t5.toNat AV.undef) 8, fL (h1_3.getD t5.toNat AV.undef) 0, fI (h1_3.getD t5.toNat AV.undef) 1, fB (h1_3.getD t5.toNat AV.undef) 2, fI (h1_3.getD t5.toNat AV.undef) 3, fI (h1_3.getD t5.toNat AV.undef) 4, fI (h1_3.getD t5.toNat AV.undef) 5, fI (h1_3.getD t5.toNat AV.undef) 6, fI (h1_3.getD t5.toNat AV.undef) 7, fI (h1_3.getD t5.toNat AV.undef) 8))
  else .next (IntKind.i64.wrap (t5 + 1)))))))))))
  else .fail)
  else .fail)
  else .fail)
  else .stop (.inl ()))
def R15_0 (h0_0 : List AV) (h0_1 : List AV) (h0_2 : List AV) (h0_3 : List AV) (h0_4 : Int) (h1_0 : List AV) (h1_1 : List AV) (h1_2 : List AV) (h1_3 : List AV) (h1_4 : Int) : (Int) → Out (Int) (Unit ⊕ ((List AV) × Int × Bool × Int × Int × Int × Int × Int × Int × (List AV) × Int × Bool × Int × Int × Int × Int × Int × Int)) := fun s : Int => F15_0 h0_0 h0_1 h0_2 h0_3 h0_4 h1_0 h1_1 h1_2 h1_3 h1_4 s
def l15_0 : LModel := fun _ _ st k => match st with
  | ⟨[(2, .ptr g0 g1 g2), (3, .ptr g3 g4 g5), (5, .int .i64 t5)], [(g6, ⟨true, [], [.agg [.sl g7 h0_0, .sl g8 h0_1, .sl g9 h0_2, .sl g10 h0_3, .int .i64 h0_4]]⟩), (g11, ⟨true, [], [.agg [.sl g12 h1_0, .sl g13 h1_1, .sl g14 h1_2, .sl g15 h1_3, .int .i64 h1_4]]⟩)]⟩ => bif nmEq g0 ([0, 2]) && Nat.beq g1 0 && Nat.beq g2 0 && nmEq g3 ([0, 3]) && Nat.beq g4 0 && Nat.beq g5 0 && nmEq g6 ([0, 2]) && ctsEq g7 ([.int .i64]) && ctsEq g8 ([.int .i64]) && ctsEq g9 ([.int .i64, .int .i64]) && ctsEq g10 ([.sl [.int .i64], .int .i64, .bool, .int .i64, .int .i64, .int .i64, .int .i64, .int .i64, .int .i64]) && nmEq g11 ([0, 3]) && ctsEq g12 ([.int .i64]) && ctsEq g13 ([.int .i64]) && ctsEq g14 ([.int .i64, .int .i64]) && ctsEq g15 ([.sl [.int .i64], .int .i64, .bool, .int .i64, .int .i64, .int .i64, .int .i64, .int .i64, .int .i64]) then ro (runW (R15_0 h0_0 h0_1 h0_2 h0_3 h0_4 h1_0 h1_1 h1_2 h1_3 h1_4) (((h0_3.length : Int) - t5).toNat + 1) t5) none (sumE (fun _ : Unit => k (.exit 0) ⟨[], [([0, 2], ⟨true, [], [AV.agg [AV.sl [.int .i64] h0_0, AV.sl [.int .i64] h0_1, AV.sl [.int .i64, .int .i64] h0_2, AV.sl [.sl [.int .i64], .int .i64, .bool, .int .i64, .int .i64, .int .i64, .int .i64, .int .i64, .int .i64] h0_3, AV.int .i64 h0_4]]⟩), ([0, 3], ⟨true, [], [AV.agg [AV.sl [.int .i64] h1_0, AV.sl [.int .i64] h1_1, AV.sl [.int .i64, .int .i64] h1_2, AV.sl [.sl [.int .i64], .int .i64, .bool, .int .i64, .int .i64, .int .i64, .int .i64, .int .i64, .int .i64] h1_3, AV.int .i64 h1_4]]⟩)]⟩) (fun p : (List AV) × Int × Bool × Int × Int × Int × Int × Int × Int × (List AV) × Int × Bool × Int × Int × Int × Int × Int × Int => k .ret ⟨[(4, AV.bool false)], [([0, 2], ⟨true, [], [AV.agg [AV.sl [.int .i64] h0_0, AV.sl [.int .i64] h0_1, AV.sl [.int .i64, .int .i64] h0_2, AV.sl [.sl [.int .i64], .int .i64, .bool, .int .i64, .int .i64, .int .i64, .int .i64, .int .i64, .int .i64] h0_3, AV.int .i64 h0_4]]⟩), ([0, 3], ⟨true, [], [AV.agg [AV.sl [.int .i64] h1_0, AV.sl [.int .i64] h1_1, AV.sl [.int .i64, .int .i64] h1_2, AV.sl [.sl [.int .i64], .int .i64, .bool, .int .i64, .int .i64, .int .i64, .int .i64, .int .i64, .int .i64] h1_3, AV.int .i64 h1_4]]⟩), ([1, 6], ⟨true, [], [AV.agg [AV.sl [.int .i64] p.1, AV.int .i64 p.2.1, AV.bool p.2.2.1, AV.int .i64 p.2.2.2.1, AV.int .i64 p.2.2.2.2.1, AV.int .i64 p.2.2.2.2.2.1, AV.int .i64 p.2.2.2.2.2.2.1, AV.int .i64 p.2.2.2.2.2.2.2.1, AV.int .i64 p.2.2.2.2.2.2.2.2.1]]⟩), ([1, 7], ⟨true, [], [AV.agg [AV.sl [.int .i64] p.2.2.2.2.2.2.2.2.2.1, AV.int .i64 p.2.2.2.2.2.2.2.2.2.2.1, AV.bool p.2.2.2.2.2.2.2.2.2.2.2.1, AV.int .i64 p.2.2.2.2.2.2.2.2.2.2.2.2.1, AV.int .i64 p.2.2.2.2.2.2.2.2.2.2.2.2.2.1, AV.int .i64 p.2.2.2.2.2.2.2.2.2.2.2.2.2.2.1, AV.int .i64 p.2.2.2.2.2.2.2.2.2.2.2.2.2.2.2.1, AV.int .i64 p.2.2.2.2.2.2.2.2.2.2.2.2.2.2.2.2.1, AV.int .i64 p.2.2.2.2.2.2.2.2.2.2.2.2.2.2.2.2.2]]⟩)]⟩)) else none
  | _ => none
noncomputable def c15 : Cfg := cfg Try.prog [(15, 0, [2, 3, 5]), (15, 999, [4]), (15, 1000, []), (15, 1001, [2, 3, 5])] [(58, m58), (59, m59)] [] [] [(15, 0, l15_0)]
theorem s15_0 (ce : CallE) (t5 : Int) (h0_0 : List AV) (h0_1 : List AV) (h0_2 : List AV) (h0_3 : List AV) (h0_4 : Int) (h1_0 : List AV) (h1_1 : List AV) (h1_2 : List AV) (h1_3 : List AV) (h1_4 : Int) (next : St → Option AV) (k : Kont) : stepA (codeA c15 ce [] 15 0 (sub [1, 1, 0, 1, 0, 0] (body Try.f15))) (normA [] [2, 3, 5]) next ⟨[(2, AV.ptr [0, 2] 0 0), (3, AV.ptr [0, 3] 0 0), (5, AV.int .i64 t5)], [([0, 2], ⟨true, [], [AV.agg [AV.sl [.int .i64] h0_0, AV.sl [.int .i64] h0_1, AV.sl [.int .i64, .int .i64] h0_2, AV.sl [.sl [.int .i64], .int .i64, .bool, .int .i64, .int .i64, .int .i64, .int .i64, .int .i64, .int .i64] h0_3, AV.int .i64 h0_4]]⟩), ([0, 3], ⟨true, [], [AV.agg [AV.sl [.int .i64] h1_0, AV.sl [.int .i64] h1_1, AV.sl [.int .i64, .int .i64] h1_2, AV.sl [.sl [.int .i64], .int .i64, .bool, .int .i64, .int .i64, .int .i64, .int .i64, .int .i64, .int .i64] h1_3, AV.int .i64 h1_4]]⟩)]⟩ k = (bif decide (t5 < (h0_3.length : Int)) then (bif (decide (0 ≤ t5) && decide (t5 < (h0_3.length : Int))) then (bif (decide (0 ≤ t5) && decide (t5 < (h1_3.length : Int))) then (bif q59 (fL (h0_3.getD t5.toNat AV.undef) 0) (fL (h1_3.getD t5.toNat AV.undef) 0) then (bif !(v59_0 (fL (h0_3.getD t5.toNat AV.undef) 0) (fL (h1_3.getD t5.toNat AV.undef) 0)) then k .ret ⟨[(4, AV.bool false)], [([0, 2], ⟨true, [], [AV.agg [AV.sl [.int .i64] h0_0, AV.sl [.int .i64] h0_1, AV.sl [.int .i64, .int .i64] h0_2, AV.sl [.sl [.int .i64], .int .i64, .bool, .int .i64, .int .i64, .int .i64, .int .i64, .int .i64, .int .i64] h0_3, AV.int .i64 h0_4]]⟩), ([0, 3], ⟨true, [], [AV.agg [AV.sl [.int .i64] h1_0, AV.sl [.int .i64] h1_1, AV.sl [.int .i64, .int .i64] h1_2, AV.sl [.sl [.int .i64], .int .i64, .bool, .int .i64, .int .i64, .int .i64, .int .i64, .int .i64, .int .i64] h1_3, AV.int .i64 h1_4]]⟩), ([1, 6], ⟨true, [], [AV.agg [AV.sl [.int .i64] (fL (h0_3.getD t5.toNat AV.undef) 0), AV.int .i64 (fI (h0_3.getD t5.toNat AV.undef) 1), AV.bool (fB (h0_3.getD t5.toNat AV.undef) 2), AV.int .i64 (fI (h0_3.getD t5.toNat AV.undef) 3), AV.int .i64 (fI (h0_3.getD t5.toNat AV.undef) 4), AV.int .i64 (fI (h0_3.getD t5.toNat AV.undef) 5), AV.int .i64 (fI (h0_3.getD t5.toNat AV.undef) 6), AV.int .i64 (fI (h0_3.getD t5.toNat AV.undef) 7), AV.int .i64 (fI (h0_3.getD t5.toNat AV.undef) 8)]]⟩), ([1, 7], ⟨true, [], [AV.agg [AV.sl [.int .i64] (fL (h1_3.getD t5.toNat AV.undef) 0), AV.int .i64 (fI (h1_3.getD t5.toNat AV.undef) 1), AV.bool (fB (h1_3.getD t5.toNat AV.undef) 2), AV.int .i64 (fI (h1_3.getD t5.toNat AV.undef) 3), AV.int .i64 (fI (h1_3.getD t5.toNat AV.undef) 4), AV.int .i64 (fI (h1_3.getD t5.toNat AV.undef) 5), AV.int .i64 (fI (h1_3.getD t5.toNat AV.undef) 6), AV.int .i64 (fI (h1_3.getD t5.toNat AV.undef) 7), AV.int .i64 (fI (h1_3.getD t5.toNat AV.undef) 8)]]⟩)]⟩
  else (bif !decide (fI (h0_3.getD t5.toNat AV.undef) 1 = fI (h1_3.getD t5.toNat AV.undef) 1) then k .ret ⟨[(4, AV.bool false)], [([0, 2], ⟨true, [], [AV.agg [AV.sl [.int .i64] h0_0, AV.sl [.int .i64] h0_1, AV.sl [.int .i64, .int .i64] h0_2, AV.sl [.sl [.int .i64], .int .i64, .bool, .int .i64, .int .i64, .int .i64, .int .i64, .int .i64, .int .i64] h0_3, AV.int .i64 h0_4]]⟩), ([0, 3], ⟨true, [], [AV.agg [AV.sl [.int .i64] h1_0, AV.sl [.int .i64] h1_1, AV.sl [.int .i64, .int .i64] h1_2, AV.sl [.sl [.int .i64], .int .i64, .bool, .int .i64, .int .i64, .int .i64, .int .i64, .int .i64, .int .i64] h1_3, AV.int .i64 h1_4]]⟩), ([1, 6], ⟨true, [], [AV.agg [AV.sl [.int .i64] (fL (h0_3.getD t5.toNat AV.undef) 0), AV.int .i64 (fI (h0_3.getD t5.toNat AV.undef) 1), AV.bool (fB (h0_3.getD t5.toNat AV.undef) 2), AV.int .i64 (fI (h0_3.getD t5.toNat AV.undef) 3), AV.int .i64 (fI (h0_3.getD t5.toNat AV.undef) 4), AV.int .i64 (fI (h0_3.getD t5.toNat AV.undef) 5), AV.int .i64 (fI (h0_3.getD t5.toNat AV.undef) 6), AV.int .i64 (fI (h0_3.getD t5.toNat AV.undef) 7), AV.int .i64 (fI (h0_3.getD t5.toNat AV.undef) 8)]]⟩), ([1, 7], ⟨true, [], [AV.agg [AV.sl [.int .i64] (fL (h1_3.getD t5.toNat AV.undef) 0), AV.int .i64 (fI (h1_3.getD t5.toNat AV.undef) 1), AV.bool (fB (h1_3.getD t5.toNat AV.undef) 2), AV.int .i64 (fI (h1_3.getD t5.toNat AV.undef) 3), AV.int .i64 (fI (h1_3.getD t5.toNat AV.undef) 4), AV.int .i64 (fI (h1_3.getD t5.toNat AV.undef) 5), AV.int .i64 (fI (h1_3.getD t5.toNat AV.undef) 6), AV.int .i64 (fI (h1_3.getD t5.toNat AV.undef) 7), AV.int .i64 (fI (h1_3.getD t5.toNat AV.undef) 8)]]⟩)]⟩
  else (bif !(fB (h0_3.getD t5.toNat AV.undef) 2 == fB (h1_3.getD t5.toNat AV.undef) 2) then k .ret ⟨[(4, AV.bool false)], [([0, 2], ⟨true, [], [AV.agg [AV.sl [.int .i64] h0_0, AV.sl [.int .i64] h0_1, AV.sl [.int .i64, .int .i64] h0_2, AV.sl [.sl [.int .i64], .int .i64, .bool, .int .i64, .int .i64, .int .i64, .int .i64, .int .i64, .int .i64] h0_3, AV.int .i64 h0_4]]⟩), ([0, 3], ⟨true, [], [AV.agg [AV.sl [.int .i64] h1_0, AV.sl [.int .i64] h1_1, AV.sl [.int .i64, .int .i64] h1_2, AV.sl [.sl [.int .i64], .int .i64, .bool, .int .i64, .int .i64, .int .i64, .int .i64, .int .i64, .int .i64] h1_3, AV.int .i64 h1_4]]⟩), ([1, 6], ⟨true, [], [AV.agg [AV.sl [.int .i64] (fL (h0_3.getD t5.toNat AV.undef) 0), AV.int .i64 (fI (h0_3.getD t5.toNat AV.undef) 1), AV.bool (fB (h0_3.getD t5.toNat AV.undef) 2), AV.int .i64 (fI (h0_3.getD t5.toNat AV.undef) 3), AV.int .i64 (fI (h0_3.getD t5.toNat AV.undef) 4), AV.int .i64 (fI (h0_3.getD t5.toNat AV.undef) 5), AV.int .i64 (fI (h0_3.getD t5.toNat AV.undef) 6), AV.int .i64 (fI (h0_3.getD t5.toNat AV.undef) 7), AV.int .i64 (fI (h0_3.getD t5.toNat AV.undef) 8)]]⟩), ([1, 7], ⟨true, [], [AV.agg [AV.sl [.int .i64] (fL (h1_3.getD t5.toNat AV.undef) 0), AV.int .i64 (fI (h1_3.getD t5.toNat AV.undef) 1), AV.bool (fB (h1_3.getD t5.toNat AV.undef) 2), AV.int .i64 (fI (h1_3.getD t5.toNat AV.undef) 3), AV.int .i64 (fI (h1_3.getD t5.toNat AV.undef) 4), AV.int .i64 (fI (h1_3.getD t5.toNat AV.undef) 5), AV.int .i64 (fI (h1_3.getD t5.toNat AV.undef) 6), AV.int .i64 (fI (h1_3.getD t5.toNat AV.undef) 7), AV.int .i64 (fI (h1_3.getD t5.toNat AV.undef) 8)]]⟩)]⟩
  else (bif !decide (fI (h0_3.getD t5.toNat AV.undef) 3 = fI (h1_3.getD t5.toNat AV.undef) 3) then k .ret ⟨[(4, AV.bool false)], [([0, 2], ⟨true, [], [AV.agg [AV.sl [.int .i64] h0_0, AV.sl [.int .i64] h0_1, AV.sl [.int .i64, .int .i64] h0_2, AV.sl [.sl [.int .i64], .int .i64, .bool, .int .i64, .int .i64, .int .i64, .int .i64, .int .i64, .int .i64] h0_3, AV.int .i64 h0_4]]⟩), ([0, 3], ⟨true, [], [AV.agg [AV.sl [.int .i64] h1_0, AV.sl [.int .i64] h1_1, AV.sl [.int .i64, .int .i64] h1_2, AV.sl [.sl [.int .i64], .int .i64, .bool, .int .i64, .int .i64, .int .i64, .int .i64, .int .i64, .int .i64] h1_3, AV.int .i64 h1_4]]⟩), ([1, 6], ⟨true, [], [AV.agg [AV.sl [.int .i64] (fL (h0_3.getD t5.toNat AV.undef) 0), AV.int .i64 (fI (h0_3.getD t5.toNat AV.undef) 1), AV.bool (fB (h0_3.getD t5.toNat AV.undef) 2), AV.int .i64 (fI (h0_3.getD t5.toNat AV.undef) 3), AV.int .i64 (fI (h0_3.getD t5.toNat AV.undef) 4), AV.int .i64 (fI (h0_3.getD t5.toNat AV.undef) 5), AV.int .i64 (fI (h0_3.getD t5.toNat AV.undef) 6), AV.int .i64 (fI (h0_3.getD t5.toNat AV.undef) 7), AV.int .i64 (fI (h0_3.getD t5.toNat AV.undef) 8)]]⟩), ([1, 7], ⟨true, [], [AV.agg [AV.sl [.int .i64] (fL (h1_3.getD t5.toNat AV.undef) 0), AV.int .i64 (fI (h1_3.getD t5.toNat AV.undef) 1), AV.bool (fB (h1_3.getD t5.toNat AV.undef) 2), AV.int .i64 (fI (h1_3.getD t5.toNat AV.undef) 3), AV.int .i64 (fI (h1_3.getD t5.toNat AV.undef) 4), AV.int .i64 (fI (h1_3.getD t5.toNat AV.undef) 5), AV.int .i64 (fI (h1_3.getD t5.toNat AV.undef) 6), AV.int .i64 (fI (h1_3.getD t5.toNat AV.undef) 7), AV.int .i64 (fI (h1_3.getD t5.toNat AV.undef) 8)]]⟩)]⟩
  else (bif !decide (fI (h0_3.getD t5.toNat AV.undef) 4 = fI (h1_3.getD t5.toNat AV.undef) 4) then k .ret ⟨[(4, AV.bool false)], [([0, 2], ⟨true, [], [AV.agg [AV.sl [.int .i64] h0_0, AV.sl [.int .i64] h0_1, AV.sl [.int .i64, .int .i64] h0_2, AV.sl [.sl [.int .i64], .int .i64, .bool, .int .i64, .int .i64, .int .i64, .int .i64, .int .i64, .int .i64] h0_3, AV.int .i64 h0_4]]⟩), ([0, 3], ⟨true, [], [AV.agg [AV.sl [.int .i64] h1_0, AV.sl [.int .i64] h1_1, AV.sl [.int .i64, .int .i64] h1_2, AV.sl [.sl [.int .i64], .int .i64, .bool, .int .i64, .int .i64, .int .i64, .int .i64, .int .i64, .int .i64] h1_3, AV.int .i64 h1_4]]⟩), ([1, 6], ⟨true, [], [AV.agg [AV.sl [.int .i64] (fL (h0_3.getD t5.toNat AV.undef) 0), AV.int .i64 (fI (h0_3.getD t5.toNat AV.undef) 1), AV.bool (fB (h0_3.getD t5.toNat AV.undef) 2), AV.int .i64 (fI (h0_3.getD t5.toNat AV.undef) 3), AV.int .i64 (fI (h0_3.getD t5.toNat AV.undef) 4), AV.int .i64 (fI (h0_3.getD t5.toNat AV.undef) 5), AV.int .i64 (fI (h0_3.getD t5.toNat AV.undef) 6), AV.int .i64 (fI (h0_3.getD t5.toNat AV.undef) 7), AV.int .i64 (fI (h0_3.getD t5.toNat AV.undef) 8)]]⟩), ([1, 7], ⟨true, [], [AV.agg [AV.sl [.int .i64] (fL (h1_3.getD t5.toNat AV.undef) 0), AV.int .i64 (fI (h1_3.getD t5.toNat AV.undef) 1), AV.bool (fB (h1_3.getD t5.toNat AV.undef) 2), AV.int .i64 (fI (h1_3.getD t5.toNat AV.undef) 3), AV.int .i64 (fI (h1_3.getD t5.toNat AV.undef) 4), AV.int .i64 (fI (h1_3.getD t5.toNat AV.undef) 5), AV.int .i64 (fI (h1_3.getD t5.toNat AV.undef) 6), AV.int .i64 (fI (h1_3.getD t5.toNat AV.undef) 7), AV.int .i64 (fI (h1_3.getD t5.toNat AV.undef) 8)]]⟩)]⟩
  else (bif !decide (fI (h0_3.getD t5.toNat AV.undef) 5 = fI (h1_3.getD t5.toNat AV.undef) 5) then k .ret ⟨[(4, AV.bool false)], [([0, 2], ⟨true, [], [AV.agg [AV.sl [.int .i64] h0_0, AV.sl [.int .i64] h0_1, AV.sl [.int .i64, .int .i64] h0_2, AV.sl [.sl [.int .i64], .int .i64, .bool, .int .i64, .int .i64, .int .i64, .int .i64, .int .i64, .int .i64] h0_3, AV.int .i64 h0_4]]⟩), ([0, 3], ⟨true, [], [AV.agg [AV.sl [.int .i64] h1_0, AV.sl [.int .i64] h1_1, AV.sl [.int .i64, .int .i64] h1_2, AV.sl [.sl [.int .i64], .int .i64, .bool, .int .i64, .int .i64, .int .i64, .int .i64, .int .i64, .int .i64] h1_3, AV.int .i64 h1_4]]⟩), ([1, 6], ⟨true, [], [AV.agg [AV.sl [.int .i64] (fL (h0_3.getD t5.toNat AV.undef) 0), AV.int .i64 (fI (h0_3.getD t5.toNat AV.undef) 1), AV.bool (fB (h0_3.getD t5.toNat AV.undef) 2), AV.int .i64 (fI (h0_3.getD t5.toNat AV.undef) 3), AV.int .i64 (fI (h0_3.getD t5.toNat AV.undef) 4), AV.int .i64 (fI (h0_3.getD t5.toNat AV.undef) 5), AV.int .i64 (fI (h0_3.getD t5.toNat AV.undef) 6), AV.int .i64 (fI (h0_3.getD t5.toNat AV.undef) 7), AV.int .i64 (fI (h0_3.getD t5.toNat AV.undef) 8)]]⟩), ([1, 7], ⟨true, [], [AV.agg [AV.sl [.int .i64] (fL (h1_3.getD t5.toNat AV.undef) 0), AV.int .i64 (fI (h1_3.getD t5.toNat AV.undef) 1), AV.bool (fB (h1_3.getD t5.toNat AV.undef) 2), AV.int .i64 (fI (h1_3.getD t5.toNat AV.undef) 3), AV.int .i64 (fI (h1_3.getD t5.toNat AV.undef) 4), AV.int .i64 (fI (h1_3.getD t5.toNat AV.undef) 5), AV.int .i64 (fI (h1_3.getD t5.toNat AV.undef) 6), AV.int .i64 (fI (h1_3.getD t5.toNat AV.undef) 7), AV.int .i64 (fI (h1_3.getD t5.toNat AV.undef) 8)]]⟩)]⟩
  else (bif !decide (fI (h0_3.getD t5.toNat AV.undef) 6 = fI (h1_3.getD t5.toNat AV.undef) 6) then k .ret ⟨[(4, AV.bool false)], [([0, 2], ⟨true, [], [AV.agg [AV.sl [.int .i64] h0_0, AV.sl [.int .i64] h0_1, AV.sl [.int .i64, .int .i64] h0_2, AV.sl [.sl [.int .i64], .int .i64, .bool, .int .i64, .int .i64, .int .i64, .int .i64, .int .i64, .int .i64] h0_3, AV.int .i64 h0_4]]⟩), ([0, 3], ⟨true, [], [AV.agg [AV.sl [.int .i64] h1_0, AV.sl [.int .i64] h1_1, AV.sl [.int .i64, .int .i64] h1_2, AV.sl [.sl [.int .i64], .int .i64, .bool, .int .i64, .int .i64, .int .i64, .int .i64, .int .i64, .int .i64] h1_3, AV.int .i64 h1_4]]⟩), ([1, 6], ⟨true, [], [AV.agg [AV.sl [.int .i64] (fL (h0_3.getD t5.toNat AV.undef) 0), AV.int .i64 (fI (h0_3.getD t5.toNat AV.undef) 1), AV.bool (fB (h0_3.getD t5.toNat AV.undef) 2), AV.int .i64 (fI (h0_3.getD t5.toNat AV.undef) 3), AV.int .i64 (fI (h0_3.getD t5.toNat AV.undef) 4), AV.int .i64 (fI (h0_3.getD t5.toNat AV.undef) 5), AV.int .i64 (fI (h0_3.getD t5.toNat AV.undef) 6), AV.int .i64 (fI (h0_3.getD t5.toNat AV.undef) 7), AV.int .i64 (fI (h0_3.getD t5.toNat AV.undef) 8)]]⟩), ([1, 7], ⟨true, [], [AV.agg [AV.sl [.int .i64] (fL (h1_3.getD t5.toNat AV.undef) 0), AV.int .i64 (fI (h1_3.getD t5.toNat AV.undef) 1), AV.bool (fB (h1_3.getD t5.toNat AV.undef) 2), AV.int .i64 (fI (h1_3.getD t5.toNat AV.undef) 3), AV.int .i64 (fI (h1_3.getD t5.toNat AV.undef) 4), AV.int .i64 (fI (h1_3.getD t5.toNat AV.undef) 5), AV.int .i64 (fI (h1_3.getD t5.toNat AV.undef) 6), AV.int .i64 (fI (h1_3.getD t5.toNat AV.undef) 7), AV.int .i64 (fI (h1_3.getD t5.toNat AV.undef) 8)]]⟩)]⟩
  else (bif !decide (fI (h0_3.getD t5.toNat AV.undef) 7 = fI (h1_3.getD t5.toNat AV.undef) 7) then k .ret ⟨[(4, AV.bool false)], [([0, 2], ⟨true, [], [AV.agg [AV.sl [.int .i64] h0_0, AV.sl [.int .i64] h0_1, AV.sl [.int .i64, .int .i64] h0_2, AV.sl [.sl [.int .i64], .int .i64, .bool, .int .i64, .int .i64, .int .i64, .int .i64, .int .i64, .int .i64] h0_3, AV.int .i64 h0_4]]⟩), ([0, 3], ⟨true, [], [AV.agg [AV.sl [.int .i64] h1_0, AV.sl [.int .i64] h1_1, AV.sl [.int .i64, .int .i64] h1_2, AV.sl [.sl [.int .i64], .int .i64, .bool, .int .i64, .int .i64, .int .i64, .int .i64, .int .i64, .int .i64] h1_3, AV.int .i64 h1_4]]⟩), ([1, 6], ⟨true, [], [AV.agg [AV.sl [.int .i64] (fL (h0_3.getD t5.toNat AV.undef) 0), AV.int .i64 (fI (h0_3.getD t5.toNat AV.undef) 1), AV.bool (fB (h0_3.getD t5.toNat AV.undef) 2), AV.int .i64 (fI (h0_3.getD t5.toNat AV.undef) 3), AV.int .i64 (fI (h0_3.getD t5.toNat AV.undef) 4), AV.int .i64 (fI (h0_3.getD t5.toNat AV.undef) 5), AV.int .i64 (fI (h0_3.getD t5.toNat AV.undef) 6), AV.int .i64 (fI (h0_3.getD t5.toNat AV.undef) 7), AV.int .i64 (fI (h0_3.getD t5.toNat AV.undef) 8)]]⟩), ([1, 7], ⟨true, [], [AV.agg [AV.sl [.int .i64] (fL (h1_3.getD t5.toNat AV.undef) 0), AV.int .i64 (fI (h1_3.getD t5.toNat AV.undef) 1), AV.bool (fB (h1_3.getD t5.toNat AV.undef) 2), AV.int .i64 (fI (h1_3.getD t5.toNat AV.undef) 3), AV.int .i64 (fI (h1_3.getD t5.toNat AV.undef) 4), AV.int .i64 (fI (h1_3.getD t5.toNat AV.undef) 5), AV.int .i64 (fI (h1_3.getD t5.toNat AV.undef) 6), AV.int .i64 (fI (h1_3.getD t5.toNat AV.undef) 7), AV.int .i64 (fI (h1_3.getD t5.toNat AV.undef) 8)]]⟩)]⟩
  else (bif !decide (fI (h0_3.getD t5.toNat AV.undef) 8 = fI (h1_3.getD t5.toNat AV.undef) 8) then k .ret ⟨[(4, AV.bool false)], [([0, 2], ⟨true, [], [AV.agg [AV.sl [.int .i64] h0_0, AV.sl [.int .i64] h0_1, AV.sl [.int .i64, .int .i64] h0_2, AV.sl [.sl [.int .i64], .int .i64, .bool, .int .i64, .int .i64, .int .i64, .int .i64, .int .i64, .int .i64] h0_3, AV.int .i64 h0_4]]⟩), ([0, 3], ⟨true, [], [AV.agg [AV.sl [.int .i64] h1_0, AV.sl [.int .i64] h1_1, AV.sl [.int .i64, .int .i64] h1_2, AV.sl [.sl [.int .i64], .int .i64, .bool, .int .i64, .int .i64, .int .i64, .int .i64, .int .i64, .int .i64] h1_3, AV.int .i64 h1_4]]⟩), ([1, 6], ⟨true, [], [AV.agg [AV.sl [.int .i64] (fL (h0_3.getD t5.toNat AV.undef) 0), AV.int .i64 (fI (h0_3.getD t5.toNat AV.undef) 1), AV.bool (fB (h0_3.getD t5.toNat AV.undef) 2), AV.int .i64 (fI (h0_3.getD t5.toNat AV.undef) 3), AV.int .i64 (fI (h0_3.getD t5.toNat AV.undef) 4), AV.int .i64 (fI (h0_3.getD t5.toNat AV.undef) 5), AV.int .i64 (fI (h0_3.getD t5.toNat AV.undef) 6), AV.int .i64 (fI (h0_3.getD t5.toNat AV.undef) 7), AV.int .i64 (fI (h0_3.getD t5.toNat AV.undef) 8)]]⟩), ([1, 7], ⟨true, [], [AV.agg [AV.sl [.int .i64] (fL (h1_3.getD t5.toNat AV.undef) 0), AV.int .i64 (fI (h1_3.getD t5.toNat AV.undef) 1), AV.bool (fB (h1_3.getD t5.toNat AV.undef) 2), AV.int .i64 (fI (h1_3.getD t5.toNat AV.undef) 3), AV.int .i64 (fI (h1_3.getD t5.toNat AV.undef) 4), AV.int .i64 (fI (h1_3.getD t5.toNat AV.undef) 5), AV.int .i64 (fI (h1_3.getD t5.toNat AV.undef) 6), AV.int .i64 (fI (h1_3.getD t5.toNat AV.undef) 7), AV.int .i64 (fI (h1_3.getD t5.toNat AV.undef) 8)]]⟩)]⟩
  else next ⟨[(2, AV.ptr [0, 2] 0 0), (3, AV.ptr [0, 3] 0 0), (5, AV.int .i64 (IntKind.i64.wrap (t5 + 1)))], [([0, 2], ⟨true, [], [AV.agg [AV.sl [.int .i64] h0_0, AV.sl [.int .i64] h0_1, AV.sl [.int .i64, .int .i64] h0_2, AV.sl [.sl [.int .i64], .int .i64, .bool, .int .i64, .int .i64, .int .i64, .int .i64, .int .i64, .int .i64] h0_3, AV.int .i64 h0_4]]⟩), ([0, 3], ⟨true, [], [AV.agg [AV.sl [.int .i64] h1_0, AV.sl [.int .i64] h1_1, AV.sl [.int .i64, .int .i64] h1_2, AV.sl [.sl [.int .i64], .int .i64, .bool, .int .i64, .int .i64, .int .i64, .int .i64, .int .i64, .int .i64] h1_3, AV.int .i64 h1_4]]⟩)]⟩)))))))))
  else none)
  else none)
  else none)
  else k (.exit 0) ⟨[], [([0, 2], ⟨true, [], [AV.agg [AV.sl [.int .i64] h0_0, AV.sl [.int .i64] h0_1, AV.sl [.int .i64, .int .i64] h0_2, AV.sl [.sl [.int .i64], .int .i64, .bool, .int .i64, .int .i64, .int .i64, .int .i64, .int .i64, .int .i64] h0_3, AV.int .i64 h0_4]]⟩), ([0, 3], ⟨true, [], [AV.agg [AV.sl [.int .i64] h1_0, AV.sl [.int .i64] h1_1, AV.sl [.int .i64, .int .i64] h1_2, AV.sl [.sl [.int .i64], .int .i64, .bool, .int .i64, .int .i64, .int .i64, .int .i64, .int .i64, .int .i64] h1_3, AV.int .i64 h1_4]]⟩)]⟩) := by kernel_rfl
theorem st15_0 (h0_0 : List AV) (h0_1 : List AV) (h0_2 : List AV) (h0_3 : List AV) (h0_4 : Int) (h1_0 : List AV) (h1_1 : List AV) (h1_2 : List AV) (h1_3 : List AV) (h1_4 : Int) (ce : CallE) (k : Kont) (s : Int) (next : St → Option AV) : stepA (codeA c15 ce [] 15 0 (sub [1, 1, 0, 1, 0, 0] (body Try.f15))) (normA [] [2, 3, 5]) next ((fun s : Int => ⟨[(2, AV.ptr [0, 2] 0 0), (3, AV.ptr [0, 3] 0 0), (5, AV.int .i64 s)], [([0, 2], ⟨true, [], [AV.agg [AV.sl [.int .i64] h0_0, AV.sl [.int .i64] h0_1, AV.sl [.int .i64, .int .i64] h0_2, AV.sl [.sl [.int .i64], .int .i64, .bool, .int .i64, .int .i64, .int .i64, .int .i64, .int .i64, .int .i64] h0_3, AV.int .i64 h0_4]]⟩), ([0, 3], ⟨true, [], [AV.agg [AV.sl [.int .i64] h1_0, AV.sl [.int .i64] h1_1, AV.sl [.int .i64, .int .i64] h1_2, AV.sl [.sl [.int .i64], .int .i64, .bool, .int .i64, .int .i64, .int .i64, .int .i64, .int .i64, .int .i64] h1_3, AV.int .i64 h1_4]]⟩)]⟩) s) k = (R15_0 h0_0 h0_1 h0_2 h0_3 h0_4 h1_0 h1_1 h1_2 h1_3 h1_4 s).el none (fun s => next ((fun s : Int => ⟨[(2, AV.ptr [0, 2] 0 0), (3, AV.ptr [0, 3] 0 0), (5, AV.int .i64 s)], [([0, 2], ⟨true, [], [AV.agg [AV.sl [.int .i64] h0_0, AV.sl [.int .i64] h0_1, AV.sl [.int .i64, .int .i64] h0_2, AV.sl [.sl [.int .i64], .int .i64, .bool, .int .i64, .int .i64, .int .i64, .int .i64, .int .i64, .int .i64] h0_3, AV.int .i64 h0_4]]⟩), ([0, 3], ⟨true, [], [AV.agg [AV.sl [.int .i64] h1_0, AV.sl [.int .i64] h1_1, AV.sl [.int .i64, .int .i64] h1_2, AV.sl [.sl [.int .i64], .int .i64, .bool, .int .i64, .int .i64, .int .i64, .int .i64, .int .i64, .int .i64] h1_3, AV.int .i64 h1_4]]⟩)]⟩) s)) (sumE (fun _ : Unit => k (.exit 0) ⟨[], [([0, 2], ⟨true, [], [AV.agg [AV.sl [.int .i64] h0_0, AV.sl [.int .i64] h0_1, AV.sl [.int .i64, .int .i64] h0_2, AV.sl [.sl [.int .i64], .int .i64, .bool, .int .i64, .int .i64, .int .i64, .int .i64, .int .i64, .int .i64] h0_3, AV.int .i64 h0_4]]⟩), ([0, 3], ⟨true, [], [AV.agg [AV.sl [.int .i64] h1_0, AV.sl [.int .i64] h1_1, AV.sl [.int .i64, .int .i64] h1_2, AV.sl [.sl [.int .i64], .int .i64, .bool, .int .i64, .int .i64, .int .i64, .int .i64, .int .i64, .int .i64] h1_3, AV.int .i64 h1_4]]⟩)]⟩) (fun p : (List AV) × Int × Bool × Int × Int × Int × Int × Int × Int × (List AV) × Int × Bool × Int × Int × Int × Int × Int × Int => k .ret ⟨[(4, AV.bool false)], [([0, 2], ⟨true, [], [AV.agg [AV.sl [.int .i64] h0_0, AV.sl [.int .i64] h0_1, AV.sl [.int .i64, .int .i64] h0_2, AV.sl [.sl [.int .i64], .int .i64, .bool, .int .i64, .int .i64, .int .i64, .int .i64, .int .i64, .int .i64] h0_3, AV.int .i64 h0_4]]⟩), ([0, 3], ⟨true, [], [AV.agg [AV.sl [.int .i64] h1_0, AV.sl [.int .i64] h1_1, AV.sl [.int .i64, .int .i64] h1_2, AV.sl [.sl [.int .i64], .int .i64, .bool, .int .i64, .int .i64, .int .i64, .int .i64, .int .i64, .int .i64] h1_3, AV.int .i64 h1_4]]⟩), ([1, 6], ⟨true, [], [AV.agg [AV.sl [.int .i64] p.1, AV.int .i64 p.2.1, AV.bool p.2.2.1, AV.int .i64 p.2.2.2.1, AV.int .i64 p.2.2.2.2.1, AV.int .i64 p.2.2.2.2.2.1, AV.int .i64 p.2.2.2.2.2.2.1, AV.int .i64 p.2.2.2.2.2.2.2.1, AV.int .i64 p.2.2.2.2.2.2.2.2.1]]⟩), ([1, 7], ⟨true, [], [AV.agg [AV.sl [.int .i64] p.2.2.2.2.2.2.2.2.2.1, AV.int .i64 p.2.2.2.2.2.2.2.2.2.2.1, AV.bool p.2.2.2.2.2.2.2.2.2.2.2.1, AV.int .i64 p.2.2.2.2.2.2.2.2.2.2.2.2.1, AV.int .i64 p.2.2.2.2.2.2.2.2.2.2.2.2.2.1, AV.int .i64 p.2.2.2.2.2.2.2.2.2.2.2.2.2.2.1, AV.int .i64 p.2.2.2.2.2.2.2.2.2.2.2.2.2.2.2.1, AV.int .i64 p.2.2.2.2.2.2.2.2.2.2.2.2.2.2.2.2.1, AV.int .i64 p.2.2.2.2.2.2.2.2.2.2.2.2.2.2.2.2.2]]⟩)]⟩)) := (s15_0 ce s h0_0 h0_1 h0_2 h0_3 h0_4 h1_0 h1_1 h1_2 h1_3 h1_4 next k).trans (by unfold R15_0; unfold F15_0; simp only [el_cond, el_ro, el_sum, el_fail, el_next, el_stop] <;> rfl)
theorem ok15_0 {ce : CallE} : LoopOK c15 ce [] 15 0 (sub [1, 1, 0, 1, 0, 0] (body Try.f15)) := by
  intro m hm st k r h
  obtain rfl : l15_0 = m := Option.some.inj hm
  unfold l15_0 at h
  split at h
  · rename_i g0 g1 g2 g3 g4 g5 t5 g6 g7 h0_0 g8 h0_1 g9 h0_2 g10 h0_3 h0_4 g11 g12 h1_0 g13 h1_1 g14 h1_2 g15 h1_3 h1_4
    obtain ⟨hg, h⟩ := bif_some h
    simp only [Bool.and_eq_true] at hg
    obtain ⟨⟨⟨⟨⟨⟨⟨⟨⟨⟨⟨⟨⟨⟨⟨q0, q1⟩, q2⟩, q3⟩, q4⟩, q5⟩, q6⟩, q7⟩, q8⟩, q9⟩, q10⟩, q11⟩, q12⟩, q13⟩, q14⟩, q15⟩ := hg
    obtain rfl := (nmEq_iff _ _).1 q0
    obtain rfl := Nat.eq_of_beq_eq_true q1
    obtain rfl := Nat.eq_of_beq_eq_true q2
    obtain rfl := (nmEq_iff _ _).1 q3
    obtain rfl := Nat.eq_of_beq_eq_true q4
    obtain rfl := Nat.eq_of_beq_eq_true q5
    obtain rfl := (nmEq_iff _ _).1 q6
    obtain rfl := ctsEq_eq _ _ q7
    obtain rfl := ctsEq_eq _ _ q8
    obtain rfl := ctsEq_eq _ _ q9
    obtain rfl := ctsEq_eq _ _ q10
    obtain rfl := (nmEq_iff _ _).1 q11
    obtain rfl := ctsEq_eq _ _ q12
    obtain rfl := ctsEq_eq _ _ q13
    obtain rfl := ctsEq_eq _ _ q14
    obtain rfl := ctsEq_eq _ _ q15
    refine ⟨(((h0_3.length : Int) - t5).toNat + 1), ?_⟩
    rw [← h]
    exact loop_run (fun s : Int => ⟨[(2, AV.ptr [0, 2] 0 0), (3, AV.ptr [0, 3] 0 0), (5, AV.int .i64 s)], [([0, 2], ⟨true, [], [AV.agg [AV.sl [.int .i64] h0_0, AV.sl [.int .i64] h0_1, AV.sl [.int .i64, .int .i64] h0_2, AV.sl [.sl [.int .i64], .int .i64, .bool, .int .i64, .int .i64, .int .i64, .int .i64, .int .i64, .int .i64] h0_3, AV.int .i64 h0_4]]⟩), ([0, 3], ⟨true, [], [AV.agg [AV.sl [.int .i64] h1_0, AV.sl [.int .i64] h1_1, AV.sl [.int .i64, .int .i64] h1_2, AV.sl [.sl [.int .i64], .int .i64, .bool, .int .i64, .int .i64, .int .i64, .int .i64, .int .i64, .int .i64] h1_3, AV.int .i64 h1_4]]⟩)]⟩) (sumE (fun _ : Unit => k (.exit 0) ⟨[], [([0, 2], ⟨true, [], [AV.agg [AV.sl [.int .i64] h0_0, AV.sl [.int .i64] h0_1, AV.sl [.int .i64, .int .i64] h0_2, AV.sl [.sl [.int .i64], .int .i64, .bool, .int .i64, .int .i64, .int .i64, .int .i64, .int .i64, .int .i64] h0_3, AV.int .i64 h0_4]]⟩), ([0, 3], ⟨true, [], [AV.agg [AV.sl [.int .i64] h1_0, AV.sl [.int .i64] h1_1, AV.sl [.int .i64, .int .i64] h1_2, AV.sl [.sl [.int .i64], .int .i64, .bool, .int .i64, .int .i64, .int .i64, .int .i64, .int .i64, .int .i64] h1_3, AV.int .i64 h1_4]]⟩)]⟩) (fun p : (List AV) × Int × Bool × Int × Int × Int × Int × Int × Int × (List AV) × Int × Bool × Int × Int × Int × Int × Int × Int => k .ret ⟨[(4, AV.bool false)], [([0, 2], ⟨true, [], [AV.agg [AV.sl [.int .i64] h0_0, AV.sl [.int .i64] h0_1, AV.sl [.int .i64, .int .i64] h0_2, AV.sl [.sl [.int .i64], .int .i64, .bool, .int .i64, .int .i64, .int .i64, .int .i64, .int .i64, .int .i64] h0_3, AV.int .i64 h0_4]]⟩), ([0, 3], ⟨true, [], [AV.agg [AV.sl [.int .i64] h1_0, AV.sl [.int .i64] h1_1, AV.sl [.int .i64, .int .i64] h1_2, AV.sl [.sl [.int .i64], .int .i64, .bool, .int .i64, .int .i64, .int .i64, .int .i64, .int .i64, .int .i64] h1_3, AV.int .i64 h1_4]]⟩), ([1, 6], ⟨true, [], [AV.agg [AV.sl [.int .i64] p.1, AV.int .i64 p.2.1, AV.bool p.2.2.1, AV.int .i64 p.2.2.2.1, AV.int .i64 p.2.2.2.2.1, AV.int .i64 p.2.2.2.2.2.1, AV.int .i64 p.2.2.2.2.2.2.1, AV.int .i64 p.2.2.2.2.2.2.2.1, AV.int .i64 p.2.2.2.2.2.2.2.2.1]]⟩), ([1, 7], ⟨true, [], [AV.agg [AV.sl [.int .i64] p.2.2.2.2.2.2.2.2.2.1, AV.int .i64 p.2.2.2.2.2.2.2.2.2.2.1, AV.bool p.2.2.2.2.2.2.2.2.2.2.2.1, AV.int .i64 p.2.2.2.2.2.2.2.2.2.2.2.2.1, AV.int .i64 p.2.2.2.2.2.2.2.2.2.2.2.2.2.1, AV.int .i64 p.2.2.2.2.2.2.2.2.2.2.2.2.2.2.1, AV.int .i64 p.2.2.2.2.2.2.2.2.2.2.2.2.2.2.2.1, AV.int .i64 p.2.2.2.2.2.2.2.2.2.2.2.2.2.2.2.2.1, AV.int .i64 p.2.2.2.2.2.2.2.2.2.2.2.2.2.2.2.2.2]]⟩)]⟩)) (st15_0 h0_0 h0_1 h0_2 h0_3 h0_4 h1_0 h1_1 h1_2 h1_3 h1_4 ce k) _ t5
  · cases h
def q15 (a0_0 : List AV) (a0_1 : List AV) (a0_2 : List AV) (a0_3 : List AV) (a0_4 : Int) (a1_0 : List AV) (a1_1 : List AV) (a1_2 : List AV) (a1_3 : List AV) (a1_4 : Int) : Bool := (q58 a0_0 a0_1 a0_2 a1_0 a1_1 a1_2 && (bif !(v58_0 a0_0 a0_1 a0_2 a1_0 a1_1 a1_2) then true else (bif !decide (a0_4 = a1_4) then true else (bif !decide ((a0_3.length : Int) = (a1_3.length : Int)) then true else (ro (runW (R15_0 a0_0 a0_1 a0_2 a0_3 a0_4 a1_0 a1_1 a1_2 a1_3 a1_4) (((a0_3.length : Int) - 0).toNat + 1) 0) false (sumE (fun _ => true) (fun p11 => true)))))))
def v15_0 (a0_0 : List AV) (a0_1 : List AV) (a0_2 : List AV) (a0_3 : List AV) (a0_4 : Int) (a1_0 : List AV) (a1_1 : List AV) (a1_2 : List AV) (a1_3 : List AV) (a1_4 : Int) : Bool := (bif !(v58_0 a0_0 a0_1 a0_2 a1_0 a1_1 a1_2) then false else (bif !decide (a0_4 = a1_4) then false else (bif !decide ((a0_3.length : Int) = (a1_3.length : Int)) then false else (ro (runW (R15_0 a0_0 a0_1 a0_2 a0_3 a0_4 a1_0 a1_1 a1_2 a1_3 a1_4) (((a0_3.length : Int) - 0).toNat + 1) 0) false (sumE (fun _ => true) (fun p11 => false))))))
theorem e15 (a0_0 : List AV) (a0_1 : List AV) (a0_2 : List AV) (a0_3 : List AV) (a0_4 : Int) (a1_0 : List AV) (a1_1 : List AV) (a1_2 : List AV) (a1_3 : List AV) (a1_4 : Int) : funA c15 0 15 [AV.agg [AV.sl [.int .i64] a0_0, AV.sl [.int .i64] a0_1, AV.sl [.int .i64, .int .i64] a0_2, AV.sl [.sl [.int .i64], .int .i64, .bool, .int .i64, .int .i64, .int .i64, .int .i64, .int .i64, .int .i64] a0_3, AV.int .i64 a0_4], AV.agg [AV.sl [.int .i64] a1_0, AV.sl [.int .i64] a1_1, AV.sl [.int .i64, .int .i64] a1_2, AV.sl [.sl [.int .i64], .int .i64, .bool, .int .i64, .int .i64, .int .i64, .int .i64, .int .i64, .int .i64] a1_3, AV.int .i64 a1_4]] = (bif q58 a0_0 a0_1 a0_2 a1_0 a1_1 a1_2 then (bif !(v58_0 a0_0 a0_1 a0_2 a1_0 a1_1 a1_2) then some (AV.bool false)
  else (bif !decide (a0_4 = a1_4) then some (AV.bool false)
  else (bif !decide ((a0_3.length : Int) = (a1_3.length : Int)) then some (AV.bool false)
  else (ro (runW (R15_0 a0_0 a0_1 a0_2 a0_3 a0_4 a1_0 a1_1 a1_2 a1_3 a1_4) (((a0_3.length : Int) - 0).toNat + 1) 0) none (sumE (fun _ => some (AV.bool true)) (fun p11 => some (AV.bool false)))))))
  else none) := by kernel_rfl
theorem r15 (a0_0 : List AV) (a0_1 : List AV) (a0_2 : List AV) (a0_3 : List AV) (a0_4 : Int) (a1_0 : List AV) (a1_1 : List AV) (a1_2 : List AV) (a1_3 : List AV) (a1_4 : Int) (h : q15 a0_0 a0_1 a0_2 a0_3 a0_4 a1_0 a1_1 a1_2 a1_3 a1_4 = true) : funA c15 0 15 [AV.agg [AV.sl [.int .i64] a0_0, AV.sl [.int .i64] a0_1, AV.sl [.int .i64, .int .i64] a0_2, AV.sl [.sl [.int .i64], .int .i64, .bool, .int .i64, .int .i64, .int .i64, .int .i64, .int .i64, .int .i64] a0_3, AV.int .i64 a0_4], AV.agg [AV.sl [.int .i64] a1_0, AV.sl [.int .i64] a1_1, AV.sl [.int .i64, .int .i64] a1_2, AV.sl [.sl [.int .i64], .int .i64, .bool, .int .i64, .int .i64, .int .i64, .int .i64, .int .i64, .int .i64] a1_3, AV.int .i64 a1_4]] = some (AV.bool (v15_0 a0_0 a0_1 a0_2 a0_3 a0_4 a1_0 a1_1 a1_2 a1_3 a1_4)) := (e15 a0_0 a0_1 a0_2 a0_3 a0_4 a1_0 a1_1 a1_2 a1_3 a1_4).trans ((brL (br (fun b => some (AV.bool (bif b then false else (bif !decide (a0_4 = a1_4) then false else (bif !decide ((a0_3.length : Int) = (a1_3.length : Int)) then false else (ro (runW (R15_0 a0_0 a0_1 a0_2 a0_3 a0_4 a1_0 a1_1 a1_2 a1_3 a1_4) (((a0_3.length : Int) - 0).toNat + 1) 0) false (sumE (fun _ => true) (fun p11 => false)))))))) (fun _ => rfl) (br (fun b => some (AV.bool (bif b then false else (bif !decide ((a0_3.length : Int) = (a1_3.length : Int)) then false else (ro (runW (R15_0 a0_0 a0_1 a0_2 a0_3 a0_4 a1_0 a1_1 a1_2 a1_3 a1_4) (((a0_3.length : Int) - 0).toNat + 1) 0) false (sumE (fun _ => true) (fun p11 => false))))))) (fun _ => rfl) (br (fun b => some (AV.bool (bif b then false else (ro (runW (R15_0 a0_0 a0_1 a0_2 a0_3 a0_4 a1_0 a1_1 a1_2 a1_3 a1_4) (((a0_3.length : Int) - 0).toNat + 1) 0) false (sumE (fun _ => true) (fun p11 => false)))))) (fun _ => rfl) (brO (fun o : Option (Unit ⊕ ((List AV) × Int × Bool × Int × Int × Int × Int × Int × Int × (List AV) × Int × Bool × Int × Int × Int × Int × Int × Int)) => some (AV.bool (ro o false (sumE (fun _ => true) (fun p11 => false))))) (brS (fun o : Unit ⊕ ((List AV) × Int × Bool × Int × Int × Int × Int × Int × Int × (List AV) × Int × Bool × Int × Int × Int × Int × Int × Int) => some (AV.bool ((sumE (fun _ => true) (fun p11 => false)) o))) (fun _ => (fun _ => rfl)) (fun p11 => (fun _ => rfl)))))))) h)
def m15 : TModel
  | [.agg [.sl g0 a0_0, .sl g1 a0_1, .sl g2 a0_2, .sl g3 a0_3, .int .i64 a0_4], .agg [.sl g4 a1_0, .sl g5 a1_1, .sl g6 a1_2, .sl g7 a1_3, .int .i64 a1_4]] => bif ctsEq g0 ([.int .i64]) && ctsEq g1 ([.int .i64]) && ctsEq g2 ([.int .i64, .int .i64]) && ctsEq g3 ([.sl [.int .i64], .int .i64, .bool, .int .i64, .int .i64, .int .i64, .int .i64, .int .i64, .int .i64]) && ctsEq g4 ([.int .i64]) && ctsEq g5 ([.int .i64]) && ctsEq g6 ([.int .i64, .int .i64]) && ctsEq g7 ([.sl [.int .i64], .int .i64, .bool, .int .i64, .int .i64, .int .i64, .int .i64, .int .i64, .int .i64]) then some (q15 a0_0 a0_1 a0_2 a0_3 a0_4 a1_0 a1_1 a1_2 a1_3 a1_4, AV.bool (v15_0 a0_0 a0_1 a0_2 a0_3 a0_4 a1_0 a1_1 a1_2 a1_3 a1_4)) else none
  | _ => none
theorem k15 : Known Try.prog 15 := ⟨Try.f15, Try.func15, by kernel_rfl, by kernel_rfl⟩
theorem meets15 : Meets Try.prog 15 m15 := by
  refine meet (f := Try.f15) (l := [(0, sub [1, 1, 0, 1, 0, 0] (body Try.f15))]) (hs := [(15, 0, [2, 3, 5]), (15, 999, [4]), (15, 1000, []), (15, 1001, [2, 3, 5])]) (ts := [(58, m58), (59, m59)]) (ws := []) (is := []) (ls := [(15, 0, l15_0)]) (lvl := 0) mixed k15 Try.func15 (by kernel_rfl) (loops_cons ok15_0 noLoop) (allT_cons meets58 (allT_cons meets59 allT_nil)) allM_nil noI fun w xs us r hl hv h => ?_
  unfold m15 at h
  split at h
  · rename_i g0 a0_0 g1 a0_1 g2 a0_2 g3 a0_3 a0_4 g4 a1_0 g5 a1_1 g6 a1_2 g7 a1_3 a1_4
    obtain ⟨hg, h⟩ := bif_pair h
    simp only [Bool.and_eq_true] at hg
    obtain ⟨⟨⟨⟨⟨⟨⟨q0, q1⟩, q2⟩, q3⟩, q4⟩, q5⟩, q6⟩, q7⟩ := hg
    obtain rfl := ctsEq_eq _ _ q0
    obtain rfl := ctsEq_eq _ _ q1
    obtain rfl := ctsEq_eq _ _ q2
    obtain rfl := ctsEq_eq _ _ q3
    obtain rfl := ctsEq_eq _ _ q4
    obtain rfl := ctsEq_eq _ _ q5
    obtain rfl := ctsEq_eq _ _ q6
    obtain rfl := ctsEq_eq _ _ q7
    obtain ⟨h1, rfl⟩ := pair_inj h
    exact r15 a0_0 a0_1 a0_2 a0_3 a0_4 a1_0 a1_1 a1_2 a1_3 a1_4 h1
  · cases h

/-! ### 64 slices.Equal[[]int,int] -/
def F64_0 (t0 : List AV) (t1 : List AV) (t12 : Int) (t13 : Int) : Out (Int) (Unit ⊕ Unit) := (bif decide (t13 < t12) then (bif (decide (0 ≤ t13) && decide (t13 < (t0.length : Int))) then (bif (decide (0 ≤ t13) && decide (t13 < (t1.length : Int))) then (bif !decide (fI (t0.getD t13.toNat AV.undef) 0 = fI (t1.getD t13.toNat AV.undef) 0) then .stop (.inr ())
  else .next (IntKind.i64.wrap (t13 + 1)))
  else .fail)
  else .fail)
  else .stop (.inl ()))
def R64_0 (t0 : List AV) (t1 : List AV) (t12 : Int) : (Int) → Out (Int) (Unit ⊕ Unit) := fun s : Int => F64_0 t0 t1 t12 s
def l64_0 : LModel := fun _ _ st k => match st with
  | ⟨[(0, .sl g0 t0), (1, .sl g1 t1), (12, .int .i64 t12), (13, .int .i64 t13)], []⟩ => bif ctsEq g0 ([.int .i64]) && ctsEq g1 ([.int .i64]) then ro (runW (R64_0 t0 t1 t12) ((t12 - t13).toNat + 1) t13) none (sumE (fun _ : Unit => k (.exit 0) ⟨[], []⟩) (fun _ : Unit => k .ret ⟨[(4, AV.bool false)], []⟩)) else none
  | _ => none
noncomputable def c64 : Cfg := cfg Try.prog [(64, 0, [0, 1, 12, 13]), (64, 999, [4]), (64, 1000, []), (64, 1001, [0, 1, 12, 13])] [] [] [] [(64, 0, l64_0)]
theorem s64_0 (ce : CallE) (t0 : List AV) (t1 : List AV) (t12 : Int) (t13 : Int) (next : St → Option AV) (k : Kont) : stepA (codeA c64 ce [] 64 0 (sub [1, 1, 0, 1, 0, 0] (body Try.f64))) (normA [] [0, 1, 12, 13]) next ⟨[(0, AV.sl [.int .i64] t0), (1, AV.sl [.int .i64] t1), (12, AV.int .i64 t12), (13, AV.int .i64 t13)], []⟩ k = (bif decide (t13 < t12) then (bif (decide (0 ≤ t13) && decide (t13 < (t0.length : Int))) then (bif (decide (0 ≤ t13) && decide (t13 < (t1.length : Int))) then (bif !decide (fI (t0.getD t13.toNat AV.undef) 0 = fI (t1.getD t13.toNat AV.undef) 0) then k .ret ⟨[(4, AV.bool false)], []⟩
  else next ⟨[(0, AV.sl [.int .i64] t0), (1, AV.sl [.int .i64] t1), (12, AV.int .i64 t12), (13, AV.int .i64 (IntKind.i64.wrap (t13 + 1)))], []⟩)
  else none)
  else none)
  else k (.exit 0) ⟨[], []⟩) := by kernel_rfl
theorem st64_0 (t0 : List AV) (t1 : List AV) (t12 : Int) (ce : CallE) (k : Kont) (s : Int) (next : St → Option AV) : stepA (codeA c64 ce [] 64 0 (sub [1, 1, 0, 1, 0, 0] (body Try.f64))) (normA [] [0, 1, 12, 13]) next ((fun s : Int => ⟨[(0, AV.sl [.int .i64] t0), (1, AV.sl [.int .i64] t1), (12, AV.int .i64 t12), (13, AV.int .i64 s)], []⟩) s) k = (R64_0 t0 t1 t12 s).el none (fun s => next ((fun s : Int => ⟨[(0, AV.sl [.int .i64] t0), (1, AV.sl [.int .i64] t1), (12, AV.int .i64 t12), (13, AV.int .i64 s)], []⟩) s)) (sumE (fun _ : Unit => k (.exit 0) ⟨[], []⟩) (fun _ : Unit => k .ret ⟨[(4, AV.bool false)], []⟩)) := (s64_0 ce t0 t1 t12 s next k).trans (by unfold R64_0; unfold F64_0; simp only [el_cond, el_ro, el_sum, el_fail, el_next, el_stop] <;> rfl)
theorem ok64_0 {ce : CallE} : LoopOK c64 ce [] 64 0 (sub [1, 1, 0, 1, 0, 0] (body Try.f64)) := by
  intro m hm st k r h
  obtain rfl : l64_0 = m := Option.some.inj hm
  unfold l64_0 at h
  split at h
  · rename_i g0 t0 g1 t1 t12 t13
    obtain ⟨hg, h⟩ := bif_some h
    simp only [Bool.and_eq_true] at hg
    obtain ⟨q0, q1⟩ := hg
    obtain rfl := ctsEq_eq _ _ q0
    obtain rfl := ctsEq_eq _ _ q1
    refine ⟨((t12 - t13).toNat + 1), ?_⟩
    rw [← h]
    exact loop_run (fun s : Int => ⟨[(0, AV.sl [.int .i64] t0), (1, AV.sl [.int .i64] t1), (12, AV.int .i64 t12), (13, AV.int .i64 s)], []⟩) (sumE (fun _ : Unit => k (.exit 0) ⟨[], []⟩) (fun _ : Unit => k .ret ⟨[(4, AV.bool false)], []⟩)) (st64_0 t0 t1 t12 ce k) _ t13
  · cases h
def q64 (a0 : List AV) (a1 : List AV) : Bool := (bif !decide ((a0.length : Int) = (a1.length : Int)) then true else (ro (runW (R64_0 a0 a1 (a0.length : Int)) (((a0.length : Int) - 0).toNat + 1) 0) false (sumE (fun _ => true) (fun _ => true))))
def v64_0 (a0 : List AV) (a1 : List AV) : Bool := (bif !decide ((a0.length : Int) = (a1.length : Int)) then false else (ro (runW (R64_0 a0 a1 (a0.length : Int)) (((a0.length : Int) - 0).toNat + 1) 0) false (sumE (fun _ => true) (fun _ => false))))
theorem e64 (a0 : List AV) (a1 : List AV) : funA c64 0 64 [AV.sl [.int .i64] a0, AV.sl [.int .i64] a1] = (bif !decide ((a0.length : Int) = (a1.length : Int)) then some (AV.bool false)
  else (ro (runW (R64_0 a0 a1 (a0.length : Int)) (((a0.length : Int) - 0).toNat + 1) 0) none (sumE (fun _ => some (AV.bool true)) (fun _ => some (AV.bool false))))) := by kernel_rfl
theorem r64 (a0 : List AV) (a1 : List AV) (h : q64 a0 a1 = true) : funA c64 0 64 [AV.sl [.int .i64] a0, AV.sl [.int .i64] a1] = some (AV.bool (v64_0 a0 a1)) := (e64 a0 a1).trans ((br (fun b => some (AV.bool (bif b then false else (ro (runW (R64_0 a0 a1 (a0.length : Int)) (((a0.length : Int) - 0).toNat + 1) 0) false (sumE (fun _ => true) (fun _ => false)))))) (fun _ => rfl) (brO (fun o : Option (Unit ⊕ Unit) => some (AV.bool (ro o false (sumE (fun _ => true) (fun _ => false))))) (brS (fun o : Unit ⊕ Unit => some (AV.bool ((sumE (fun _ => true) (fun _ => false)) o))) (fun _ => (fun _ => rfl)) (fun _ => (fun _ => rfl))))) h)
def m64 : TModel
  | [.sl g0 a0, .sl g1 a1] => bif ctsEq g0 ([.int .i64]) && ctsEq g1 ([.int .i64]) then some (q64 a0 a1, AV.bool (v64_0 a0 a1)) else none
  | _ => none
theorem k64 : Known Try.prog 64 := ⟨Try.f64, Try.func64, by kernel_rfl, by kernel_rfl⟩
theorem meets64 : Meets Try.prog 64 m64 := by
  refine meet (f := Try.f64) (l := [(0, sub [1, 1, 0, 1, 0, 0] (body Try.f64))]) (hs := [(64, 0, [0, 1, 12, 13]), (64, 999, [4]), (64, 1000, []), (64, 1001, [0, 1, 12, 13])]) (ts := []) (ws := []) (is := []) (ls := [(64, 0, l64_0)]) (lvl := 0) mixed k64 Try.func64 (by kernel_rfl) (loops_cons ok64_0 noLoop) allT_nil allM_nil noI fun w xs us r hl hv h => ?_
  unfold m64 at h
  split at h
  · rename_i g0 a0 g1 a1
    obtain ⟨hg, h⟩ := bif_pair h
    simp only [Bool.and_eq_true] at hg
    obtain ⟨q0, q1⟩ := hg
    obtain rfl := ctsEq_eq _ _ q0
    obtain rfl := ctsEq_eq _ _ q1
    obtain ⟨h1, rfl⟩ := pair_inj h
    exact r64 a0 a1 h1
  · cases h

/-! ### 108 slices.Equal[[]loop.example/g01984/impl.Pivot,loop.example/g01984/impl.Pivot] -/
def F108_0 (t0 : List AV) (t1 : List AV) (t12 : Int) (t13 : Int) : Out (Int) (Unit ⊕ Unit) := (bif decide (t13 < t12) then (bif (decide (0 ≤ t13) && decide (t13 < (t0.length : Int))) then (bif (decide (0 ≤ t13) && decide (t13 < (t1.length : Int))) then (bif !(bif decide (fI (t0.getD t13.toNat AV.undef) 0 = fI (t1.getD t13.toNat AV.undef) 0) then (bif decide (fI (t0.getD t13.toNat AV.undef) 1 = fI (t1.getD t13.toNat AV.undef) 1) then true else false) else false) then .stop (.inr ())
  else .next (IntKind.i64.wrap (t13 + 1)))
  else .fail)
  else .fail)
  else .stop (.inl ()))
def R108_0 (t0 : List AV) (t1 : List AV) (t12 : Int) : (Int) → Out (Int) (Unit ⊕ Unit) := fun s : Int => F108_0 t0 t1 t12 s
def l108_0 : LModel := fun _ _ st k => match st with
  | ⟨[(0, .sl g0 t0), (1, .sl g1 t1), (12, .int .i64 t12), (13, .int .i64 t13)], []⟩ => bif ctsEq g0 ([.int .i64, .int .i64]) && ctsEq g1 ([.int .i64, .int .i64]) then ro (runW (R108_0 t0 t1 t12) ((t12 - t13).toNat + 1) t13) none (sumE (fun _ : Unit => k (.exit 0) ⟨[], []⟩) (fun _ : Unit => k .ret ⟨[(4, AV.bool false)], []⟩)) else none
  | _ => none
noncomputable def c108 : Cfg := cfg Try.prog [(108, 0, [0, 1, 12, 13]), (108, 999, [4]), (108, 1000, []), (108, 1001, [0, 1, 12, 13])] [] [] [] [(108, 0, l108_0)]
theorem s108_0 (ce : CallE) (t0 : List AV) (t1 : List AV) (t12 : Int) (t13 : Int) (next : St → Option AV) (k : Kont) : stepA (codeA c108 ce [] 108 0 (sub [1, 1, 0, 1, 0, 0] (body Try.f108))) (normA [] [0, 1, 12, 13]) next ⟨[(0, AV.sl [.int .i64, .int .i64] t0), (1, AV.sl [.int .i64, .int .i64] t1), (12, AV.int .i64 t12), (13, AV.int .i64 t13)], []⟩ k = (bif decide (t13 < t12) then (bif (decide (0 ≤ t13) && decide (t13 < (t0.length : Int))) then (bif (decide (0 ≤ t13) && decide (t13 < (t1.length : Int))) then (bif !(bif decide (fI (t0.getD t13.toNat AV.undef) 0 = fI (t1.getD t13.toNat AV.undef) 0) then (bif decide (fI (t0.getD t13.toNat AV.undef) 1 = fI (t1.getD t13.toNat AV.undef) 1) then true else false) else false) then k .ret ⟨[(4, AV.bool false)], []⟩
  else next ⟨[(0, AV.sl [.int .i64, .int .i64] t0), (1, AV.sl [.int .i64, .int .i64] t1), (12, AV.int .i64 t12), (13, AV.int .i64 (IntKind.i64.wrap (t13 + 1)))], []⟩)
  else none)
  else none)
  else k (.exit 0) ⟨[], []⟩) := by kernel_rfl
theorem st108_0 (t0 : List AV) (t1 : List AV) (t12 : Int) (ce : CallE) (k : Kont) (s : Int) (next : St → Option AV) : stepA (codeA c108 ce [] 108 0 (sub [1, 1, 0, 1, 0, 0] (body Try.f108))) (normA [] [0, 1, 12, 13]) next ((fun s : Int => ⟨[(0, AV.sl [.int .i64, .int .i64] t0), (1, AV.sl [.int .i64, .int .i64] t1), (12, AV.int .i64 t12), (13, AV.int .i64 s)], []⟩) s) k = (R108_0 t0 t1 t12 s).el none (fun s => next ((fun s : Int => ⟨[(0, AV.sl [.int .i64, .int .i64] t0), (1, AV.sl [.int .i64, .int .i64] t1), (12, AV.int .i64 t12), (13, AV.int .i64 s)], []⟩) s)) (sumE (fun _ : Unit => k (.exit 0) ⟨[], []⟩) (fun _ : Unit => k .ret ⟨[(4, AV.bool false)], []⟩)) := (s108_0 ce t0 t1 t12 s next k).trans (by unfold R108_0; unfold F108_0; simp only [el_cond, el_ro, el_sum, el_fail, el_next, el_stop] <;> rfl)
theorem ok108_0 {ce : CallE} : LoopOK c108 ce [] 108 0 (sub [1, 1, 0, 1, 0, 0] (body Try.f108)) := by
  intro m hm st k r h
  obtain rfl : l108_0 = m := Option.some.inj hm
  unfold l108_0 at h
  split at h
  · rename_i g0 t0 g1 t1 t12 t13
    obtain ⟨hg, h⟩ := bif_some h
    simp only [Bool.and_eq_true] at hg
    obtain ⟨q0, q1⟩ := hg
    obtain rfl := ctsEq_eq _ _ q0
    obtain rfl := ctsEq_eq _ _ q1
    refine ⟨((t12 - t13).toNat + 1), ?_⟩
    rw [← h]
    exact loop_run (fun s : Int => ⟨[(0, AV.sl [.int .i64, .int .i64] t0), (1, AV.sl [.int .i64, .int .i64] t1), (12, AV.int .i64 t12), (13, AV.int .i64 s)], []⟩) (sumE (fun _ : Unit => k (.exit 0) ⟨[], []⟩) (fun _ : Unit => k .ret ⟨[(4, AV.bool false)], []⟩)) (st108_0 t0 t1 t12 ce k) _ t13
  · cases h
def q108 (a0 : List AV) (a1 : List AV) : Bool := (bif !decide ((a0.length : Int) = (a1.length : Int)) then true else (ro (runW (R108_0 a0 a1 (a0.length : Int)) (((a0.length : Int) - 0).toNat + 1) 0) false (sumE (fun _ => true) (fun _ => true))))
def v108_0 (a0 : List AV) (a1 : List AV) : Bool := (bif !decide ((a0.length : Int) = (a1.length : Int)) then false else (ro (runW (R108_0 a0 a1 (a0.length : Int)) (((a0.length : Int) - 0).toNat + 1) 0) false (sumE (fun _ => true) (fun _ => false))))
theorem e108 (a0 : List AV) (a1 : List AV) : funA c108 0 108 [AV.sl [.int .i64, .int .i64] a0, AV.sl [.int .i64, .int .i64] a1] = (bif !decide ((a0.length : Int) = (a1.length : Int)) then some (AV.bool false)
  else (ro (runW (R108_0 a0 a1 (a0.length : Int)) (((a0.length : Int) - 0).toNat + 1) 0) none (sumE (fun _ => some (AV.bool true)) (fun _ => some (AV.bool false))))) := by kernel_rfl
theorem r108 (a0 : List AV) (a1 : List AV) (h : q108 a0 a1 = true) : funA c108 0 108 [AV.sl [.int .i64, .int .i64] a0, AV.sl [.int .i64, .int .i64] a1] = some (AV.bool (v108_0 a0 a1)) := (e108 a0 a1).trans ((br (fun b => some (AV.bool (bif b then false else (ro (runW (R108_0 a0 a1 (a0.length : Int)) (((a0.length : Int) - 0).toNat + 1) 0) false (sumE (fun _ => true) (fun _ => false)))))) (fun _ => rfl) (brO (fun o : Option (Unit ⊕ Unit) => some (AV.bool (ro o false (sumE (fun _ => true) (fun _ => false))))) (brS (fun o : Unit ⊕ Unit => some (AV.bool ((sumE (fun _ => true) (fun _ => false)) o))) (fun _ => (fun _ => rfl)) (fun _ => (fun _ => rfl))))) h)
def m108 : TModel
  | [.sl g0 a0, .sl g1 a1] => bif ctsEq g0 ([.int .i64, .int .i64]) && ctsEq g1 ([.int .i64, .int .i64]) then some (q108 a0 a1, AV.bool (v108_0 a0 a1)) else none
  | _ => none
theorem k108 : Known Try.prog 108 := ⟨Try.f108, Try.func108, by kernel_rfl, by kernel_rfl⟩
theorem meets108 : Meets Try.prog 108 m108 := by
  refine meet (f := Try.f108) (l := [(0, sub [1, 1, 0, 1, 0, 0] (body Try.f108))]) (hs := [(108, 0, [0, 1, 12, 13]), (108, 999, [4]), (108, 1000, []), (108, 1001, [0, 1, 12, 13])]) (ts := []) (ws := []) (is := []) (ls := [(108, 0, l108_0)]) (lvl := 0) mixed k108 Try.func108 (by kernel_rfl) (loops_cons ok108_0 noLoop) allT_nil allM_nil noI fun w xs us r hl hv h => ?_
  unfold m108 at h
  split at h
  · rename_i g0 a0 g1 a1
    obtain ⟨hg, h⟩ := bif_pair h
    simp only [Bool.and_eq_true] at hg
    obtain ⟨q0, q1⟩ := hg
    obtain rfl := ctsEq_eq _ _ q0
    obtain rfl := ctsEq_eq _ _ q1
    obtain ⟨h1, rfl⟩ := pair_inj h
    exact r108 a0 a1 h1
  · cases h

/-! ### 61 loop.example/g01984/impl.EqualCrackers -/
noncomputable def c61 : Cfg := cfg Try.prog [(61, 999, [4])] [(64, m64), (108, m108)] [] [] []
def q61 (a0_0 : List AV) (a0_1 : List AV) (a0_2 : List AV) (a1_0 : List AV) (a1_1 : List AV) (a1_2 : List AV) : Bool := (q64 a0_0 a1_0 && (bif (v64_0 a0_0 a1_0) then (q64 a0_1 a1_1 && (bif (v64_0 a0_1 a1_1) then q108 a0_2 a1_2 else true)) else true))
def v61_0 (a0_0 : List AV) (a0_1 : List AV) (a0_2 : List AV) (a1_0 : List AV) (a1_1 : List AV) (a1_2 : List AV) : Bool := (bif (v64_0 a0_0 a1_0) then (bif (v64_0 a0_1 a1_1) then (v108_0 a0_2 a1_2) else false) else false)
theorem e61 (a0_0 : List AV) (a0_1 : List AV) (a0_2 : List AV) (a1_0 : List AV) (a1_1 : List AV) (a1_2 : List AV) : funA c61 0 61 [AV.agg [AV.sl [.int .i64] a0_0, AV.sl [.int .i64] a0_1, AV.sl [.int .i64, .int .i64] a0_2], AV.agg [AV.sl [.int .i64] a1_0, AV.sl [.int .i64] a1_1, AV.sl [.int .i64, .int .i64] a1_2]] = (bif q64 a0_0 a1_0 then (bif (v64_0 a0_0 a1_0) then (bif q64 a0_1 a1_1 then (bif (v64_0 a0_1 a1_1) then (bif q108 a0_2 a1_2 then some (AV.bool (v108_0 a0_2 a1_2))
  else none)
  else some (AV.bool false))
  else none)
  else some (AV.bool false))
  else none) := by kernel_rfl
theorem r61 (a0_0 : List AV) (a0_1 : List AV) (a0_2 : List AV) (a1_0 : List AV) (a1_1 : List AV) (a1_2 : List AV) (h : q61 a0_0 a0_1 a0_2 a1_0 a1_1 a1_2 = true) : funA c61 0 61 [AV.agg [AV.sl [.int .i64] a0_0, AV.sl [.int .i64] a0_1, AV.sl [.int .i64, .int .i64] a0_2], AV.agg [AV.sl [.int .i64] a1_0, AV.sl [.int .i64] a1_1, AV.sl [.int .i64, .int .i64] a1_2]] = some (AV.bool (v61_0 a0_0 a0_1 a0_2 a1_0 a1_1 a1_2)) := (e61 a0_0 a0_1 a0_2 a1_0 a1_1 a1_2).trans ((brL (br (fun b => some (AV.bool (bif b then (bif (v64_0 a0_1 a1_1) then (v108_0 a0_2 a1_2) else false) else false))) (brL (br (fun b => some (AV.bool (bif b then (v108_0 a0_2 a1_2) else false))) (brL1 (fun _ => rfl)) (fun _ => rfl))) (fun _ => rfl))) h)
def m61 : TModel
  | [.agg [.sl g0 a0_0, .sl g1 a0_1, .sl g2 a0_2], .agg [.sl g3 a1_0, .sl g4 a1_1, .sl g5 a1_2]] => bif ctsEq g0 ([.int .i64]) && ctsEq g1 ([.int .i64]) && ctsEq g2 ([.int .i64, .int .i64]) && ctsEq g3 ([.int .i64]) && ctsEq g4 ([.int .i64]) && ctsEq g5 ([.int .i64, .int .i64]) then some (q61 a0_0 a0_1 a0_2 a1_0 a1_1 a1_2, AV.bool (v61_0 a0_0 a0_1 a0_2 a1_0 a1_1 a1_2)) else none
  | _ => none
theorem k61 : Known Try.prog 61 := ⟨Try.f61, Try.func61, by kernel_rfl, by kernel_rfl⟩
theorem meets61 : Meets Try.prog 61 m61 := by
  refine meet (f := Try.f61) (l := []) (hs := [(61, 999, [4])]) (ts := [(64, m64), (108, m108)]) (ws := []) (is := []) (ls := []) (lvl := 0) mixed k61 Try.func61 (by kernel_rfl) noLoop (allT_cons meets64 (allT_cons meets108 allT_nil)) allM_nil noI fun w xs us r hl hv h => ?_
  unfold m61 at h
  split at h
  · rename_i g0 a0_0 g1 a0_1 g2 a0_2 g3 a1_0 g4 a1_1 g5 a1_2
    obtain ⟨hg, h⟩ := bif_pair h
    simp only [Bool.and_eq_true] at hg
    obtain ⟨⟨⟨⟨⟨q0, q1⟩, q2⟩, q3⟩, q4⟩, q5⟩ := hg
    obtain rfl := ctsEq_eq _ _ q0
    obtain rfl := ctsEq_eq _ _ q1
    obtain rfl := ctsEq_eq _ _ q2
    obtain rfl := ctsEq_eq _ _ q3
    obtain rfl := ctsEq_eq _ _ q4
    obtain rfl := ctsEq_eq _ _ q5
    obtain ⟨h1, rfl⟩ := pair_inj h
    exact r61 a0_0 a0_1 a0_2 a1_0 a1_1 a1_2 h1
  · cases h

/-! ### 63 loop.example/g01984/impl.EqualBoards$1 -/
noncomputable def c63 : Cfg := cfg Try.prog [(63, 999, [4])] [(64, m64)] [] [] []
def q63 (a0_0 : List AV) (a0_1 : Int) (a0_2 : Bool) (a0_3 : Int) (a0_4 : Int) (a0_5 : Int) (a0_6 : Int) (a0_7 : Int) (a0_8 : Int) (a1_0 : List AV) (a1_1 : Int) (a1_2 : Bool) (a1_3 : Int) (a1_4 : Int) (a1_5 : Int) (a1_6 : Int) (a1_7 : Int) (a1_8 : Int) : Bool := q64 a0_0 a1_0
def v63_0 (a0_0 : List AV) (a0_1 : Int) (a0_2 : Bool) (a0_3 : Int) (a0_4 : Int) (a0_5 : Int) (a0_6 : Int) (a0_7 : Int) (a0_8 : Int) (a1_0 : List AV) (a1_1 : Int) (a1_2 : Bool) (a1_3 : Int) (a1_4 : Int) (a1_5 : Int) (a1_6 : Int) (a1_7 : Int) (a1_8 : Int) : Bool := (bif (v64_0 a0_0 a1_0) then (bif decide (a0_1 = a1_1) then (bif (a0_2 == a1_2) then (bif decide (a0_3 = a1_3) then (bif decide (a0_4 = a1_4) then (bif decide (a0_5 = a1_5) then (bif decide (a0_6 = a1_6) then (bif decide (a0_7 = a1_7) then decide (a0_8 = a1_8) else false) else false) else false) else false) else false) else false) else false) else false)
theorem e63 (a0_0 : List AV) (a0_1 : Int) (a0_2 : Bool) (a0_3 : Int) (a0_4 : Int) (a0_5 : Int) (a0_6 : Int) (a0_7 : Int) (a0_8 : Int) (a1_0 : List AV) (a1_1 : Int) (a1_2 : Bool) (a1_3 : Int) (a1_4 : Int) (a1_5 : Int) (a1_6 : Int) (a1_7 : Int) (a1_8 : Int) : funA c63 0 63 [AV.agg [AV.sl [.int .i64] a0_0, AV.int .i64 a0_1, AV.bool a0_2, AV.int .i64 a0_3, AV.int .i64 a0_4, AV.int .i64 a0_5, AV.int .i64 a0_6, AV.int .i64 a0_7, AV.int .i64 a0_8], AV.agg [AV.sl [.int .i64] a1_0, AV.int .i64 a1_1, AV.bool a1_2, AV.int .i64 a1_3, AV.int .i64 a1_4, AV.int .i64 a1_5, AV.int .i64 a1_6, AV.int .i64 a1_7, AV.int .i64 a1_8]] = (bif q64 a0_0 a1_0 then (bif (v64_0 a0_0 a1_0) then (bif decide (a0_1 = a1_1) then (bif (a0_2 == a1_2) then (bif decide (a0_3 = a1_3) then (bif decide (a0_4 = a1_4) then (bif decide (a0_5 = a1_5) then (bif decide (a0_6 = a1_6) then (bif decide (a0_7 = a1_7) then some (AV.bool (decide (a0_8 = a1_8)))
  else some (AV.bool false))
  else some (AV.bool false))
  else some (AV.bool false))
  else some (AV.bool false))
  else some (AV.bool false))
  else some (AV.bool false))
  else some (AV.bool false))
  else some (AV.bool false))
  else none) := by kernel_rfl
theorem r63 (a0_0 : List AV) (a0_1 : Int) (a0_2 : Bool) (a0_3 : Int) (a0_4 : Int) (a0_5 : Int) (a0_6 : Int) (a0_7 : Int) (a0_8 : Int) (a1_0 : List AV) (a1_1 : Int) (a1_2 : Bool) (a1_3 : Int) (a1_4 : Int) (a1_5 : Int) (a1_6 : Int) (a1_7 : Int) (a1_8 : Int) (h : q63 a0_0 a0_1 a0_2 a0_3 a0_4 a0_5 a0_6 a0_7 a0_8 a1_0 a1_1 a1_2 a1_3 a1_4 a1_5 a1_6 a1_7 a1_8 = true) : funA c63 0 63 [AV.agg [AV.sl [.int .i64] a0_0, AV.int .i64 a0_1, AV.bool a0_2, AV.int .i64 a0_3, AV.int .i64 a0_4, AV.int .i64 a0_5, AV.int .i64 a0_6, AV.int .i64 a0_7, AV.int .i64 a0_8], AV.agg [AV.sl [.int .i64] a1_0, AV.int .i64 a1_1, AV.bool a1_2, AV.int .i64 a1_3, AV.int .i64 a1_4, AV.int .i64 a1_5, AV.int .i64 a1_6, AV.int .i64 a1_7, AV.int .i64 a1_8]] = some (AV.bool (v63_0 a0_0 a0_1 a0_2 a0_3 a0_4 a0_5 a0_6 a0_7 a0_8 a1_0 a1_1 a1_2 a1_3 a1_4 a1_5 a1_6 a1_7 a1_8)) := (e63 a0_0 a0_1 a0_2 a0_3 a0_4 a0_5 a0_6 a0_7 a0_8 a1_0 a1_1 a1_2 a1_3 a1_4 a1_5 a1_6 a1_7 a1_8).trans ((brL1 (brT (fun b => some (AV.bool (bif b then (bif decide (a0_1 = a1_1) then (bif (a0_2 == a1_2) then (bif decide (a0_3 = a1_3) then (bif decide (a0_4 = a1_4) then (bif decide (a0_5 = a1_5) then (bif decide (a0_6 = a1_6) then (bif decide (a0_7 = a1_7) then decide (a0_8 = a1_8) else false) else false) else false) else false) else false) else false) else false) else false))) (brT (fun b => some (AV.bool (bif b then (bif (a0_2 == a1_2) then (bif decide (a0_3 = a1_3) then (bif decide (a0_4 = a1_4) then (bif decide (a0_5 = a1_5) then (bif decide (a0_6 = a1_6) then (bif decide (a0_7 = a1_7) then decide (a0_8 = a1_8) else false) else false) else false) else false) else false) else false) else false))) (brT (fun b => some (AV.bool (bif b then (bif decide (a0_3 = a1_3) then (bif decide (a0_4 = a1_4) then (bif decide (a0_5 = a1_5) then (bif decide (a0_6 = a1_6) then (bif decide (a0_7 = a1_7) then decide (a0_8 = a1_8) else false) else false) else false) else false) else false) else false))) (brT (fun b => some (AV.bool (bif b then (bif decide (a0_4 = a1_4) then (bif decide (a0_5 = a1_5) then (bif decide (a0_6 = a1_6) then (bif decide (a0_7 = a1_7) then decide (a0_8 = a1_8) else false) else false) else false) else false) else false))) (brT (fun b => some (AV.bool (bif b then (bif decide (a0_5 = a1_5) then (bif decide (a0_6 = a1_6) then (bif decide (a0_7 = a1_7) then decide (a0_8 = a1_8) else false) else false) else false) else false))) (brT (fun b => some (AV.bool (bif b then (bif decide (a0_6 = a1_6) then (bif decide (a0_7 = a1_7) then decide (a0_8 = a1_8) else false) else false) else false))) (brT (fun b => some (AV.bool (bif b then (bif decide (a0_7 = a1_7) then decide (a0_8 = a1_8) else false) else false))) (brT (fun b => some (AV.bool (bif b then decide (a0_8 = a1_8) else false))) (fun _ => rfl) (fun _ => rfl)) (fun _ => rfl)) (fun _ => rfl)) (fun _ => rfl)) (fun _ => rfl)) (fun _ => rfl)) (fun _ => rfl)) (fun _ => rfl))) h)
def m63 : TModel
  | [.agg [.sl g0 a0_0, .int .i64 a0_1, .bool a0_2, .int .i64 a0_3, .int .i64 a0_4, .int .i64 a0_5, .int .i64 a0_6, .int .i64 a0_7, .int .i64 a0_8], .agg [.sl g1 a1_0, .int .i64 a1_1, .bool a1_2, .int .i64 a1_3, .int .i64 a1_4, .int .i64 a1_5, .int .i64 a1_6, .int .i64 a1_7, .int .i64 a1_8]] => bif ctsEq g0 ([.int .i64]) && ctsEq g1 ([.int .i64]) then some (q63 a0_0 a0_1 a0_2 a0_3 a0_4 a0_5 a0_6 a0_7 a0_8 a1_0 a1_1 a1_2 a1_3 a1_4 a1_5 a1_6 a1_7 a1_8, AV.bool (v63_0 a0_0 a0_1 a0_2 a0_3 a0_4 a0_5 a0_6 a0_7 a0_8 a1_0 a1_1 a1_2 a1_3 a1_4 a1_5 a1_6 a1_7 a1_8)) else none
  | _ => none
theorem k63 : Known Try.prog 63 := ⟨Try.f63, Try.func63, by kernel_rfl, by kernel_rfl⟩
theorem meets63 : Meets Try.prog 63 m63 := by
  refine meet (f := Try.f63) (l := []) (hs := [(63, 999, [4])]) (ts := [(64, m64)]) (ws := []) (is := []) (ls := []) (lvl := 0) mixed k63 Try.func63 (by kernel_rfl) noLoop (allT_cons meets64 allT_nil) allM_nil noI fun w xs us r hl hv h => ?_
  unfold m63 at h
  split at h
  · rename_i g0 a0_0 a0_1 a0_2 a0_3 a0_4 a0_5 a0_6 a0_7 a0_8 g1 a1_0 a1_1 a1_2 a1_3 a1_4 a1_5 a1_6 a1_7 a1_8
    obtain ⟨hg, h⟩ := bif_pair h
    simp only [Bool.and_eq_true] at hg
    obtain ⟨q0, q1⟩ := hg
    obtain rfl := ctsEq_eq _ _ q0
    obtain rfl := ctsEq_eq _ _ q1
    obtain ⟨h1, rfl⟩ := pair_inj h
    exact r63 a0_0 a0_1 a0_2 a0_3 a0_4 a0_5 a0_6 a0_7 a0_8 a1_0 a1_1 a1_2 a1_3 a1_4 a1_5 a1_6 a1_7 a1_8 h1
  · cases h

/-! ### 62 slices.EqualFunc[[]loop.example/g01984/impl.Worker,[]loop.example/g01984/impl.Worker,loop.example/g01984/impl.Worker,loop.example/g01984/impl.Worker] -/
def F62_0 (t1 : List AV) (t15 : List AV) (t16 : Int) (t17 : Int) : Out (Int) (Unit ⊕ ((List AV) × Int × Bool × Int × Int × Int × Int × Int × Int × (List AV) × Int × Bool × Int × Int × Int × Int × Int × Int)) := (bif decide (t17 < t16) then (bif (decide (0 ≤ t17) && decide (t17 < (t15.length : Int))) then (bif (decide (0 ≤ t17) && decide (t17 < (t1.length : Int))) then (bif q63 (fL (t15.getD t17.toNat AV.undef) 0) (fI (t15.getD t17.toNat AV.undef) 1) (fB (t15.getD t17.toNat AV.undef) 2) (fI (t15.getD t17.toNat AV.undef) 3) (fI (t15.getD t17.toNat AV.undef) 4) (fI (t15.getD t17.toNat AV.undef) 5) (fI (t15.getD t17.toNat AV.undef) 6) (fI (t15.getD t17.toNat AV.undef) 7) (fI (t15.getD t17.toNat AV.undef) 8) (fL (t1.getD t17.toNat AV.undef) 0) (fI (t1.getD t17.toNat AV.undef) 1) (fB (t1.getD t17.toNat AV.undef) 2) (fI (t1.getD t17.toNat AV.undef) 3) (fI (t1.getD t17.toNat AV.undef) 4) (fI (t1.getD t17.toNat AV.undef) 5) (fI (t1.getD t17.toNat AV.undef) 6) (fI (t1.getD t17.toNat AV.undef) 7) (fI (t1.getD t17.toNat AV.undef) 8) then (bif !(v63_0 (fL (t15.getD t17.toNat AV.undef) 0) (fI (t15.getD t17.toNat AV.undef) 1) (fB (t15.getD t17.toNat AV.undef) 2) (fI (t15.getD t17.toNat AV.undef) 3) (fI (t15.getD t17.toNat AV.undef) 4) (fI (t15.getD t17.toNat AV.undef) 5) (fI (t15.getD t17.toNat AV.undef) 6) (fI (t15.getD t17.toNat AV.undef) 7) (fI (t15.getD t17.toNat AV.undef) 8) (fL (t1.getD t17.toNat AV.undef) 0) (fI (t1.getD t17.toNat AV.undef) 1) (fB (t1.getD t17.toNat AV.undef) 2) (fI (t1.getD t17.toNat AV.undef) 3) (fI (t1.getD t17.toNat AV.undef) 4) (fI (t1.getD t17.toNat AV.undef) 5) (fI (t1.getD t17.toNat AV.undef) 6) (fI (t1.getD t17.toNat AV.undef) 7) (fI (t1.getD t17.toNat AV.undef) 8)) then .stop (.inr (fL (t15.getD t17.toNat AV.undef) 0, fI (t15.getD t17.toNat AV.undef) 1, fB (t15.getD t17.toNat AV.undef) 2, fI (t15.getD t17.toNat AV.undef) 3, fI (t15.getD t17.toNat AV.undef) 4, fI (t15.getD t17.toNat AV.undef) 5, fI (t15.getD t17.toNat AV.undef) 6, fI (t15.getD t17.toNat AV.undef) 7, fI (t15.getD t17.toNat AV.undef) 8, fL (t1.getD t17.toNat AV.undef) 0, fI (t1.getD t17.toNat AV.undef) 1, fB (t1.getD t17.toNat AV.undef) 2, fI (t1.getD t17.toNat AV.undef) 3, fI (t1.getD t17.toNat AV.undef) 4, fI (t1.getD t17.toNat AV.undef) 5, fI (t1.getD t17.toNat AV.undef) 6, fI (t1.getD t17.toNat AV.undef) 7, fI (t1.getD t17.toNat AV.undef) 8))
  else .next (IntKind.i64.wrap (t17 + 1)))
  else .fail)
  else .fail)
  else .fail)
  else .stop (.inl ()))
def R62_0 (t1 : List AV) (t15 : List AV) (t16 : Int) : (Int) → Out (Int) (Unit ⊕ ((List AV) × Int × Bool × Int × Int × Int × Int × Int × Int × (List AV) × Int × Bool × Int × Int × Int × Int × Int × Int)) := fun s : Int => F62_0 t1 t15 t16 s
def l62_0 : LModel := fun _ _ st k => match st with
  | ⟨[(1, .sl g0 t1), (2, .fn g1 []), (15, .sl g2 t15), (16, .int .i64 t16), (17, .int .i64 t17)], []⟩ => bif ctsEq g0 ([.sl [.int .i64], .int .i64, .bool, .int .i64, .int .i64, .int .i64, .int .i64, .int .i64, .int .i64]) && Nat.beq g1 63 && ctsEq g2 ([.sl [.int .i64], .int .i64, .bool, .int .i64, .int .i64, .int .i64, .int .i64, .int .i64, .int .i64]) then ro (runW (R62_0 t1 t15 t16) ((t16 - t17).toNat + 1) t17) none (sumE (fun _ : Unit => k (.exit 0) ⟨[], []⟩) (fun p : (List AV) × Int × Bool × Int × Int × Int × Int × Int × Int × (List AV) × Int × Bool × Int × Int × Int × Int × Int × Int => k .ret ⟨[(6, AV.bool false)], [([1, 8], ⟨true, [], [AV.agg [AV.sl [.int .i64] p.1, AV.int .i64 p.2.1, AV.bool p.2.2.1, AV.int .i64 p.2.2.2.1, AV.int .i64 p.2.2.2.2.1, AV.int .i64 p.2.2.2.2.2.1, AV.int .i64 p.2.2.2.2.2.2.1, AV.int .i64 p.2.2.2.2.2.2.2.1, AV.int .i64 p.2.2.2.2.2.2.2.2.1]]⟩), ([1, 9], ⟨true, [], [AV.agg [AV.sl [.int .i64] p.2.2.2.2.2.2.2.2.2.1, AV.int .i64 p.2.2.2.2.2.2.2.2.2.2.1, AV.bool p.2.2.2.2.2.2.2.2.2.2.2.1, AV.int .i64 p.2.2.2.2.2.2.2.2.2.2.2.2.1, AV.int .i64 p.2.2.2.2.2.2.2.2.2.2.2.2.2.1, AV.int .i64 p.2.2.2.2.2.2.2.2.2.2.2.2.2.2.1, AV.int .i64 p.2.2.2.2.2.2.2.2.2.2.2.2.2.2.2.1, AV.int .i64 p.2.2.2.2.2.2.2.2.2.2.2.2.2.2.2.2.1, AV.int .i64 p.2.2.2.2.2.2.2.2.2.2.2.2.2.2.2.2.2]]⟩)]⟩)) else none
  | _ => none
noncomputable def c62 : Cfg := cfg Try.prog [(62, 0, [1, 2, 15, 16, 17]), (62, 999, [6]), (62, 1000, []), (62, 1001, [1, 2, 15, 16, 17])] [(63, m63)] [] [] [(62, 0, l62_0)]
theorem s62_0 (ce : CallE) (t1 : List AV) (t15 : List AV) (t16 : Int) (t17 : Int) (next : St → Option AV) (k : Kont) : stepA (codeA c62 ce [] 62 0 (sub [1, 1, 0, 1, 0, 0] (body Try.f62))) (normA [] [1, 2, 15, 16, 17]) next ⟨[(1, AV.sl [.sl [.int .i64], .int .i64, .bool, .int .i64, .int .i64, .int .i64, .int .i64, .int .i64, .int .i64] t1), (2, AV.fn 63 []), (15, AV.sl [.sl [.int .i64], .int .i64, .bool, .int .i64, .int .i64, .int .i64, .int .i64, .int .i64, .int .i64] t15), (16, AV.int .i64 t16), (17, AV.int .i64 t17)], []⟩ k = (bif decide (t17 < t16) then (bif (decide (0 ≤ t17) && decide (t17 < (t15.length : Int))) then (bif (decide (0 ≤ t17) && decide (t17 < (t1.length : Int))) then (bif q63 (fL (t15.getD t17.toNat AV.undef) 0) (fI (t15.getD t17.toNat AV.undef) 1) (fB (t15.getD t17.toNat AV.undef) 2) (fI (t15.getD t17.toNat AV.undef) 3) (fI (t15.getD t17.toNat AV.undef) 4) (fI (t15.getD t17.toNat AV.undef) 5) (fI (t15.getD t17.toNat AV.undef) 6) (fI (t15.getD t17.toNat AV.undef) 7) (fI (t15.getD t17.toNat AV.undef) 8) (fL (t1.getD t17.toNat AV.undef) 0) (fI (t1.getD t17.toNat AV.undef) 1) (fB (t1.getD t17.toNat AV.undef) 2) (fI (t1.getD t17.toNat AV.undef) 3) (fI (t1.getD t17.toNat AV.undef) 4) (fI (t1.getD t17.toNat AV.undef) 5) (fI (t1.getD t17.toNat AV.undef) 6) (fI (t1.getD t17.toNat AV.undef) 7) (fI (t1.getD t17.toNat AV.undef) 8) then (bif !(v63_0 (fL (t15.getD t17.toNat AV.undef) 0) (fI (t15.getD t17.toNat AV.undef) 1) (fB (t15.getD t17.toNat AV.undef) 2) (fI (t15.getD t17.toNat AV.undef) 3) (fI (t15.getD t17.toNat AV.undef) 4) (fI (t15.getD t17.toNat AV.undef) 5) (fI (t15.getD t17.toNat AV.undef) 6) (fI (t15.getD t17.toNat AV.undef) 7) (fI (t15.getD t17.toNat AV.undef) 8) (fL (t1.getD t17.toNat AV.undef) 0) (fI (t1.getD t17.toNat AV.undef) 1) (fB (t1.getD t17.toNat AV.undef) 2) (fI (t1.getD t17.toNat AV.undef) 3) (fI (t1.getD t17.toNat AV.undef) 4) (fI (t1.getD t17.toNat AV.undef) 5) (fI (t1.getD t17.toNat AV.undef) 6) (fI (t1.getD t17.toNat AV.undef) 7) (fI (t1.getD t17.toNat AV.undef) 8)) then k .ret ⟨[(6, AV.bool false)], [([1, 8], ⟨true, [], [AV.agg [AV.sl [.int .i64] (fL (t15.getD t17.toNat AV.undef) 0), AV.int .i64 (fI (t15.getD t17.toNat AV.undef) 1), AV.bool (fB (t15.getD t17.toNat AV.undef) 2), AV.int .i64 (fI (t15.getD t17.toNat AV.undef) 3), AV.int .i64 (fI (t15.getD t17.toNat AV.undef) 4), AV.int .i64 (fI (t15.getD t17.toNat AV.undef) 5), AV.int .i64 (fI (t15.getD t17.toNat AV.undef) 6), AV.int .i64 (fI (t15.getD t17.toNat AV.undef) 7), AV.int .i64 (fI (t15.getD t17.toNat AV.undef) 8)]]⟩), ([1, 9], ⟨true, [], [AV.agg [AV.sl [.int .i64] (fL (t1.getD t17.toNat AV.undef) 0), AV.int .i64 (fI (t1.getD t17.toNat AV.undef) 1), AV.bool (fB (t1.getD t17.toNat AV.undef) 2), AV.int .i64 (fI (t1.getD t17.toNat AV.undef) 3), AV.int .i64 (fI (t1.getD t17.toNat AV.undef) 4), AV.int .i64 (fI (t1.getD t17.toNat AV.undef) 5), AV.int .i64 (fI (t1.getD t17.toNat AV.undef) 6), AV.int .i64 (fI (t1.getD t17.toNat AV.undef) 7), AV.int .i64 (fI (t1.getD t17.toNat AV.undef) 8)]]⟩)]⟩
  else next ⟨[(1, AV.sl [.sl [.int .i64], .int .i64, .bool, .int .i64, .int .i64, .int .i64, .int .i64, .int .i64, .int .i64] t1), (2, AV.fn 63 []), (15, AV.sl [.sl [.int .i64], .int .i64, .bool, .int .i64, .int .i64, .int .i64, .int .i64, .int .i64, .int .i64] t15), (16, AV.int .i64 t16), (17, AV.int .i64 (IntKind.i64.wrap (t17 + 1)))], []⟩)
  else none)
  else none)
  else none)
  else k (.exit 0) ⟨[], []⟩) := by kernel_rfl
theorem st62_0 (t1 : List AV) (t15 : List AV) (t16 : Int) (ce : CallE) (k : Kont) (s : Int) (next : St → Option AV) : stepA (codeA c62 ce [] 62 0 (sub [1, 1, 0, 1, 0, 0] (body Try.f62))) (normA [] [1, 2, 15, 16, 17]) next ((fun s : Int => ⟨[(1, AV.sl [.sl [.int .i64], .int .i64, .bool, .int .i64, .int .i64, .int .i64, .int .i64, .int .i64, .int .i64] t1), (2, AV.fn 63 []), (15, AV.sl [.sl [.int .i64], .int .i64, .bool, .int .i64, .int .i64, .int .i64, .int .i64, .int .i64, .int .i64] t15), (16, AV.int .i64 t16), (17, AV.int .i64 s)], []⟩) s) k = (R62_0 t1 t15 t16 s).el none (fun s => next ((fun s : Int => ⟨[(1, AV.sl [.sl [.int .i64], .int .i64, .bool, .int .i64, .int .i64, .int .i64, .int .i64, .int .i64, .int .i64] t1), (2, AV.fn 63 []), (15, AV.sl [.sl [.int .i64], .int .i64, .bool, .int .i64, .int .i64, .int .i64, .int .i64, .int .i64, .int .i64] t15), (16, AV.int .i64 t16), (17, AV.int .i64 s)], []⟩) s)) (sumE (fun _ : Unit => k (.exit 0) ⟨[], []⟩) (fun p : (List AV) × Int × Bool × Int × Int × Int × Int × Int × Int × (List AV) × Int × Bool × Int × Int × Int × Int × Int × Int => k .ret ⟨[(6, AV.bool false)], [([1, 8], ⟨true, [], [AV.agg [AV.sl [.int .i64] p.1, AV.int .i64 p.2.1, AV.bool p.2.2.1, AV.int .i64 p.2.2.2.1, AV.int .i64 p.2.2.2.2.1, AV.int .i64 p.2.2.2.2.2.1, AV.int .i64 p.2.2.2.2.2.2.1, AV.int .i64 p.2.2.2.2.2.2.2.1, AV.int .i64 p.2.2.2.2.2.2.2.2.1]]⟩), ([1, 9], ⟨true, [], [AV.agg [AV.sl [.int .i64] p.2.2.2.2.2.2.2.2.2.1, AV.int .i64 p.2.2.2.2.2.2.2.2.2.2.1, AV.bool p.2.2.2.2.2.2.2.2.2.2.2.1, AV.int .i64 p.2.2.2.2.2.2.2.2.2.2.2.2.1, AV.int .i64 p.2.2.2.2.2.2.2.2.2.2.2.2.2.1, AV.int .i64 p.2.2.2.2.2.2.2.2.2.2.2.2.2.2.1, AV.int .i64 p.2.2.2.2.2.2.2.2.2.2.2.2.2.2.2.1, AV.int .i64 p.2.2.2.2.2.2.2.2.2.2.2.2.2.2.2.2.1, AV.int .i64 p.2.2.2.2.2.2.2.2.2.2.2.2.2.2.2.2.2]]⟩)]⟩)) := (s62_0 ce t1 t15 t16 s next k).trans (by unfold R62_0; unfold F62_0; simp only [el_cond, el_ro, el_sum, el_fail, el_next, el_stop] <;> rfl)
theorem ok62_0 {ce : CallE} : LoopOK c62 ce [] 62 0 (sub [1, 1, 0, 1, 0, 0] (body Try.f62)) := by
  intro m hm st k r h
  obtain rfl : l62_0 = m := Option.some.inj hm
  unfold l62_0 at h
  split at h
  · rename_i g0 t1 g1 g2 t15 t16 t17
    obtain ⟨hg, h⟩ := bif_some h
    simp only [Bool.and_eq_true] at hg
    obtain ⟨⟨q0, q1⟩, q2⟩ := hg
    obtain rfl := ctsEq_eq _ _ q0
    obtain rfl := Nat.eq_of_beq_eq_true q1
    obtain rfl := ctsEq_eq _ _ q2
    refine ⟨((t16 - t17).toNat + 1), ?_⟩
    rw [← h]
    exact loop_run (fun s : Int => ⟨[(1, AV.sl [.sl [.int .i64], .int .i64, .bool, .int .i64, .int .i64, .int .i64, .int .i64, .int .i64, .int .i64] t1), (2, AV.fn 63 []), (15, AV.sl [.sl [.int .i64], .int .i64, .bool, .int .i64, .int .i64, .int .i64, .int .i64, .int .i64, .int .i64] t15), (16, AV.int .i64 t16), (17, AV.int .i64 s)], []⟩) (sumE (fun _ : Unit => k (.exit 0) ⟨[], []⟩) (fun p : (List AV) × Int × Bool × Int × Int × Int × Int × Int × Int × (List AV) × Int × Bool × Int × Int × Int × Int × Int × Int => k .ret ⟨[(6, AV.bool false)], [([1, 8], ⟨true, [], [AV.agg [AV.sl [.int .i64] p.1, AV.int .i64 p.2.1, AV.bool p.2.2.1, AV.int .i64 p.2.2.2.1, AV.int .i64 p.2.2.2.2.1, AV.int .i64 p.2.2.2.2.2.1, AV.int .i64 p.2.2.2.2.2.2.1, AV.int .i64 p.2.2.2.2.2.2.2.1, AV.int .i64 p.2.2.2.2.2.2.2.2.1]]⟩), ([1, 9], ⟨true, [], [AV.agg [AV.sl [.int .i64] p.2.2.2.2.2.2.2.2.2.1, AV.int .i64 p.2.2.2.2.2.2.2.2.2.2.1, AV.bool p.2.2.2.2.2.2.2.2.2.2.2.1, AV.int .i64 p.2.2.2.2.2.2.2.2.2.2.2.2.1, AV.int .i64 p.2.2.2.2.2.2.2.2.2.2.2.2.2.1, AV.int .i64 p.2.2.2.2.2.2.2.2.2.2.2.2.2.2.1, AV.int .i64 p.2.2.2.2.2.2.2.2.2.2.2.2.2.2.2.1, AV.int .i64 p.2.2.2.2.2.2.2.2.2.2.2.2.2.2.2.2.1, AV.int .i64 p.2.2.2.2.2.2.2.2.2.2.2.2.2.2.2.2.2]]⟩)]⟩)) (st62_0 t1 t15 t16 ce k) _ t17
  · cases h
def q62 (a0 : List AV) (a1 : List AV) : Bool := (bif !decide ((a0.length : Int) = (a1.length : Int)) then true else (ro (runW (R62_0 a1 a0 (a0.length : Int)) (((a0.length : Int) - 0).toNat + 1) 0) false (sumE (fun _ => true) (fun p17 => true))))
def v62_0 (a0 : List AV) (a1 : List AV) : Bool := (bif !decide ((a0.length : Int) = (a1.length : Int)) then false else (ro (runW (R62_0 a1 a0 (a0.length : Int)) (((a0.length : Int) - 0).toNat + 1) 0) false (sumE (fun _ => true) (fun p17 => false))))
theorem e62 (a0 : List AV) (a1 : List AV) : funA c62 0 62 [AV.sl [.sl [.int .i64], .int .i64, .bool, .int .i64, .int .i64, .int .i64, .int .i64, .int .i64, .int .i64] a0, AV.sl [.sl [.int .i64], .int .i64, .bool, .int .i64, .int .i64, .int .i64, .int .i64, .int .i64, .int .i64] a1, AV.fn 63 []] = (bif !decide ((a0.length : Int) = (a1.length : Int)) then some (AV.bool false)
  else (ro (runW (R62_0 a1 a0 (a0.length : Int)) (((a0.length : Int) - 0).toNat + 1) 0) none (sumE (fun _ => some (AV.bool true)) (fun p17 => some (AV.bool false))))) := by kernel_rfl
theorem r62 (a0 : List AV) (a1 : List AV) (h : q62 a0 a1 = true) : funA c62 0 62 [AV.sl [.sl [.int .i64], .int .i64, .bool, .int .i64, .int .i64, .int .i64, .int .i64, .int .i64, .int .i64] a0, AV.sl [.sl [.int .i64], .int .i64, .bool, .int .i64, .int .i64, .int .i64, .int .i64, .int .i64, .int .i64] a1, AV.fn 63 []] = some (AV.bool (v62_0 a0 a1)) := (e62 a0 a1).trans ((br (fun b => some (AV.bool (bif b then false else (ro (runW (R62_0 a1 a0 (a0.length : Int)) (((a0.length : Int) - 0).toNat + 1) 0) false (sumE (fun _ => true) (fun p17 => false)))))) (fun _ => rfl) (brO (fun o : Option (Unit ⊕ ((List AV) × Int × Bool × Int × Int × Int × Int × Int × Int × (List AV) × Int × Bool × Int × Int × Int × Int × Int × Int)) => some (AV.bool (ro o false (sumE (fun _ => true) (fun p17 => false))))) (brS (fun o : Unit ⊕ ((List AV) × Int × Bool × Int × Int × Int × Int × Int × Int × (List AV) × Int × Bool × Int × Int × Int × Int × Int × Int) => some (AV.bool ((sumE (fun _ => true) (fun p17 => false)) o))) (fun _ => (fun _ => rfl)) (fun p17 => (fun _ => rfl))))) h)
def m62 : TModel
  | [.sl g0 a0, .sl g1 a1, .fn g2 []] => bif ctsEq g0 ([.sl [.int .i64], .int .i64, .bool, .int .i64, .int .i64, .int .i64, .int .i64, .int .i64, .int .i64]) && ctsEq g1 ([.sl [.int .i64], .int .i64, .bool, .int .i64, .int .i64, .int .i64, .int .i64, .int .i64, .int .i64]) && Nat.beq g2 63 then some (q62 a0 a1, AV.bool (v62_0 a0 a1)) else none
  | _ => none
theorem k62 : Known Try.prog 62 := ⟨Try.f62, Try.func62, by kernel_rfl, by kernel_rfl⟩
theorem meets62 : Meets Try.prog 62 m62 := by
  refine meet (f := Try.f62) (l := [(0, sub [1, 1, 0, 1, 0, 0] (body Try.f62))]) (hs := [(62, 0, [1, 2, 15, 16, 17]), (62, 999, [6]), (62, 1000, []), (62, 1001, [1, 2, 15, 16, 17])]) (ts := [(63, m63)]) (ws := []) (is := []) (ls := [(62, 0, l62_0)]) (lvl := 0) mixed k62 Try.func62 (by kernel_rfl) (loops_cons ok62_0 noLoop) (allT_cons meets63 allT_nil) allM_nil noI fun w xs us r hl hv h => ?_
  unfold m62 at h
  split at h
  · rename_i g0 a0 g1 a1 g2
    obtain ⟨hg, h⟩ := bif_pair h
    simp only [Bool.and_eq_true] at hg
    obtain ⟨⟨q0, q1⟩, q2⟩ := hg
    obtain rfl := ctsEq_eq _ _ q0
    obtain rfl := ctsEq_eq _ _ q1
    obtain rfl := Nat.eq_of_beq_eq_true q2
    obtain ⟨h1, rfl⟩ := pair_inj h
    exact r62 a0 a1 h1
  · cases h

/-! ### 17 loop.example/g01984/impl.EqualBoards -/
noncomputable def c17 : Cfg := cfg Try.prog [(17, 999, [4])] [(61, m61), (62, m62)] [] [] []
def q17 (a0_0 : List AV) (a0_1 : List AV) (a0_2 : List AV) (a0_3 : List AV) (a0_4 : Int) (a1_0 : List AV) (a1_1 : List AV) (a1_2 : List AV) (a1_3 : List AV) (a1_4 : Int) : Bool := (q61 a0_0 a0_1 a0_2 a1_0 a1_1 a1_2 && (bif (v61_0 a0_0 a0_1 a0_2 a1_0 a1_1 a1_2) then (bif decide (a0_4 = a1_4) then q62 a0_3 a1_3 else true) else true))
def v17_0 (a0_0 : List AV) (a0_1 : List AV) (a0_2 : List AV) (a0_3 : List AV) (a0_4 : Int) (a1_0 : List AV) (a1_1 : List AV) (a1_2 : List AV) (a1_3 : List AV) (a1_4 : Int) : Bool := (bif (v61_0 a0_0 a0_1 a0_2 a1_0 a1_1 a1_2) then (bif decide (a0_4 = a1_4) then (v62_0 a0_3 a1_3) else false) else false)
theorem e17 (a0_0 : List AV) (a0_1 : List AV) (a0_2 : List AV) (a0_3 : List AV) (a0_4 : Int) (a1_0 : List AV) (a1_1 : List AV) (a1_2 : List AV) (a1_3 : List AV) (a1_4 : Int) : funA c17 0 17 [AV.agg [AV.sl [.int .i64] a0_0, AV.sl [.int .i64] a0_1, AV.sl [.int .i64, .int .i64] a0_2, AV.sl [.sl [.int .i64], .int .i64, .bool, .int .i64, .int .i64, .int .i64, .int .i64, .int .i64, .int .i64] a0_3, AV.int .i64 a0_4], AV.agg [AV.sl [.int .i64] a1_0, AV.sl [.int .i64] a1_1, AV.sl [.int .i64, .int .i64] a1_2, AV.sl [.sl [.int .i64], .int .i64, .bool, .int .i64, .int .i64, .int .i64, .int .i64, .int .i64, .int .i64] a1_3, AV.int .i64 a1_4]] = (bif q61 a0_0 a0_1 a0_2 a1_0 a1_1 a1_2 then (bif (v61_0 a0_0 a0_1 a0_2 a1_0 a1_1 a1_2) then (bif decide (a0_4 = a1_4) then (bif q62 a0_3 a1_3 then some (AV.bool (v62_0 a0_3 a1_3))
  else none)
  else some (AV.bool false))
  else some (AV.bool false))
  else none) := by kernel_rfl
theorem r17 (a0_0 : List AV) (a0_1 : List AV) (a0_2 : List AV) (a0_3 : List AV) (a0_4 : Int) (a1_0 : List AV) (a1_1 : List AV) (a1_2 : List AV) (a1_3 : List AV) (a1_4 : Int) (h : q17 a0_0 a0_1 a0_2 a0_3 a0_4 a1_0 a1_1 a1_2 a1_3 a1_4 = true) : funA c17 0 17 [AV.agg [AV.sl [.int .i64] a0_0, AV.sl [.int .i64] a0_1, AV.sl [.int .i64, .int .i64] a0_2, AV.sl [.sl [.int .i64], .int .i64, .bool, .int .i64, .int .i64, .int .i64, .int .i64, .int .i64, .int .i64] a0_3, AV.int .i64 a0_4], AV.agg [AV.sl [.int .i64] a1_0, AV.sl [.int .i64] a1_1, AV.sl [.int .i64, .int .i64] a1_2, AV.sl [.sl [.int .i64], .int .i64, .bool, .int .i64, .int .i64, .int .i64, .int .i64, .int .i64, .int .i64] a1_3, AV.int .i64 a1_4]] = some (AV.bool (v17_0 a0_0 a0_1 a0_2 a0_3 a0_4 a1_0 a1_1 a1_2 a1_3 a1_4)) := (e17 a0_0 a0_1 a0_2 a0_3 a0_4 a1_0 a1_1 a1_2 a1_3 a1_4).trans ((brL (br (fun b => some (AV.bool (bif b then (bif decide (a0_4 = a1_4) then (v62_0 a0_3 a1_3) else false) else false))) (br (fun b => some (AV.bool (bif b then (v62_0 a0_3 a1_3) else false))) (brL1 (fun _ => rfl)) (fun _ => rfl)) (fun _ => rfl))) h)
def m17 : TModel
  | [.agg [.sl g0 a0_0, .sl g1 a0_1, .sl g2 a0_2, .sl g3 a0_3, .int .i64 a0_4], .agg [.sl g4 a1_0, .sl g5 a1_1, .sl g6 a1_2, .sl g7 a1_3, .int .i64 a1_4]] => bif ctsEq g0 ([.int .i64]) && ctsEq g1 ([.int .i64]) && ctsEq g2 ([.int .i64, .int .i64]) && ctsEq g3 ([.sl [.int .i64], .int .i64, .bool, .int .i64, .int .i64, .int .i64, .int .i64, .int .i64, .int .i64]) && ctsEq g4 ([.int .i64]) && ctsEq g5 ([.int .i64]) && ctsEq g6 ([.int .i64, .int .i64]) && ctsEq g7 ([.sl [.int .i64], .int .i64, .bool, .int .i64, .int .i64, .int .i64, .int .i64, .int .i64, .int .i64]) then some (q17 a0_0 a0_1 a0_2 a0_3 a0_4 a1_0 a1_1 a1_2 a1_3 a1_4, AV.bool (v17_0 a0_0 a0_1 a0_2 a0_3 a0_4 a1_0 a1_1 a1_2 a1_3 a1_4)) else none
  | _ => none
theorem k17 : Known Try.prog 17 := ⟨Try.f17, Try.func17, by kernel_rfl, by kernel_rfl⟩
theorem meets17 : Meets Try.prog 17 m17 := by
  refine meet (f := Try.f17) (l := []) (hs := [(17, 999, [4])]) (ts := [(61, m61), (62, m62)]) (ws := []) (is := []) (ls := []) (lvl := 0) mixed k17 Try.func17 (by kernel_rfl) noLoop (allT_cons meets61 (allT_cons meets62 allT_nil)) allM_nil noI fun w xs us r hl hv h => ?_
  unfold m17 at h
  split at h
  · rename_i g0 a0_0 g1 a0_1 g2 a0_2 g3 a0_3 a0_4 g4 a1_0 g5 a1_1 g6 a1_2 g7 a1_3 a1_4
    obtain ⟨hg, h⟩ := bif_pair h
    simp only [Bool.and_eq_true] at hg
    obtain ⟨⟨⟨⟨⟨⟨⟨q0, q1⟩, q2⟩, q3⟩, q4⟩, q5⟩, q6⟩, q7⟩ := hg
    obtain rfl := ctsEq_eq _ _ q0
    obtain rfl := ctsEq_eq _ _ q1
    obtain rfl := ctsEq_eq _ _ q2
    obtain rfl := ctsEq_eq _ _ q3
    obtain rfl := ctsEq_eq _ _ q4
    obtain rfl := ctsEq_eq _ _ q5
    obtain rfl := ctsEq_eq _ _ q6
    obtain rfl := ctsEq_eq _ _ q7
    obtain ⟨h1, rfl⟩ := pair_inj h
    exact r17 a0_0 a0_1 a0_2 a0_3 a0_4 a1_0 a1_1 a1_2 a1_3 a1_4 h1
  · cases h

/-! ### 30 loop.example/g01984/laws.eqIntS -/
def F30_0 (t0 : List AV) (t1 : List AV) (t5 : Int) : Out (Int) (Unit ⊕ Unit) := (bif decide (t5 < (t0.length : Int)) then (bif (decide (0 ≤ t5) && decide (t5 < (t0.length : Int))) then (bif (decide (0 ≤ t5) && decide (t5 < (t1.length : Int))) then (bif !decide (fI (t0.getD t5.toNat AV.undef) 0 = fI (t1.getD t5.toNat AV.undef) 0) then .stop (.inr ())
  else .next (IntKind.i64.wrap (t5 + 1)))
  else .fail)
  else .fail)
  else .stop (.inl ()))
def R30_0 (t0 : List AV) (t1 : List AV) : (Int) → Out (Int) (Unit ⊕ Unit) := fun s : Int => F30_0 t0 t1 s
def l30_0 : LModel := fun _ _ st k => match st with
  | ⟨[(0, .sl g0 t0), (1, .sl g1 t1), (5, .int .i64 t5)], []⟩ => bif ctsEq g0 ([.int .i64]) && ctsEq g1 ([.int .i64]) then ro (runW (R30_0 t0 t1) (((t0.length : Int) - t5).toNat + 1) t5) none (sumE (fun _ : Unit => k (.exit 0) ⟨[], []⟩) (fun _ : Unit => k .ret ⟨[(4, AV.bool false)], []⟩)) else none
  | _ => none
noncomputable def c30 : Cfg := cfg Try.prog [(30, 0, [0, 1, 5]), (30, 999, [4]), (30, 1000, []), (30, 1001, [0, 1, 5])] [] [] [] [(30, 0, l30_0)]
theorem s30_0 (ce : CallE) (t0 : List AV) (t1 : List AV) (t5 : Int) (next : St → Option AV) (k : Kont) : stepA (codeA c30 ce [] 30 0 (sub [1, 1, 0, 1, 0, 0] (body Try.f30))) (normA [] [0, 1, 5]) next ⟨[(0, AV.sl [.int .i64] t0), (1, AV.sl [.int .i64] t1), (5, AV.int .i64 t5)], []⟩ k = (bif decide (t5 < (t0.length : Int)) then (bif (decide (0 ≤ t5) && decide (t5 < (t0.length : Int))) then (bif (decide (0 ≤ t5) && decide (t5 < (t1.length : Int))) then (bif !decide (fI (t0.getD t5.toNat AV.undef) 0 = fI (t1.getD t5.toNat AV.undef) 0) then k .ret ⟨[(4, AV.bool false)], []⟩
  else next ⟨[(0, AV.sl [.int .i64] t0), (1, AV.sl [.int .i64] t1), (5, AV.int .i64 (IntKind.i64.wrap (t5 + 1)))], []⟩)
  else none)
  else none)
  else k (.exit 0) ⟨[], []⟩) := by kernel_rfl
theorem st30_0 (t0 : List AV) (t1 : List AV) (ce : CallE) (k : Kont) (s : Int) (next : St → Option AV) : stepA (codeA c30 ce [] 30 0 (sub [1, 1, 0, 1, 0, 0] (body Try.f30))) (normA [] [0, 1, 5]) next ((fun s : Int => ⟨[(0, AV.sl [.int .i64] t0), (1, AV.sl [.int .i64] t1), (5, AV.int .i64 s)], []⟩) s) k = (R30_0 t0 t1 s).el none (fun s => next ((fun s : Int => ⟨[(0, AV.sl [.int .i64] t0), (1, AV.sl [.int .i64] t1), (5, AV.int .i64 s)], []⟩) s)) (sumE (fun _ : Unit => k (.exit 0) ⟨[], []⟩) (fun _ : Unit => k .ret ⟨[(4, AV.bool false)], []⟩)) := (s30_0 ce t0 t1 s next k).trans (by unfold R30_0; unfold F30_0; simp only [el_cond, el_ro, el_sum, el_fail, el_next, el_stop] <;> rfl)
theorem ok30_0 {ce : CallE} : LoopOK c30 ce [] 30 0 (sub [1, 1, 0, 1, 0, 0] (body Try.f30)) := by
  intro m hm st k r h
  obtain rfl : l30_0 = m := Option.some.inj hm
  unfold l30_0 at h
  split at h
  · rename_i g0 t0 g1 t1 t5
    obtain ⟨hg, h⟩ := bif_some h
    simp only [Bool.and_eq_true] at hg
    obtain ⟨q0, q1⟩ := hg
    obtain rfl := ctsEq_eq _ _ q0
    obtain rfl := ctsEq_eq _ _ q1
    refine ⟨(((t0.length : Int) - t5).toNat + 1), ?_⟩
    rw [← h]
    exact loop_run (fun s : Int => ⟨[(0, AV.sl [.int .i64] t0), (1, AV.sl [.int .i64] t1), (5, AV.int .i64 s)], []⟩) (sumE (fun _ : Unit => k (.exit 0) ⟨[], []⟩) (fun _ : Unit => k .ret ⟨[(4, AV.bool false)], []⟩)) (st30_0 t0 t1 ce k) _ t5
  · cases h
def q30 (a0 : List AV) (a1 : List AV) : Bool := (bif !decide ((a0.length : Int) = (a1.length : Int)) then true else (ro (runW (R30_0 a0 a1) (((a0.length : Int) - 0).toNat + 1) 0) false (sumE (fun _ => true) (fun _ => true))))
def v30_0 (a0 : List AV) (a1 : List AV) : Bool := (bif !decide ((a0.length : Int) = (a1.length : Int)) then false else (ro (runW (R30_0 a0 a1) (((a0.length : Int) - 0).toNat + 1) 0) false (sumE (fun _ => true) (fun _ => false))))
theorem e30 (a0 : List AV) (a1 : List AV) : funA c30 0 30 [AV.sl [.int .i64] a0, AV.sl [.int .i64] a1] = (bif !decide ((a0.length : Int) = (a1.length : Int)) then some (AV.bool false)
  else (ro (runW (R30_0 a0 a1) (((a0.length : Int) - 0).toNat + 1) 0) none (sumE (fun _ => some (AV.bool true)) (fun _ => some (AV.bool false))))) := by kernel_rfl
theorem r30 (a0 : List AV) (a1 : List AV) (h : q30 a0 a1 = true) : funA c30 0 30 [AV.sl [.int .i64] a0, AV.sl [.int .i64] a1] = some (AV.bool (v30_0 a0 a1)) := (e30 a0 a1).trans ((br (fun b => some (AV.bool (bif b then false else (ro (runW (R30_0 a0 a1) (((a0.length : Int) - 0).toNat + 1) 0) false (sumE (fun _ => true) (fun _ => false)))))) (fun _ => rfl) (brO (fun o : Option (Unit ⊕ Unit) => some (AV.bool (ro o false (sumE (fun _ => true) (fun _ => false))))) (brS (fun o : Unit ⊕ Unit => some (AV.bool ((sumE (fun _ => true) (fun _ => false)) o))) (fun _ => (fun _ => rfl)) (fun _ => (fun _ => rfl))))) h)
def m30 : TModel
  | [.sl g0 a0, .sl g1 a1] => bif ctsEq g0 ([.int .i64]) && ctsEq g1 ([.int .i64]) then some (q30 a0 a1, AV.bool (v30_0 a0 a1)) else none
  | _ => none
theorem k30 : Known Try.prog 30 := ⟨Try.f30, Try.func30, by kernel_rfl, by kernel_rfl⟩
theorem meets30 : Meets Try.prog 30 m30 := by
  refine meet (f := Try.f30) (l := [(0, sub [1, 1, 0, 1, 0, 0] (body Try.f30))]) (hs := [(30, 0, [0, 1, 5]), (30, 999, [4]), (30, 1000, []), (30, 1001, [0, 1, 5])]) (ts := []) (ws := []) (is := []) (ls := [(30, 0, l30_0)]) (lvl := 0) mixed k30 Try.func30 (by kernel_rfl) (loops_cons ok30_0 noLoop) allT_nil allM_nil noI fun w xs us r hl hv h => ?_
  unfold m30 at h
  split at h
  · rename_i g0 a0 g1 a1
    obtain ⟨hg, h⟩ := bif_pair h
    simp only [Bool.and_eq_true] at hg
    obtain ⟨q0, q1⟩ := hg
    obtain rfl := ctsEq_eq _ _ q0
    obtain rfl := ctsEq_eq _ _ q1
    obtain ⟨h1, rfl⟩ := pair_inj h
    exact r30 a0 a1 h1
  · cases h

/-! ### 122 loop.example/g01984/laws.eqPivot -/
noncomputable def c122 : Cfg := cfg Try.prog [(122, 999, [4])] [] [] [] []
def q122 (a0_0 : Int) (a0_1 : Int) (a1_0 : Int) (a1_1 : Int) : Bool := true
def v122_0 (a0_0 : Int) (a0_1 : Int) (a1_0 : Int) (a1_1 : Int) : Bool := (bif !decide (a0_0 = a1_0) then false else (bif !decide (a0_1 = a1_1) then false else true))
theorem e122 (a0_0 : Int) (a0_1 : Int) (a1_0 : Int) (a1_1 : Int) : funA c122 0 122 [AV.agg [AV.int .i64 a0_0, AV.int .i64 a0_1], AV.agg [AV.int .i64 a1_0, AV.int .i64 a1_1]] = (bif !decide (a0_0 = a1_0) then some (AV.bool false)
  else (bif !decide (a0_1 = a1_1) then some (AV.bool false)
  else some (AV.bool true))) := by kernel_rfl
theorem r122 (a0_0 : Int) (a0_1 : Int) (a1_0 : Int) (a1_1 : Int) : funA c122 0 122 [AV.agg [AV.int .i64 a0_0, AV.int .i64 a0_1], AV.agg [AV.int .i64 a1_0, AV.int .i64 a1_1]] = some (AV.bool (v122_0 a0_0 a0_1 a1_0 a1_1)) := (e122 a0_0 a0_1 a1_0 a1_1).trans (of_tt (brT (fun b => some (AV.bool (bif b then false else (bif !decide (a0_1 = a1_1) then false else true)))) (fun _ => rfl) (brT (fun b => some (AV.bool (bif b then false else true))) (fun _ => rfl) (fun _ => rfl))))
def m122 : TModel
  | [.agg [.int .i64 a0_0, .int .i64 a0_1], .agg [.int .i64 a1_0, .int .i64 a1_1]] => some (true, AV.bool (v122_0 a0_0 a0_1 a1_0 a1_1))
  | _ => none
theorem k122 : Known Try.prog 122 := ⟨Try.f122, Try.func122, by kernel_rfl, by kernel_rfl⟩
theorem meets122 : Meets Try.prog 122 m122 := by
  refine meet (f := Try.f122) (l := []) (hs := [(122, 999, [4])]) (ts := []) (ws := []) (is := []) (ls := []) (lvl := 0) mixed k122 Try.func122 (by kernel_rfl) noLoop allT_nil allM_nil noI fun w xs us r hl hv h => ?_
  unfold m122 at h
  split at h
  · rename_i a0_0 a0_1 a1_0 a1_1
    obtain ⟨h1, rfl⟩ := pair_inj h
    exact r122 a0_0 a0_1 a1_0 a1_1
  · cases h

/-! ### 90 loop.example/g01984/laws.eqPivotS -/
def F90_0 (t0 : List AV) (t1 : List AV) (t5 : Int) : Out (Int) (Unit ⊕ Unit) := (bif decide (t5 < (t0.length : Int)) then (bif (decide (0 ≤ t5) && decide (t5 < (t0.length : Int))) then (bif (decide (0 ≤ t5) && decide (t5 < (t1.length : Int))) then (bif !(v122_0 (fI (t0.getD t5.toNat AV.undef) 0) (fI (t0.getD t5.toNat AV.undef) 1) (fI (t1.getD t5.toNat AV.undef) 0) (fI (t1.getD t5.toNat AV.undef) 1)) then .stop (.inr ())
  else .next (IntKind.i64.wrap (t5 + 1)))
  else .fail)
  else .fail)
  else .stop (.inl ()))
def R90_0 (t0 : List AV) (t1 : List AV) : (Int) → Out (Int) (Unit ⊕ Unit) := fun s : Int => F90_0 t0 t1 s
def l90_0 : LModel := fun _ _ st k => match st with
  | ⟨[(0, .sl g0 t0), (1, .sl g1 t1), (5, .int .i64 t5)], []⟩ => bif ctsEq g0 ([.int .i64, .int .i64]) && ctsEq g1 ([.int .i64, .int .i64]) then ro (runW (R90_0 t0 t1) (((t0.length : Int) - t5).toNat + 1) t5) none (sumE (fun _ : Unit => k (.exit 0) ⟨[], []⟩) (fun _ : Unit => k .ret ⟨[(4, AV.bool false)], []⟩)) else none
  | _ => none
noncomputable def c90 : Cfg := cfg Try.prog [(90, 0, [0, 1, 5]), (90, 999, [4]), (90, 1000, []), (90, 1001, [0, 1, 5])] [(122, m122)] [] [] [(90, 0, l90_0)]
theorem s90_0 (ce : CallE) (t0 : List AV) (t1 : List AV) (t5 : Int) (next : St → Option AV) (k : Kont) : stepA (codeA c90 ce [] 90 0 (sub [1, 1, 0, 1, 0, 0] (body Try.f90))) (normA [] [0, 1, 5]) next ⟨[(0, AV.sl [.int .i64, .int .i64] t0), (1, AV.sl [.int .i64, .int .i64] t1), (5, AV.int .i64 t5)], []⟩ k = (bif decide (t5 < (t0.length : Int)) then (bif (decide (0 ≤ t5) && decide (t5 < (t0.length : Int))) then (bif (decide (0 ≤ t5) && decide (t5 < (t1.length : Int))) then (bif !(v122_0 (fI (t0.getD t5.toNat AV.undef) 0) (fI (t0.getD t5.toNat AV.undef) 1) (fI (t1.getD t5.toNat AV.undef) 0) (fI (t1.getD t5.toNat AV.undef) 1)) then k .ret ⟨[(4, AV.bool false)], []⟩
  else next ⟨[(0, AV.sl [.int .i64, .int .i64] t0), (1, AV.sl [.int .i64, .int .i64] t1), (5, AV.int .i64 (IntKind.i64.wrap (t5 + 1)))], []⟩)
  else none)
  else none)
  else k (.exit 0) ⟨[], []⟩) := by kernel_rfl
theorem st90_0 (t0 : List AV) (t1 : List AV) (ce : CallE) (k : Kont) (s : Int) (next : St → Option AV) : stepA (codeA c90 ce [] 90 0 (sub [1, 1, 0, 1, 0, 0] (body Try.f90))) (normA [] [0, 1, 5]) next ((fun s : Int => ⟨[(0, AV.sl [.int .i64, .int .i64] t0), (1, AV.sl [.int .i64, .int .i64] t1), (5, AV.int .i64 s)], []⟩) s) k = (R90_0 t0 t1 s).el none (fun s => next ((fun s : Int => ⟨[(0, AV.sl [.int .i64, .int .i64] t0), (1, AV.sl [.int .i64, .int .i64] t1), (5, AV.int .i64 s)], []⟩) s)) (sumE (fun _ : Unit => k (.exit 0) ⟨[], []⟩) (fun _ : Unit => k .ret ⟨[(4, AV.bool false)], []⟩)) := (s90_0 ce t0 t1 s next k).trans (by unfold R90_0; unfold F90_0; simp only [el_cond, el_ro, el_sum, el_fail, el_next, el_stop] <;> rfl)
theorem ok90_0 {ce : CallE} : LoopOK c90 ce [] 90 0 (sub [1, 1, 0, 1, 0, 0] (body Try.f90)) := by
  intro m hm st k r h
  obtain rfl : l90_0 = m := Option.some.inj hm
  unfold l90_0 at h
  split at h
  · rename_i g0 t0 g1 t1 t5
    obtain ⟨hg, h⟩ := bif_some h
    simp only [Bool.and_eq_true] at hg
    obtain ⟨q0, q1⟩ := hg
    obtain rfl := ctsEq_eq _ _ q0
    obtain rfl := ctsEq_eq _ _ q1
    refine ⟨(((t0.length : Int) - t5).toNat + 1), ?_⟩
    rw [← h]
    exact loop_run (fun s : Int => ⟨[(0, AV.sl [.int .i64, .int .i64] t0), (1, AV.sl [.int .i64, .int .i64] t1), (5, AV.int .i64 s)], []⟩) (sumE (fun _ : Unit => k (.exit 0) ⟨[], []⟩) (fun _ : Unit => k .ret ⟨[(4, AV.bool false)], []⟩)) (st90_0 t0 t1 ce k) _ t5
  · cases h
def q90 (a0 : List AV) (a1 : List AV) : Bool := (bif !decide ((a0.length : Int) = (a1.length : Int)) then true else (ro (runW (R90_0 a0 a1) (((a0.length : Int) - 0).toNat + 1) 0) false (sumE (fun _ => true) (fun _ => true))))
def v90_0 (a0 : List AV) (a1 : List AV) : Bool := (bif !decide ((a0.length : Int) = (a1.length : Int)) then false else (ro (runW (R90_0 a0 a1) (((a0.length : Int) - 0).toNat + 1) 0) false (sumE (fun _ => true) (fun _ => false))))
theorem e90 (a0 : List AV) (a1 : List AV) : funA c90 0 90 [AV.sl [.int .i64, .int .i64] a0, AV.sl [.int .i64, .int .i64] a1] = (bif !decide ((a0.length : Int) = (a1.length : Int)) then some (AV.bool false)
  else (ro (runW (R90_0 a0 a1) (((a0.length : Int) - 0).toNat + 1) 0) none (sumE (fun _ => some (AV.bool true)) (fun _ => some (AV.bool false))))) := by kernel_rfl
theorem r90 (a0 : List AV) (a1 : List AV) (h : q90 a0 a1 = true) : funA c90 0 90 [AV.sl [.int .i64, .int .i64] a0, AV.sl [.int .i64, .int .i64] a1] = some (AV.bool (v90_0 a0 a1)) := (e90 a0 a1).trans ((br (fun b => some (AV.bool (bif b then false else (ro (runW (R90_0 a0 a1) (((a0.length : Int) - 0).toNat + 1) 0) false (sumE (fun _ => true) (fun _ => false)))))) (fun _ => rfl) (brO (fun o : Option (Unit ⊕ Unit) => some (AV.bool (ro o false (sumE (fun _ => true) (fun _ => false))))) (brS (fun o : Unit ⊕ Unit => some (AV.bool ((sumE (fun _ => true) (fun _ => false)) o))) (fun _ => (fun _ => rfl)) (fun _ => (fun _ => rfl))))) h)
def m90 : TModel
  | [.sl g0 a0, .sl g1 a1] => bif ctsEq g0 ([.int .i64, .int .i64]) && ctsEq g1 ([.int .i64, .int .i64]) then some (q90 a0 a1, AV.bool (v90_0 a0 a1)) else none
  | _ => none
theorem k90 : Known Try.prog 90 := ⟨Try.f90, Try.func90, by kernel_rfl, by kernel_rfl⟩
theorem meets90 : Meets Try.prog 90 m90 := by
  refine meet (f := Try.f90) (l := [(0, sub [1, 1, 0, 1, 0, 0] (body Try.f90))]) (hs := [(90, 0, [0, 1, 5]), (90, 999, [4]), (90, 1000, []), (90, 1001, [0, 1, 5])]) (ts := [(122, m122)]) (ws := []) (is := []) (ls := [(90, 0, l90_0)]) (lvl := 0) mixed k90 Try.func90 (by kernel_rfl) (loops_cons ok90_0 noLoop) (allT_cons meets122 allT_nil) allM_nil noI fun w xs us r hl hv h => ?_
  unfold m90 at h
  split at h
  · rename_i g0 a0 g1 a1
    obtain ⟨hg, h⟩ := bif_pair h
    simp only [Bool.and_eq_true] at hg
    obtain ⟨q0, q1⟩ := hg
    obtain rfl := ctsEq_eq _ _ q0
    obtain rfl := ctsEq_eq _ _ q1
    obtain ⟨h1, rfl⟩ := pair_inj h
    exact r90 a0 a1 h1
  · cases h

/-! ### 40 loop.example/g01984/laws.eqCracker -/
noncomputable def c40 : Cfg := cfg Try.prog [(40, 999, [4])] [(30, m30), (90, m90)] [] [] []
def q40 (a0_0 : List AV) (a0_1 : List AV) (a0_2 : List AV) (a1_0 : List AV) (a1_1 : List AV) (a1_2 : List AV) : Bool := (q30 a0_0 a1_0 && (bif !(v30_0 a0_0 a1_0) then true else (q30 a0_1 a1_1 && (bif !(v30_0 a0_1 a1_1) then true else q90 a0_2 a1_2))))
def v40_0 (a0_0 : List AV) (a0_1 : List AV) (a0_2 : List AV) (a1_0 : List AV) (a1_1 : List AV) (a1_2 : List AV) : Bool := (bif !(v30_0 a0_0 a1_0) then false else (bif !(v30_0 a0_1 a1_1) then false else (bif !(v90_0 a0_2 a1_2) then false else true)))
theorem e40 (a0_0 : List AV) (a0_1 : List AV) (a0_2 : List AV) (a1_0 : List AV) (a1_1 : List AV) (a1_2 : List AV) : funA c40 0 40 [AV.agg [AV.sl [.int .i64] a0_0, AV.sl [.int .i64] a0_1, AV.sl [.int .i64, .int .i64] a0_2], AV.agg [AV.sl [.int .i64] a1_0, AV.sl [.int .i64] a1_1, AV.sl [.int .i64, .int .i64] a1_2]] = (bif q30 a0_0 a1_0 then (bif !(v30_0 a0_0 a1_0) then some (AV.bool false)
  else (bif q30 a0_1 a1_1 then (bif !(v30_0 a0_1 a1_1) then some (AV.bool false)
  else (bif q90 a0_2 a1_2 then (bif !(v90_0 a0_2 a1_2) then some (AV.bool false)
  else some (AV.bool true))
  else none))
  else none))
  else none) := by kernel_rfl
theorem r40 (a0_0 : List AV) (a0_1 : List AV) (a0_2 : List AV) (a1_0 : List AV) (a1_1 : List AV) (a1_2 : List AV) (h : q40 a0_0 a0_1 a0_2 a1_0 a1_1 a1_2 = true) : funA c40 0 40 [AV.agg [AV.sl [.int .i64] a0_0, AV.sl [.int .i64] a0_1, AV.sl [.int .i64, .int .i64] a0_2], AV.agg [AV.sl [.int .i64] a1_0, AV.sl [.int .i64] a1_1, AV.sl [.int .i64, .int .i64] a1_2]] = some (AV.bool (v40_0 a0_0 a0_1 a0_2 a1_0 a1_1 a1_2)) := (e40 a0_0 a0_1 a0_2 a1_0 a1_1 a1_2).trans ((brL (br (fun b => some (AV.bool (bif b then false else (bif !(v30_0 a0_1 a1_1) then false else (bif !(v90_0 a0_2 a1_2) then false else true))))) (fun _ => rfl) (brL (br (fun b => some (AV.bool (bif b then false else (bif !(v90_0 a0_2 a1_2) then false else true)))) (fun _ => rfl) (brL1 (brT (fun b => some (AV.bool (bif b then false else true))) (fun _ => rfl) (fun _ => rfl))))))) h)
def m40 : TModel
  | [.agg [.sl g0 a0_0, .sl g1 a0_1, .sl g2 a0_2], .agg [.sl g3 a1_0, .sl g4 a1_1, .sl g5 a1_2]] => bif ctsEq g0 ([.int .i64]) && ctsEq g1 ([.int .i64]) && ctsEq g2 ([.int .i64, .int .i64]) && ctsEq g3 ([.int .i64]) && ctsEq g4 ([.int .i64]) && ctsEq g5 ([.int .i64, .int .i64]) then some (q40 a0_0 a0_1 a0_2 a1_0 a1_1 a1_2, AV.bool (v40_0 a0_0 a0_1 a0_2 a1_0 a1_1 a1_2)) else none
  | _ => none
theorem k40 : Known Try.prog 40 := ⟨Try.f40, Try.func40, by kernel_rfl, by kernel_rfl⟩
theorem meets40 : Meets Try.prog 40 m40 := by
  refine meet (f := Try.f40) (l := []) (hs := [(40, 999, [4])]) (ts := [(30, m30), (90, m90)]) (ws := []) (is := []) (ls := []) (lvl := 0) mixed k40 Try.func40 (by kernel_rfl) noLoop (allT_cons meets30 (allT_cons meets90 allT_nil)) allM_nil noI fun w xs us r hl hv h => ?_
  unfold m40 at h
  split at h
  · rename_i g0 a0_0 g1 a0_1 g2 a0_2 g3 a1_0 g4 a1_1 g5 a1_2
    obtain ⟨hg, h⟩ := bif_pair h
    simp only [Bool.and_eq_true] at hg
    obtain ⟨⟨⟨⟨⟨q0, q1⟩, q2⟩, q3⟩, q4⟩, q5⟩ := hg
    obtain rfl := ctsEq_eq _ _ q0
    obtain rfl := ctsEq_eq _ _ q1
    obtain rfl := ctsEq_eq _ _ q2
    obtain rfl := ctsEq_eq _ _ q3
    obtain rfl := ctsEq_eq _ _ q4
    obtain rfl := ctsEq_eq _ _ q5
    obtain ⟨h1, rfl⟩ := pair_inj h
    exact r40 a0_0 a0_1 a0_2 a1_0 a1_1 a1_2 h1
  · cases h

/-! ### 109 loop.example/g01984/laws.eqWorker -/
noncomputable def c109 : Cfg := cfg Try.prog [(109, 999, [4])] [(30, m30)] [] [] []
def q109 (a0_0 : List AV) (a0_1 : Int) (a0_2 : Bool) (a0_3 : Int) (a0_4 : Int) (a0_5 : Int) (a0_6 : Int) (a0_7 : Int) (a0_8 : Int) (a1_0 : List AV) (a1_1 : Int) (a1_2 : Bool) (a1_3 : Int) (a1_4 : Int) (a1_5 : Int) (a1_6 : Int) (a1_7 : Int) (a1_8 : Int) : Bool := q30 a0_0 a1_0
def v109_0 (a0_0 : List AV) (a0_1 : Int) (a0_2 : Bool) (a0_3 : Int) (a0_4 : Int) (a0_5 : Int) (a0_6 : Int) (a0_7 : Int) (a0_8 : Int) (a1_0 : List AV) (a1_1 : Int) (a1_2 : Bool) (a1_3 : Int) (a1_4 : Int) (a1_5 : Int) (a1_6 : Int) (a1_7 : Int) (a1_8 : Int) : Bool := (bif !(v30_0 a0_0 a1_0) then false else (bif !decide (a0_1 = a1_1) then false else (bif !(a0_2 == a1_2) then false else (bif !decide (a0_3 = a1_3) then false else (bif !decide (a0_4 = a1_4) then false else (bif !decide (a0_5 = a1_5) then false else (bif !decide (a0_6 = a1_6) then false else (bif !decide (a0_7 = a1_7) then false else (bif !decide (a0_8 = a1_8) then false else true)))))))))
theorem e109 (a0_0 : List AV) (a0_1 : Int) (a0_2 : Bool) (a0_3 : Int) (a0_4 : Int) (a0_5 : Int) (a0_6 : Int) (a0_7 : Int) (a0_8 : Int) (a1_0 : List AV) (a1_1 : Int) (a1_2 : Bool) (a1_3 : Int) (a1_4 : Int) (a1_5 : Int) (a1_6 : Int) (a1_7 : Int) (a1_8 : Int) : funA c109 0 109 [AV.agg [AV.sl [.int .i64] a0_0, AV.int .i64 a0_1, AV.bool a0_2, AV.int .i64 a0_3, AV.int .i64 a0_4, AV.int .i64 a0_5, AV.int .i64 a0_6, AV.int .i64 a0_7, AV.int .i64 a0_8], AV.agg [AV.sl [.int .i64] a1_0, AV.int .i64 a1_1, AV.bool a1_2, AV.int .i64 a1_3, AV.int .i64 a1_4, AV.int .i64 a1_5, AV.int .i64 a1_6, AV.int .i64 a1_7, AV.int .i64 a1_8]] = (bif q30 a0_0 a1_0 then (bif !(v30_0 a0_0 a1_0) then some (AV.bool false)
  else (bif !decide (a0_1 = a1_1) then some (AV.bool false)
  else (bif !(a0_2 == a1_2) then some (AV.bool false)
  else (bif !decide (a0_3 = a1_3) then some (AV.bool false)
  else (bif !decide (a0_4 = a1_4) then some (AV.bool false)
  else (bif !decide (a0_5 = a1_5) then some (AV.bool false)
  else (bif !decide (a0_6 = a1_6) then some (AV.bool false)
  else (bif !decide (a0_7 = a1_7) then some (AV.bool false)
  else (bif !decide (a0_8 = a1_8) then some (AV.bool false)
  else some (AV.bool true))))))))))
  else none) := by kernel_rfl
theorem r109 (a0_0 : List AV) (a0_1 : Int) (a0_2 : Bool) (a0_3 : Int) (a0_4 : Int) (a0_5 : Int) (a0_6 : Int) (a0_7 : Int) (a0_8 : Int) (a1_0 : List AV) (a1_1 : Int) (a1_2 : Bool) (a1_3 : Int) (a1_4 : Int) (a1_5 : Int) (a1_6 : Int) (a1_7 : Int) (a1_8 : Int) (h : q109 a0_0 a0_1 a0_2 a0_3 a0_4 a0_5 a0_6 a0_7 a0_8 a1_0 a1_1 a1_2 a1_3 a1_4 a1_5 a1_6 a1_7 a1_8 = true) : funA c109 0 109 [AV.agg [AV.sl [.int .i64] a0_0, AV.int .i64 a0_1, AV.bool a0_2, AV.int .i64 a0_3, AV.int .i64 a0_4, AV.int .i64 a0_5, AV.int .i64 a0_6, AV.int .i64 a0_7, AV.int .i64 a0_8], AV.agg [AV.sl [.int .i64] a1_0, AV.int .i64 a1_1, AV.bool a1_2, AV.int .i64 a1_3, AV.int .i64 a1_4, AV.int .i64 a1_5, AV.int .i64 a1_6, AV.int .i64 a1_7, AV.int .i64 a1_8]] = some (AV.bool (v109_0 a0_0 a0_1 a0_2 a0_3 a0_4 a0_5 a0_6 a0_7 a0_8 a1_0 a1_1 a1_2 a1_3 a1_4 a1_5 a1_6 a1_7 a1_8)) := (e109 a0_0 a0_1 a0_2 a0_3 a0_4 a0_5 a0_6 a0_7 a0_8 a1_0 a1_1 a1_2 a1_3 a1_4 a1_5 a1_6 a1_7 a1_8).trans ((brL1 (brT (fun b => some (AV.bool (bif b then false else (bif !decide (a0_1 = a1_1) then false else (bif !(a0_2 == a1_2) then false else (bif !decide (a0_3 = a1_3) then false else (bif !decide (a0_4 = a1_4) then false else (bif !decide (a0_5 = a1_5) then false else (bif !decide (a0_6 = a1_6) then false else (bif !decide (a0_7 = a1_7) then false else (bif !decide (a0_8 = a1_8) then false else true))))))))))) (fun _ => rfl) (brT (fun b => some (AV.bool (bif b then false else (bif !(a0_2 == a1_2) then false else (bif !decide (a0_3 = a1_3) then false else (bif !decide (a0_4 = a1_4) then false else (bif !decide (a0_5 = a1_5) then false else (bif !decide (a0_6 = a1_6) then false else (bif !decide (a0_7 = a1_7) then false else (bif !decide (a0_8 = a1_8) then false else true)))))))))) (fun _ => rfl) (brT (fun b => some (AV.bool (bif b then false else (bif !decide (a0_3 = a1_3) then false else (bif !decide (a0_4 = a1_4) then false else (bif !decide (a0_5 = a1_5) then false else (bif !decide (a0_6 = a1_6) then false else (bif !decide (a0_7 = a1_7) then false else (bif !decide (a0_8 = a1_8) then false else true))))))))) (fun _ => rfl) (brT (fun b => some (AV.bool (bif b then false else (bif !decide (a0_4 = a1_4) then false else (bif !decide (a0_5 = a1_5) then false else (bif !decide (a0_6 = a1_6) then false else (bif !decide (a0_7 = a1_7) then false else (bif !decide (a0_8 = a1_8) then false else true)))))))) (fun _ => rfl) (brT (fun b => some (AV.bool (bif b then false else (bif !decide (a0_5 = a1_5) then false else (bif !decide (a0_6 = a1_6) then false else (bif !decide (a0_7 = a1_7) then false else (bif !decide (a0_8 = a1_8) then false else true))))))) (fun _ => rfl) (brT (fun b => some (AV.bool (bif b then false else (bif !decide (a0_6 = a1_6) then false else (bif !decide (a0_7 = a1_7) then false else (bif !decide (a0_8 = a1_8) then false else true)))))) (fun _ => rfl) (brT (fun b => some (AV.bool (bif b then false else (bif !decide (a0_7 = a1_7) then false else (bif !decide (a0_8 = a1_8) then false else true))))) (fun _ => rfl) (brT (fun b => some (AV.bool (bif b then false else (bif !decide (a0_8 = a1_8) then false else true)))) (fun _ => rfl) (brT (fun b => some (AV.bool (bif b then false else true))) (fun _ => rfl) (fun _ => rfl))))))))))) h)
def m109 : TModel
  | [.agg [.sl g0 a0_0, .int .i64 a0_1, .bool a0_2, .int .i64 a0_3, .int .i64 a0_4, .int .i64 a0_5, .int .i64 a0_6, .int .i64 a0_7, .int .i64 a0_8], .agg [.sl g1 a1_0, .int .i64 a1_1, .bool a1_2, .int .i64 a1_3, .int .i64 a1_4, .int .i64 a1_5, .int .i64 a1_6, .int .i64 a1_7, .int .i64 a1_8]] => bif ctsEq g0 ([.int .i64]) && ctsEq g1 ([.int .i64]) then some (q109 a0_0 a0_1 a0_2 a0_3 a0_4 a0_5 a0_6 a0_7 a0_8 a1_0 a1_1 a1_2 a1_3 a1_4 a1_5 a1_6 a1_7 a1_8, AV.bool (v109_0 a0_0 a0_1 a0_2 a0_3 a0_4 a0_5 a0_6 a0_7 a0_8 a1_0 a1_1 a1_2 a1_3 a1_4 a1_5 a1_6 a1_7 a1_8)) else none
  | _ => none
theorem k109 : Known Try.prog 109 := ⟨Try.f109, Try.func109, by kernel_rfl, by kernel_rfl⟩
theorem meets109 : Meets Try.prog 109 m109 := by
  refine meet (f := Try.f109) (l := []) (hs := [(109, 999, [4])]) (ts := [(30, m30)]) (ws := []) (is := []) (ls := []) (lvl := 0) mixed k109 Try.func109 (by kernel_rfl) noLoop (allT_cons meets30 allT_nil) allM_nil noI fun w xs us r hl hv h => ?_
  unfold m109 at h
  split at h
  · rename_i g0 a0_0 a0_1 a0_2 a0_3 a0_4 a0_5 a0_6 a0_7 a0_8 g1 a1_0 a1_1 a1_2 a1_3 a1_4 a1_5 a1_6 a1_7 a1_8
    obtain ⟨hg, h⟩ := bif_pair h
    simp only [Bool.and_eq_true] at hg
    obtain ⟨q0, q1⟩ := hg
    obtain rfl := ctsEq_eq _ _ q0
    obtain rfl := ctsEq_eq _ _ q1
    obtain ⟨h1, rfl⟩ := pair_inj h
    exact r109 a0_0 a0_1 a0_2 a0_3 a0_4 a0_5 a0_6 a0_7 a0_8 a1_0 a1_1 a1_2 a1_3 a1_4 a1_5 a1_6 a1_7 a1_8 h1
  · cases h

/-! ### 65 loop.example/g01984/laws.eqWorkerS -/
def F65_0 (t0 : List AV) (t1 : List AV) (t5 : Int) : Out (Int) (Unit ⊕ Unit) := (bif decide (t5 < (t0.length : Int)) then (bif (decide (0 ≤ t5) && decide (t5 < (t0.length : Int))) then (bif (decide (0 ≤ t5) && decide (t5 < (t1.length : Int))) then (bif q109 (fL (t0.getD t5.toNat AV.undef) 0) (fI (t0.getD t5.toNat AV.undef) 1) (fB (t0.getD t5.toNat AV.undef) 2) (fI (t0.getD t5.toNat AV.undef) 3) (fI (t0.getD t5.toNat AV.undef) 4) (fI (t0.getD t5.toNat AV.undef) 5) (fI (t0.getD t5.toNat AV.undef) 6) (fI (t0.getD t5.toNat AV.undef) 7) (fI (t0.getD t5.toNat AV.undef) 8) (fL (t1.getD t5.toNat AV.undef) 0) (fI (t1.getD t5.toNat AV.undef) 1) (fB (t1.getD t5.toNat AV.undef) 2) (fI (t1.getD t5.toNat AV.undef) 3) (fI (t1.getD t5.toNat AV.undef) 4) (fI (t1.getD t5.toNat AV.undef) 5) (fI (t1.getD t5.toNat AV.undef) 6) (fI (t1.getD t5.toNat AV.undef) 7) (fI (t1.getD t5.toNat AV.undef) 8) then (bif !(v109_0 (fL (t0.getD t5.toNat AV.undef) 0) (fI (t0.getD t5.toNat AV.undef) 1) (fB (t0.getD t5.toNat AV.undef) 2) (fI (t0.getD t5.toNat AV.undef) 3) (fI (t0.getD t5.toNat AV.undef) 4) (fI (t0.getD t5.toNat AV.undef) 5) (fI (t0.getD t5.toNat AV.undef) 6) (fI (t0.getD t5.toNat AV.undef) 7) (fI (t0.getD t5.toNat AV.undef) 8) (fL (t1.getD t5.toNat AV.undef) 0) (fI (t1.getD t5.toNat AV.undef) 1) (fB (t1.getD t5.toNat AV.undef) 2) (fI (t1.getD t5.toNat AV.undef) 3) (fI (t1.getD t5.toNat AV.undef) 4) (fI (t1.getD t5.toNat AV.undef) 5) (fI (t1.getD t5.toNat AV.undef) 6) (fI (t1.getD t5.toNat AV.undef) 7) (fI (t1.getD t5.toNat AV.undef) 8)) then .stop (.inr ())
  else .next (IntKind.i64.wrap (t5 + 1)))
  else .fail)
  else .fail)
  else .fail)
  else .stop (.inl ()))
def R65_0 (t0 : List AV) (t1 : List AV) : (Int) → Out (Int) (Unit ⊕ Unit) := fun s : Int => F65_0 t0 t1 s
def l65_0 : LModel := fun _ _ st k => match st with
  | ⟨[(0, .sl g0 t0), (1, .sl g1 t1), (5, .int .i64 t5)], []⟩ => bif ctsEq g0 ([.sl [.int .i64], .int .i64, .bool, .int .i64, .int .i64, .int .i64, .int .i64, .int .i64, .int .i64]) && ctsEq g1 ([.sl [.int .i64], .int .i64, .bool, .int .i64, .int .i64, .int .i64, .int .i64, .int .i64, .int .i64]) then ro (runW (R65_0 t0 t1) (((t0.length : Int) - t5).toNat + 1) t5) none (sumE (fun _ : Unit => k (.exit 0) ⟨[], []⟩) (fun _ : Unit => k .ret ⟨[(4, AV.bool false)], []⟩)) else none
  | _ => none
noncomputable def c65 : Cfg := cfg Try.prog [(65, 0, [0, 1, 5]), (65, 999, [4]), (65, 1000, []), (65, 1001, [0, 1, 5])] [(109, m109)] [] [] [(65, 0, l65_0)]
theorem s65_0 (ce : CallE) (t0 : List AV) (t1 : List AV) (t5 : Int) (next : St → Option AV) (k : Kont) : stepA (codeA c65 ce [] 65 0 (sub [1, 1, 0, 1, 0, 0] (body Try.f65))) (normA [] [0, 1, 5]) next ⟨[(0, AV.sl [.sl [.int .i64], .int .i64, .bool, .int .i64, .int .i64, .int .i64, .int .i64, .int .i64, .int .i64] t0), (1, AV.sl [.sl [.int .i64], .int .i64, .bool, .int .i64, .int .i64, .int .i64, .int .i64, .int .i64, .int .i64] t1), (5, AV.int .i64 t5)], []⟩ k = (bif decide (t5 < (t0.length : Int)) then (bif (decide (0 ≤ t5) && decide (t5 < (t0.length : Int))) then (bif (decide (0 ≤ t5) && decide (t5 < (t1.length : Int))) then (bif q109 (fL (t0.getD t5.toNat AV.undef) 0) (fI (t0.getD t5.toNat AV.undef) 1) (fB (t0.getD t5.toNat AV.undef) 2) (fI (t0.getD t5.toNat AV.undef) 3) (fI (t0.getD t5.toNat AV.undef) 4) (fI (t0.getD t5.toNat AV.undef) 5) (fI (t0.getD t5.toNat AV.undef) 6) (fI (t0.getD t5.toNat AV.undef) 7) (fI (t0.getD t5.toNat AV.undef) 8) (fL (t1.getD t5.toNat AV.undef) 0) (fI (t1.getD t5.toNat AV.undef) 1) (fB (t1.getD t5.toNat AV.undef) 2) (fI (t1.getD t5.toNat AV.undef) 3) (fI (t1.getD t5.toNat AV.undef) 4) (fI (t1.getD t5.toNat AV.undef) 5) (fI (t1.getD t5.toNat AV.undef) 6) (fI (t1.getD t5.toNat AV.undef) 7) (fI (t1.getD t5.toNat AV.undef) 8) then (bif !(v109_0 (fL (t0.getD t5.toNat AV.undef) 0) (fI (t0.getD t5.toNat AV.undef) 1) (fB (t0.getD t5.toNat AV.undef) 2) (fI (t0.getD t5.toNat AV.undef) 3) (fI (t0.getD t5.toNat AV.undef) 4) (fI (t0.getD t5.toNat AV.undef) 5) (fI (t0.getD t5.toNat AV.undef) 6) (fI (t0.getD t5.toNat AV.undef) 7) (fI (t0.getD t5.toNat AV.undef) 8) (fL (t1.getD t5.toNat AV.undef) 0) (fI (t1.getD t5.toNat AV.undef) 1) (fB (t1.getD t5.toNat AV.undef) 2) (fI (t1.getD t5.toNat AV.undef) 3) (fI (t1.getD t5.toNat AV.undef) 4) (fI (t1.getD t5.toNat AV.undef) 5) (fI (t1.getD t5.toNat AV.undef) 6) (fI (t1.getD t5.toNat AV.undef) 7) (fI (t1.getD t5.toNat AV.undef) 8)) then k .ret ⟨[(4, AV.bool false)], []⟩
  else next ⟨[(0, AV.sl [.sl [.int .i64], .int .i64, .bool, .int .i64, .int .i64, .int .i64, .int .i64, .int .i64, .int .i64] t0), (1, AV.sl [.sl [.int .i64], .int .i64, .bool, .int .i64, .int .i64, .int .i64, .int .i64, .int .i64, .int .i64] t1), (5, AV.int .i64 (IntKind.i64.wrap (t5 + 1)))], []⟩)
  else none)
  else none)
  else none)
  else k (.exit 0) ⟨[], []⟩) := by kernel_rfl
theorem st65_0 (t0 : List AV) (t1 : List AV) (ce : CallE) (k : Kont) (s : Int) (next : St → Option AV) : stepA (codeA c65 ce [] 65 0 (sub [1, 1, 0, 1, 0, 0] (body Try.f65))) (normA [] [0, 1, 5]) next ((fun s : Int => ⟨[(0, AV.sl [.sl [.int .i64], .int .i64, .bool, .int .i64, .int .i64, .int .i64, .int .i64, .int .i64, .int .i64] t0), (1, AV.sl [.sl [.int .i64], .int .i64, .bool, .int .i64, .int .i64, .int .i64, .int .i64, .int .i64, .int .i64] t1), (5, AV.int .i64 s)], []⟩) s) k = (R65_0 t0 t1 s).el none (fun s => next ((fun s : Int => ⟨[(0, AV.sl [.sl [.int .i64], .int .i64, .bool, .int .i64, .int .i64, .int .i64, .int .i64, .int .i64, .int .i64] t0), (1, AV.sl [.sl [.int .i64], .int .i64, .bool, .int .i64, .int .i64, .int .i64, .int .i64, .int .i64, .int .i64] t1), (5, AV.int .i64 s)], []⟩) s)) (sumE (fun _ : Unit => k (.exit 0) ⟨[], []⟩) (fun _ : Unit => k .ret ⟨[(4, AV.bool false)], []⟩)) := (s65_0 ce t0 t1 s next k).trans (by unfold R65_0; unfold F65_0; simp only [el_cond, el_ro, el_sum, el_fail, el_next, el_stop] <;> rfl)
theorem ok65_0 {ce : CallE} : LoopOK c65 ce [] 65 0 (sub [1, 1, 0, 1, 0, 0] (body Try.f65)) := by
  intro m hm st k r h
  obtain rfl : l65_0 = m := Option.some.inj hm
  unfold l65_0 at h
  split at h
  · rename_i g0 t0 g1 t1 t5
    obtain ⟨hg, h⟩ := bif_some h
    simp only [Bool.and_eq_true] at hg
    obtain ⟨q0, q1⟩ := hg
    obtain rfl := ctsEq_eq _ _ q0
    obtain rfl := ctsEq_eq _ _ q1
    refine ⟨(((t0.length : Int) - t5).toNat + 1), ?_⟩
    rw [← h]
    exact loop_run (fun s : Int => ⟨[(0, AV.sl [.sl [.int .i64], .int .i64, .bool, .int .i64, .int .i64, .int .i64, .int .i64, .int .i64, .int .i64] t0), (1, AV.sl [.sl [.int .i64], .int .i64, .bool, .int .i64, .int .i64, .int .i64, .int .i64, .int .i64, .int .i64] t1), (5, AV.int .i64 s)], []⟩) (sumE (fun _ : Unit => k (.exit 0) ⟨[], []⟩) (fun _ : Unit => k .ret ⟨[(4, AV.bool false)], []⟩)) (st65_0 t0 t1 ce k) _ t5
  · cases h
def q65 (a0 : List AV) (a1 : List AV) : Bool := (bif !decide ((a0.length : Int) = (a1.length : Int)) then true else (ro (runW (R65_0 a0 a1) (((a0.length : Int) - 0).toNat + 1) 0) false (sumE (fun _ => true) (fun _ => true))))
def v65_0 (a0 : List AV) (a1 : List AV) : Bool := (bif !decide ((a0.length : Int) = (a1.length : Int)) then false else (ro (runW (R65_0 a0 a1) (((a0.length : Int) - 0).toNat + 1) 0) false (sumE (fun _ => true) (fun _ => false))))
theorem e65 (a0 : List AV) (a1 : List AV) : funA c65 0 65 [AV.sl [.sl [.int .i64], .int .i64, .bool, .int .i64, .int .i64, .int .i64, .int .i64, .int .i64, .int .i64] a0, AV.sl [.sl [.int .i64], .int .i64, .bool, .int .i64, .int .i64, .int .i64, .int .i64, .int .i64, .int .i64] a1] = (bif !decide ((a0.length : Int) = (a1.length : Int)) then some (AV.bool false)
  else (ro (runW (R65_0 a0 a1) (((a0.length : Int) - 0).toNat + 1) 0) none (sumE (fun _ => some (AV.bool true)) (fun _ => some (AV.bool false))))) := by kernel_rfl
theorem r65 (a0 : List AV) (a1 : List AV) (h : q65 a0 a1 = true) : funA c65 0 65 [AV.sl [.sl [.int .i64], .int .i64, .bool, .int .i64, .int .i64, .int .i64, .int .i64, .int .i64, .int .i64] a0, AV.sl [.sl [.int .i64], .int .i64, .bool, .int .i64, .int .i64, .int .i64, .int .i64, .int .i64, .int .i64] a1] = some (AV.bool (v65_0 a0 a1)) := (e65 a0 a1).trans ((br (fun b => some (AV.bool (bif b then false else (ro (runW (R65_0 a0 a1) (((a0.length : Int) - 0).toNat + 1) 0) false (sumE (fun _ => true) (fun _ => false)))))) (fun _ => rfl) (brO (fun o : Option (Unit ⊕ Unit) => some (AV.bool (ro o false (sumE (fun _ => true) (fun _ => false))))) (brS (fun o : Unit ⊕ Unit => some (AV.bool ((sumE (fun _ => true) (fun _ => false)) o))) (fun _ => (fun _ => rfl)) (fun _ => (fun _ => rfl))))) h)
def m65 : TModel
  | [.sl g0 a0, .sl g1 a1] => bif ctsEq g0 ([.sl [.int .i64], .int .i64, .bool, .int .i64, .int .i64, .int .i64, .int .i64, .int .i64, .int .i64]) && ctsEq g1 ([.sl [.int .i64], .int .i64, .bool, .int .i64, .int .i64, .int .i64, .int .i64, .int .i64, .int .i64]) then some (q65 a0 a1, AV.bool (v65_0 a0 a1)) else none
  | _ => none
theorem k65 : Known Try.prog 65 := ⟨Try.f65, Try.func65, by kernel_rfl, by kernel_rfl⟩
theorem meets65 : Meets Try.prog 65 m65 := by
  refine meet (f := Try.f65) (l := [(0, sub [1, 1, 0, 1, 0, 0] (body Try.f65))]) (hs := [(65, 0, [0, 1, 5]), (65, 999, [4]), (65, 1000, []), (65, 1001, [0, 1, 5])]) (ts := [(109, m109)]) (ws := []) (is := []) (ls := [(65, 0, l65_0)]) (lvl := 0) mixed k65 Try.func65 (by kernel_rfl) (loops_cons ok65_0 noLoop) (allT_cons meets109 allT_nil) allM_nil noI fun w xs us r hl hv h => ?_
  unfold m65 at h
  split at h
  · rename_i g0 a0 g1 a1
    obtain ⟨hg, h⟩ := bif_pair h
    simp only [Bool.and_eq_true] at hg
    obtain ⟨q0, q1⟩ := hg
    obtain rfl := ctsEq_eq _ _ q0
    obtain rfl := ctsEq_eq _ _ q1
    obtain ⟨h1, rfl⟩ := pair_inj h
    exact r65 a0 a1 h1
  · cases h

/-! ### 18 loop.example/g01984/laws.eqBoard -/
noncomputable def c18 : Cfg := cfg Try.prog [(18, 999, [4])] [(40, m40), (65, m65)] [] [] []
def q18 (a0_0 : List AV) (a0_1 : List AV) (a0_2 : List AV) (a0_3 : List AV) (a0_4 : Int) (a1_0 : List AV) (a1_1 : List AV) (a1_2 : List AV) (a1_3 : List AV) (a1_4 : Int) : Bool := (q40 a0_0 a0_1 a0_2 a1_0 a1_1 a1_2 && (bif !(v40_0 a0_0 a0_1 a0_2 a1_0 a1_1 a1_2) then true else q65 a0_3 a1_3))
def v18_0 (a0_0 : List AV) (a0_1 : List AV) (a0_2 : List AV) (a0_3 : List AV) (a0_4 : Int) (a1_0 : List AV) (a1_1 : List AV) (a1_2 : List AV) (a1_3 : List AV) (a1_4 : Int) : Bool := (bif !(v40_0 a0_0 a0_1 a0_2 a1_0 a1_1 a1_2) then false else (bif !(v65_0 a0_3 a1_3) then false else (bif !decide (a0_4 = a1_4) then false else true)))
theorem e18 (a0_0 : List AV) (a0_1 : List AV) (a0_2 : List AV) (a0_3 : List AV) (a0_4 : Int) (a1_0 : List AV) (a1_1 : List AV) (a1_2 : List AV) (a1_3 : List AV) (a1_4 : Int) : funA c18 0 18 [AV.agg [AV.sl [.int .i64] a0_0, AV.sl [.int .i64] a0_1, AV.sl [.int .i64, .int .i64] a0_2, AV.sl [.sl [.int .i64], .int .i64, .bool, .int .i64, .int .i64, .int .i64, .int .i64, .int .i64, .int .i64] a0_3, AV.int .i64 a0_4], AV.agg [AV.sl [.int .i64] a1_0, AV.sl [.int .i64] a1_1, AV.sl [.int .i64, .int .i64] a1_2, AV.sl [.sl [.int .i64], .int .i64, .bool, .int .i64, .int .i64, .int .i64, .int .i64, .int .i64, .int .i64] a1_3, AV.int .i64 a1_4]] = (bif q40 a0_0 a0_1 a0_2 a1_0 a1_1 a1_2 then (bif !(v40_0 a0_0 a0_1 a0_2 a1_0 a1_1 a1_2) then some (AV.bool false)
  else (bif q65 a0_3 a1_3 then (bif !(v65_0 a0_3 a1_3) then some (AV.bool false)
  else (bif !decide (a0_4 = a1_4) then some (AV.bool false)
  else some (AV.bool true)))
  else none))
  else none) := by kernel_rfl
theorem r18 (a0_0 : List AV) (a0_1 : List AV) (a0_2 : List AV) (a0_3 : List AV) (a0_4 : Int) (a1_0 : List AV) (a1_1 : List AV) (a1_2 : List AV) (a1_3 : List AV) (a1_4 : Int) (h : q18 a0_0 a0_1 a0_2 a0_3 a0_4 a1_0 a1_1 a1_2 a1_3 a1_4 = true) : funA c18 0 18 [AV.agg [AV.sl [.int .i64] a0_0, AV.sl [.int .i64] a0_1, AV.sl [.int .i64, .int .i64] a0_2, AV.sl [.sl [.int .i64], .int .i64, .bool, .int .i64, .int .i64, .int .i64, .int .i64, .int .i64, .int .i64] a0_3, AV.int .i64 a0_4], AV.agg [AV.sl [.int .i64] a1_0, AV.sl [.int .i64] a1_1, AV.sl [.int .i64, .int .i64] a1_2, AV.sl [.sl [.int .i64], .int .i64, .bool, .int .i64, .int .i64, .int .i64, .int .i64, .int .i64, .int .i64] a1_3, AV.int .i64 a1_4]] = some (AV.bool (v18_0 a0_0 a0_1 a0_2 a0_3 a0_4 a1_0 a1_1 a1_2 a1_3 a1_4)) := (e18 a0_0 a0_1 a0_2 a0_3 a0_4 a1_0 a1_1 a1_2 a1_3 a1_4).trans ((brL (br (fun b => some (AV.bool (bif b then false else (bif !(v65_0 a0_3 a1_3) then false else (bif !decide (a0_4 = a1_4) then false else true))))) (fun _ => rfl) (brL1 (brT (fun b => some (AV.bool (bif b then false else (bif !decide (a0_4 = a1_4) then false else true)))) (fun _ => rfl) (brT (fun b => some (AV.bool (bif b then false else true))) (fun _ => rfl) (fun _ => rfl)))))) h)
def m18 : TModel
  | [.agg [.sl g0 a0_0, .sl g1 a0_1, .sl g2 a0_2, .sl g3 a0_3, .int .i64 a0_4], .agg [.sl g4 a1_0, .sl g5 a1_1, .sl g6 a1_2, .sl g7 a1_3, .int .i64 a1_4]] => bif ctsEq g0 ([.int .i64]) && ctsEq g1 ([.int .i64]) && ctsEq g2 ([.int .i64, .int .i64]) && ctsEq g3 ([.sl [.int .i64], .int .i64, .bool, .int .i64, .int .i64, .int .i64, .int .i64, .int .i64, .int .i64]) && ctsEq g4 ([.int .i64]) && ctsEq g5 ([.int .i64]) && ctsEq g6 ([.int .i64, .int .i64]) && ctsEq g7 ([.sl [.int .i64], .int .i64, .bool, .int .i64, .int .i64, .int .i64, .int .i64, .int .i64, .int .i64]) then some (q18 a0_0 a0_1 a0_2 a0_3 a0_4 a1_0 a1_1 a1_2 a1_3 a1_4, AV.bool (v18_0 a0_0 a0_1 a0_2 a0_3 a0_4 a1_0 a1_1 a1_2 a1_3 a1_4)) else none
  | _ => none
theorem k18 : Known Try.prog 18 := ⟨Try.f18, Try.func18, by kernel_rfl, by kernel_rfl⟩
theorem meets18 : Meets Try.prog 18 m18 := by
  refine meet (f := Try.f18) (l := []) (hs := [(18, 999, [4])]) (ts := [(40, m40), (65, m65)]) (ws := []) (is := []) (ls := []) (lvl := 0) mixed k18 Try.func18 (by kernel_rfl) noLoop (allT_cons meets40 (allT_cons meets65 allT_nil)) allM_nil noI fun w xs us r hl hv h => ?_
  unfold m18 at h
  split at h
  · rename_i g0 a0_0 g1 a0_1 g2 a0_2 g3 a0_3 a0_4 g4 a1_0 g5 a1_1 g6 a1_2 g7 a1_3 a1_4
    obtain ⟨hg, h⟩ := bif_pair h
    simp only [Bool.and_eq_true] at hg
    obtain ⟨⟨⟨⟨⟨⟨⟨q0, q1⟩, q2⟩, q3⟩, q4⟩, q5⟩, q6⟩, q7⟩ := hg
    obtain rfl := ctsEq_eq _ _ q0
    obtain rfl := ctsEq_eq _ _ q1
    obtain rfl := ctsEq_eq _ _ q2
    obtain rfl := ctsEq_eq _ _ q3
    obtain rfl := ctsEq_eq _ _ q4
    obtain rfl := ctsEq_eq _ _ q5
    obtain rfl := ctsEq_eq _ _ q6
    obtain rfl := ctsEq_eq _ _ q7
    obtain ⟨h1, rfl⟩ := pair_inj h
    exact r18 a0_0 a0_1 a0_2 a0_3 a0_4 a1_0 a1_1 a1_2 a1_3 a1_4 h1
  · cases h

/-! ### 3 loop.example/g01984/laws.FnExactEqualBoards -/
noncomputable def c3 : Cfg := cfg Try.prog [(3, 999, [4])] [(14, m14), (15, m15), (16, m16), (17, m17), (18, m18)] [] [] []
def raw3 (a0_0 : List AV) (a0_1 : List AV) (a0_2 : List AV) (a0_3 : List AV) (a0_4 : Int) (a1_0 : List AV) (a1_1 : List AV) (a1_2 : List AV) (a1_3 : List AV) (a1_4 : Int) : Option AV := (bif q14 a0_0 a0_1 a0_2 a0_3 a0_4 1048576 then (bif decide ((v14_0 a0_0 a0_1 a0_2 a0_3 a0_4 1048576) < 0) then some (AV.bool true)
  else (bif q14 a1_0 a1_1 a1_2 a1_3 a1_4 (v14_0 a0_0 a0_1 a0_2 a0_3 a0_4 1048576) then (bif decide ((v14_0 a1_0 a1_1 a1_2 a1_3 a1_4 (v14_0 a0_0 a0_1 a0_2 a0_3 a0_4 1048576)) < 0) then some (AV.bool true)
  else (bif q16 a0_0 a0_1 a0_2 a0_3 a0_4 then (bif q16 a1_0 a1_1 a1_2 a1_3 a1_4 then (bif q15 (v16_0 a0_0 a0_1 a0_2 a0_3 a0_4) (v16_1 a0_0 a0_1 a0_2 a0_3 a0_4) (v16_2 a0_0 a0_1 a0_2 a0_3 a0_4) (v16_3 a0_0 a0_1 a0_2 a0_3 a0_4) (v16_4 a0_0 a0_1 a0_2 a0_3 a0_4) (v16_0 a1_0 a1_1 a1_2 a1_3 a1_4) (v16_1 a1_0 a1_1 a1_2 a1_3 a1_4) (v16_2 a1_0 a1_1 a1_2 a1_3 a1_4) (v16_3 a1_0 a1_1 a1_2 a1_3 a1_4) (v16_4 a1_0 a1_1 a1_2 a1_3 a1_4) then (bif q16 a0_0 a0_1 a0_2 a0_3 a0_4 then (bif q16 a1_0 a1_1 a1_2 a1_3 a1_4 then (bif q17 (v16_0 a0_0 a0_1 a0_2 a0_3 a0_4) (v16_1 a0_0 a0_1 a0_2 a0_3 a0_4) (v16_2 a0_0 a0_1 a0_2 a0_3 a0_4) (v16_3 a0_0 a0_1 a0_2 a0_3 a0_4) (v16_4 a0_0 a0_1 a0_2 a0_3 a0_4) (v16_0 a1_0 a1_1 a1_2 a1_3 a1_4) (v16_1 a1_0 a1_1 a1_2 a1_3 a1_4) (v16_2 a1_0 a1_1 a1_2 a1_3 a1_4) (v16_3 a1_0 a1_1 a1_2 a1_3 a1_4) (v16_4 a1_0 a1_1 a1_2 a1_3 a1_4) then (bif !((v17_0 (v16_0 a0_0 a0_1 a0_2 a0_3 a0_4) (v16_1 a0_0 a0_1 a0_2 a0_3 a0_4) (v16_2 a0_0 a0_1 a0_2 a0_3 a0_4) (v16_3 a0_0 a0_1 a0_2 a0_3 a0_4) (v16_4 a0_0 a0_1 a0_2 a0_3 a0_4) (v16_0 a1_0 a1_1 a1_2 a1_3 a1_4) (v16_1 a1_0 a1_1 a1_2 a1_3 a1_4) (v16_2 a1_0 a1_1 a1_2 a1_3 a1_4) (v16_3 a1_0 a1_1 a1_2 a1_3 a1_4) (v16_4 a1_0 a1_1 a1_2 a1_3 a1_4)) == (v15_0 (v16_0 a0_0 a0_1 a0_2 a0_3 a0_4) (v16_1 a0_0 a0_1 a0_2 a0_3 a0_4) (v16_2 a0_0 a0_1 a0_2 a0_3 a0_4) (v16_3 a0_0 a0_1 a0_2 a0_3 a0_4) (v16_4 a0_0 a0_1 a0_2 a0_3 a0_4) (v16_0 a1_0 a1_1 a1_2 a1_3 a1_4) (v16_1 a1_0 a1_1 a1_2 a1_3 a1_4) (v16_2 a1_0 a1_1 a1_2 a1_3 a1_4) (v16_3 a1_0 a1_1 a1_2 a1_3 a1_4) (v16_4 a1_0 a1_1 a1_2 a1_3 a1_4))) then some (AV.bool false)
  else (bif q16 a0_0 a0_1 a0_2 a0_3 a0_4 then (bif q18 (v16_0 a0_0 a0_1 a0_2 a0_3 a0_4) (v16_1 a0_0 a0_1 a0_2 a0_3 a0_4) (v16_2 a0_0 a0_1 a0_2 a0_3 a0_4) (v16_3 a0_0 a0_1 a0_2 a0_3 a0_4) (v16_4 a0_0 a0_1 a0_2 a0_3 a0_4) (v16_0 a0_0 a0_1 a0_2 a0_3 a0_4) (v16_1 a0_0 a0_1 a0_2 a0_3 a0_4) (v16_2 a0_0 a0_1 a0_2 a0_3 a0_4) (v16_3 a0_0 a0_1 a0_2 a0_3 a0_4) (v16_4 a0_0 a0_1 a0_2 a0_3 a0_4) then (bif !(v18_0 (v16_0 a0_0 a0_1 a0_2 a0_3 a0_4) (v16_1 a0_0 a0_1 a0_2 a0_3 a0_4) (v16_2 a0_0 a0_1 a0_2 a0_3 a0_4) (v16_3 a0_0 a0_1 a0_2 a0_3 a0_4) (v16_4 a0_0 a0_1 a0_2 a0_3 a0_4) (v16_0 a0_0 a0_1 a0_2 a0_3 a0_4) (v16_1 a0_0 a0_1 a0_2 a0_3 a0_4) (v16_2 a0_0 a0_1 a0_2 a0_3 a0_4) (v16_3 a0_0 a0_1 a0_2 a0_3 a0_4) (v16_4 a0_0 a0_1 a0_2 a0_3 a0_4)) then some (AV.bool false)
  else (bif q16 a1_0 a1_1 a1_2 a1_3 a1_4 then (bif q18 (v16_0 a1_0 a1_1 a1_2 a1_3 a1_4) (v16_1 a1_0 a1_1 a1_2 a1_3 a1_4) (v16_2 a1_0 a1_1 a1_2 a1_3 a1_4) (v16_3 a1_0 a1_1 a1_2 a1_3 a1_4) (v16_4 a1_0 a1_1 a1_2 a1_3 a1_4) (v16_0 a1_0 a1_1 a1_2 a1_3 a1_4) (v16_1 a1_0 a1_1 a1_2 a1_3 a1_4) (v16_2 a1_0 a1_1 a1_2 a1_3 a1_4) (v16_3 a1_0 a1_1 a1_2 a1_3 a1_4) (v16_4 a1_0 a1_1 a1_2 a1_3 a1_4) then (bif !(v18_0 (v16_0 a1_0 a1_1 a1_2 a1_3 a1_4) (v16_1 a1_0 a1_1 a1_2 a1_3 a1_4) (v16_2 a1_0 a1_1 a1_2 a1_3 a1_4) (v16_3 a1_0 a1_1 a1_2 a1_3 a1_4) (v16_4 a1_0 a1_1 a1_2 a1_3 a1_4) (v16_0 a1_0 a1_1 a1_2 a1_3 a1_4) (v16_1 a1_0 a1_1 a1_2 a1_3 a1_4) (v16_2 a1_0 a1_1 a1_2 a1_3 a1_4) (v16_3 a1_0 a1_1 a1_2 a1_3 a1_4) (v16_4 a1_0 a1_1 a1_2 a1_3 a1_4)) then some (AV.bool false)
  else some (AV.bool true))
  else none)
  else none))
  else none)
  else none))
  else none)
  else none)
  else none)
  else none)
  else none)
  else none))
  else none))
  else none)
theorem e3 (a0_0 : List AV) (a0_1 : List AV) (a0_2 : List AV) (a0_3 : List AV) (a0_4 : Int) (a1_0 : List AV) (a1_1 : List AV) (a1_2 : List AV) (a1_3 : List AV) (a1_4 : Int) : funA c3 0 3 [AV.agg [AV.sl [.int .i64] a0_0, AV.sl [.int .i64] a0_1, AV.sl [.int .i64, .int .i64] a0_2, AV.sl [.sl [.int .i64], .int .i64, .bool, .int .i64, .int .i64, .int .i64, .int .i64, .int .i64, .int .i64] a0_3, AV.int .i64 a0_4], AV.agg [AV.sl [.int .i64] a1_0, AV.sl [.int .i64] a1_1, AV.sl [.int .i64, .int .i64] a1_2, AV.sl [.sl [.int .i64], .int .i64, .bool, .int .i64, .int .i64, .int .i64, .int .i64, .int .i64, .int .i64] a1_3, AV.int .i64 a1_4]] = raw3 a0_0 a0_1 a0_2 a0_3 a0_4 a1_0 a1_1 a1_2 a1_3 a1_4 := by kernel_rfl
def m3 : TModel
  | [.agg [.sl g0 a0_0, .sl g1 a0_1, .sl g2 a0_2, .sl g3 a0_3, .int .i64 a0_4], .agg [.sl g4 a1_0, .sl g5 a1_1, .sl g6 a1_2, .sl g7 a1_3, .int .i64 a1_4]] => bif ctsEq g0 ([.int .i64]) && ctsEq g1 ([.int .i64]) && ctsEq g2 ([.int .i64, .int .i64]) && ctsEq g3 ([.sl [.int .i64], .int .i64, .bool, .int .i64, .int .i64, .int .i64, .int .i64, .int .i64, .int .i64]) && ctsEq g4 ([.int .i64]) && ctsEq g5 ([.int .i64]) && ctsEq g6 ([.int .i64, .int .i64]) && ctsEq g7 ([.sl [.int .i64], .int .i64, .bool, .int .i64, .int .i64, .int .i64, .int .i64, .int .i64, .int .i64]) then (raw3 a0_0 a0_1 a0_2 a0_3 a0_4 a1_0 a1_1 a1_2 a1_3 a1_4).map fun r => (true, r) else none
  | _ => none
theorem k3 : Known Try.prog 3 := ⟨Try.f3, Try.func3, by kernel_rfl, by kernel_rfl⟩
theorem meets3 : Meets Try.prog 3 m3 := by
  refine meet (f := Try.f3) (l := []) (hs := [(3, 999, [4])]) (ts := [(14, m14), (15, m15), (16, m16), (17, m17), (18, m18)]) (ws := []) (is := []) (ls := []) (lvl := 0) mixed k3 Try.func3 (by kernel_rfl) noLoop (allT_cons meets14 (allT_cons meets15 (allT_cons meets16 (allT_cons meets17 (allT_cons meets18 allT_nil))))) allM_nil noI fun w xs us r hl hv h => ?_
  unfold m3 at h
  split at h
  · rename_i g0 a0_0 g1 a0_1 g2 a0_2 g3 a0_3 a0_4 g4 a1_0 g5 a1_1 g6 a1_2 g7 a1_3 a1_4
    obtain ⟨hg, h⟩ := bif_pair h
    simp only [Bool.and_eq_true] at hg
    obtain ⟨⟨⟨⟨⟨⟨⟨q0, q1⟩, q2⟩, q3⟩, q4⟩, q5⟩, q6⟩, q7⟩ := hg
    obtain rfl := ctsEq_eq _ _ q0
    obtain rfl := ctsEq_eq _ _ q1
    obtain rfl := ctsEq_eq _ _ q2
    obtain rfl := ctsEq_eq _ _ q3
    obtain rfl := ctsEq_eq _ _ q4
    obtain rfl := ctsEq_eq _ _ q5
    obtain rfl := ctsEq_eq _ _ q6
    obtain rfl := ctsEq_eq _ _ q7
    obtain ⟨r', h1, h2⟩ := Option.map_eq_some_iff.1 h
    obtain ⟨_, rfl⟩ := Prod.mk.inj h2
    exact (e3 a0_0 a0_1 a0_2 a0_3 a0_4 a1_0 a1_1 a1_2 a1_3 a1_4).trans h1
  · cases h
end Go.Proofs.Ytdhhceamknidmaa
