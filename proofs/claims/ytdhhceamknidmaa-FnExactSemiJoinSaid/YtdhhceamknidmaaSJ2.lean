/- The walk of what this claim reaches: printed by a program, each equation checked by the kernel. -/
import Derived.Test.YtdhhceamknidmaaSJ1
import Derived.Test.YtdhhceamknidmaaProg
import Derived.KernelRfl
namespace Go.Proofs.Ytdhhceamknidmaa
open Go Go.Proofs.VE
set_option linter.unusedVariables false
set_option linter.unusedSimpArgs false
set_option maxRecDepth 100000
set_option maxHeartbeats 4000000
/-! ### 90 loop.example/g01984/laws.eqPivotS -/
def F90_0 (t0 : List AV) (t1 : List AV) (t5 : Int) : Out (Int) (Unit ⊕ Unit) := (bif decide (t5 < (t0.length : Int)) then (bif (decide (0 ≤ t5) && decide (t5 < (t0.length : Int))) then (bif (decide (0 ≤ t5) && decide (t5 < (t1.length : Int))) then (bif !(v122_0 (fI (t0.getD t5.toNat AV.undef) 0) (fI (t0.getD t5.toNat AV.undef) 1) (fI (t1.getD t5.toNat AV.undef) 0) (fI (t1.getD t5.toNat AV.undef) 1)) then .stop (.inr ())
  else .next (IntKind.i64.wrap (t5 + 1)))
  else .fail)
  else .fail)
  else .stop (.inl ()))
def R90_0 (t0 : List AV) (t1 : List AV) : (Int) → Out (Int) (Unit ⊕ Unit) := fun s : Int => F90_0 t0 t1 s
def l90_0 : LModel := fun _ _ st k => match st with
  | ⟨[(0, .sl g0 t0), (1, .sl g1 t1), (5, .int .i64 t5)], []⟩ => bif ctsEq g0 ([.int .i64, .int .i64]) && ctsEq g1 ([.int .i64, .int .i64]) then ro (runW (R90_0 t0 t1) (((t0.length : Int) - t5 : Int).toNat + 1) t5) none (sumE (fun _ : Unit => k (.exit 0) ⟨[], []⟩) (fun _ : Unit => k .ret ⟨[(4, AV.bool false)], []⟩)) else none
  | _ => none
noncomputable def c90 : Cfg := cfg Try.prog [(90, 0, [0, 1, 5]), (90, 999, [4]), (90, 1000, []), (90, 1001, [0, 1, 5])] [(122, m122)] [] [] [(90, 0, l90_0)]
theorem s90_0 (ce : CallE) (t0 : List AV) (t1 : List AV) (t5 : Int) (next : St → Option AV) (k : Kont) : stepA (codeA c90 ce [] 90 0 (sub [1, 1, 0, 1, 0, 0] (body Try.f90))) (normA [] [0, 1, 5]) next ⟨[(0, AV.sl [.int .i64, .int .i64] t0), (1, AV.sl [.int .i64, .int .i64] t1), (5, AV.int .i64 t5)], []⟩ k = (bif decide (t5 < (t0.length : Int)) then (bif (decide (0 ≤ t5) && decide (t5 < (t0.length : Int))) then (bif (decide (0 ≤ t5) && decide (t5 < (t1.length : Int))) then (bif !(v122_0 (fI (t0.getD t5.toNat AV.undef) 0) (fI (t0.getD t5.toNat AV.undef) 1) (fI (t1.getD t5.toNat AV.undef) 0) (fI (t1.getD t5.toNat AV.undef) 1)) then k .ret ⟨[(4, AV.bool false)], []⟩
  else next ⟨[(0, AV.sl [.int .i64, .int .i64] t0), (1, AV.sl [.int .i64, .int .i64] t1), (5, AV.int .i64 (IntKind.i64.wrap (t5 + 1)))], []⟩)
  else none)
  else none)
  else k (.exit 0) ⟨[], []⟩) := by kernel_rfl
theorem st90_0 (t0 : List AV) (t1 : List AV) (ce : CallE) (k : Kont) (s : Int) (next : St → Option AV) : stepA (codeA c90 ce [] 90 0 (sub [1, 1, 0, 1, 0, 0] (body Try.f90))) (normA [] [0, 1, 5]) next ((fun s : Int => ⟨[(0, AV.sl [.int .i64, .int .i64] t0), (1, AV.sl [.int .i64, .int .i64] t1), (5, AV.int .i64 s)], []⟩) s) k = (R90_0 t0 t1 s).el none (fun s => next ((fun s : Int => ⟨[(0, AV.sl [.int .i64, .int .i64] t0), (1, AV.sl [.int .i64, .int .i64] t1), (5, AV.int .i64 s)], []⟩) s)) (sumE (fun _ : Unit => k (.exit 0) ⟨[], []⟩) (fun _ : Unit => k .ret ⟨[(4, AV.bool false)], []⟩)) := (s90_0 ce t0 t1 s next k).trans (by unfold R90_0; unfold F90_0; simp only [el_cond, el_ro, el_sum, el_fail, el_next, el_stop] <;> rfl)
theorem ok90_0 {ce : CallE} : LoopOK c90 ce [] 90 0 (sub [1, 1, 0, 1, 0, 0] (body Try.f90)) := by
  intro m hm st k r h
  obtain rfl : l90_0 = m := Option.some.inj hm
  unfold l90_0 at h
  split at h
  · rename_i g0 t0 g1 t1 t5
    obtain ⟨hg, h⟩ := bif_some h
    simp only [Bool.and_eq_true] at hg
    obtain ⟨q0, q1⟩ := hg
    obtain rfl := ctsEq_eq _ _ q0
    obtain rfl := ctsEq_eq _ _ q1
    refine ⟨(((t0.length : Int) - t5 : Int).toNat + 1), ?_⟩
    rw [← h]
    exact loop_run (fun s : Int => ⟨[(0, AV.sl [.int .i64, .int .i64] t0), (1, AV.sl [.int .i64, .int .i64] t1), (5, AV.int .i64 s)], []⟩) (sumE (fun _ : Unit => k (.exit 0) ⟨[], []⟩) (fun _ : Unit => k .ret ⟨[(4, AV.bool false)], []⟩)) (st90_0 t0 t1 ce k) _ t5
  · cases h
def q90 (a0 : List AV) (a1 : List AV) : Bool := (bif !decide ((a0.length : Int) = (a1.length : Int)) then true else (ro (runW (R90_0 a0 a1) (((a0.length : Int) - 0 : Int).toNat + 1) 0) false (sumE (fun _ => true) (fun _ => true))))
def v90_0 (a0 : List AV) (a1 : List AV) : Bool := (bif !decide ((a0.length : Int) = (a1.length : Int)) then false else (ro (runW (R90_0 a0 a1) (((a0.length : Int) - 0 : Int).toNat + 1) 0) false (sumE (fun _ => true) (fun _ => false))))
theorem e90 (a0 : List AV) (a1 : List AV) : funA c90 0 90 [AV.sl [.int .i64, .int .i64] a0, AV.sl [.int .i64, .int .i64] a1] = (bif !decide ((a0.length : Int) = (a1.length : Int)) then some (AV.bool false)
  else (ro (runW (R90_0 a0 a1) (((a0.length : Int) - 0 : Int).toNat + 1) 0) none (sumE (fun _ => some (AV.bool true)) (fun _ => some (AV.bool false))))) := by kernel_rfl
theorem r90 (a0 : List AV) (a1 : List AV) (h : q90 a0 a1 = true) : funA c90 0 90 [AV.sl [.int .i64, .int .i64] a0, AV.sl [.int .i64, .int .i64] a1] = some (AV.bool (v90_0 a0 a1)) := (e90 a0 a1).trans ((br (fun b => some (AV.bool (bif b then false else (ro (runW (R90_0 a0 a1) (((a0.length : Int) - 0 : Int).toNat + 1) 0) false (sumE (fun _ => true) (fun _ => false)))))) (fun _ => rfl) (brO (fun o : Option (Unit ⊕ Unit) => some (AV.bool (ro o false (sumE (fun _ => true) (fun _ => false))))) (brS (fun o : Unit ⊕ Unit => some (AV.bool ((sumE (fun _ => true) (fun _ => false)) o))) (fun _ => (fun _ => rfl)) (fun _ => (fun _ => rfl))))) h)
def m90 : TModel
  | [.sl g0 a0, .sl g1 a1] => bif ctsEq g0 ([.int .i64, .int .i64]) && ctsEq g1 ([.int .i64, .int .i64]) then some (q90 a0 a1, AV.bool (v90_0 a0 a1)) else none
  | _ => none
theorem k90 : Known Try.prog 90 := ⟨Try.f90, Try.func90, by kernel_rfl, by kernel_rfl⟩
theorem meets90 : Meets Try.prog 90 m90 := by
  refine meet (f := Try.f90) (l := [(0, sub [1, 1, 0, 1, 0, 0] (body Try.f90))]) (hs := [(90, 0, [0, 1, 5]), (90, 999, [4]), (90, 1000, []), (90, 1001, [0, 1, 5])]) (ts := [(122, m122)]) (ws := []) (is := []) (ls := [(90, 0, l90_0)]) (lvl := 0) mixed k90 Try.func90 (by kernel_rfl) (loops_cons ok90_0 noLoop) (allT_cons meets122 allT_nil) allM_nil noI fun w xs us r hl hv h => ?_
  unfold m90 at h
  split at h
  · rename_i g0 a0 g1 a1
    obtain ⟨hg, h⟩ := bif_pair h
    simp only [Bool.and_eq_true] at hg
    obtain ⟨q0, q1⟩ := hg
    obtain rfl := ctsEq_eq _ _ q0
    obtain rfl := ctsEq_eq _ _ q1
    obtain ⟨h1, rfl⟩ := pair_inj h
    exact r90 a0 a1 h1
  · cases h

/-! ### 40 loop.example/g01984/laws.eqCracker -/
noncomputable def c40 : Cfg := cfg Try.prog [(40, 999, [4])] [(30, m30), (90, m90)] [] [] []
def q40 (a0_0 : List AV) (a0_1 : List AV) (a0_2 : List AV) (a1_0 : List AV) (a1_1 : List AV) (a1_2 : List AV) : Bool := (q30 a0_0 a1_0 && (bif !(v30_0 a0_0 a1_0) then true else (q30 a0_1 a1_1 && (bif !(v30_0 a0_1 a1_1) then true else q90 a0_2 a1_2))))
def v40_0 (a0_0 : List AV) (a0_1 : List AV) (a0_2 : List AV) (a1_0 : List AV) (a1_1 : List AV) (a1_2 : List AV) : Bool := (bif !(v30_0 a0_0 a1_0) then false else (bif !(v30_0 a0_1 a1_1) then false else (bif !(v90_0 a0_2 a1_2) then false else true)))
theorem e40 (a0_0 : List AV) (a0_1 : List AV) (a0_2 : List AV) (a1_0 : List AV) (a1_1 : List AV) (a1_2 : List AV) : funA c40 0 40 [AV.agg [AV.sl [.int .i64] a0_0, AV.sl [.int .i64] a0_1, AV.sl [.int .i64, .int .i64] a0_2], AV.agg [AV.sl [.int .i64] a1_0, AV.sl [.int .i64] a1_1, AV.sl [.int .i64, .int .i64] a1_2]] = (bif q30 a0_0 a1_0 then (bif !(v30_0 a0_0 a1_0) then some (AV.bool false)
  else (bif q30 a0_1 a1_1 then (bif !(v30_0 a0_1 a1_1) then some (AV.bool false)
  else (bif q90 a0_2 a1_2 then (bif !(v90_0 a0_2 a1_2) then some (AV.bool false)
  else some (AV.bool true))
  else none))
  else none))
  else none) := by kernel_rfl
theorem r40 (a0_0 : List AV) (a0_1 : List AV) (a0_2 : List AV) (a1_0 : List AV) (a1_1 : List AV) (a1_2 : List AV) (h : q40 a0_0 a0_1 a0_2 a1_0 a1_1 a1_2 = true) : funA c40 0 40 [AV.agg [AV.sl [.int .i64] a0_0, AV.sl [.int .i64] a0_1, AV.sl [.int .i64, .int .i64] a0_2], AV.agg [AV.sl [.int .i64] a1_0, AV.sl [.int .i64] a1_1, AV.sl [.int .i64, .int .i64] a1_2]] = some (AV.bool (v40_0 a0_0 a0_1 a0_2 a1_0 a1_1 a1_2)) := (e40 a0_0 a0_1 a0_2 a1_0 a1_1 a1_2).trans ((brL (br (fun b => some (AV.bool (bif b then false else (bif !(v30_0 a0_1 a1_1) then false else (bif !(v90_0 a0_2 a1_2) then false else true))))) (fun _ => rfl) (brL (br (fun b => some (AV.bool (bif b then false else (bif !(v90_0 a0_2 a1_2) then false else true)))) (fun _ => rfl) (brL1 (brT (fun b => some (AV.bool (bif b then false else true))) (fun _ => rfl) (fun _ => rfl))))))) h)
def m40 : TModel
  | [.agg [.sl g0 a0_0, .sl g1 a0_1, .sl g2 a0_2], .agg [.sl g3 a1_0, .sl g4 a1_1, .sl g5 a1_2]] => bif ctsEq g0 ([.int .i64]) && ctsEq g1 ([.int .i64]) && ctsEq g2 ([.int .i64, .int .i64]) && ctsEq g3 ([.int .i64]) && ctsEq g4 ([.int .i64]) && ctsEq g5 ([.int .i64, .int .i64]) then some (q40 a0_0 a0_1 a0_2 a1_0 a1_1 a1_2, AV.bool (v40_0 a0_0 a0_1 a0_2 a1_0 a1_1 a1_2)) else none
  | _ => none
theorem k40 : Known Try.prog 40 := ⟨Try.f40, Try.func40, by kernel_rfl, by kernel_rfl⟩
theorem meets40 : Meets Try.prog 40 m40 := by
  refine meet (f := Try.f40) (l := []) (hs := [(40, 999, [4])]) (ts := [(30, m30), (90, m90)]) (ws := []) (is := []) (ls := []) (lvl := 0) mixed k40 Try.func40 (by kernel_rfl) noLoop (allT_cons meets30 (allT_cons meets90 allT_nil)) allM_nil noI fun w xs us r hl hv h => ?_
  unfold m40 at h
  split at h
  · rename_i g0 a0_0 g1 a0_1 g2 a0_2 g3 a1_0 g4 a1_1 g5 a1_2
    obtain ⟨hg, h⟩ := bif_pair h
    simp only [Bool.and_eq_true] at hg
    obtain ⟨⟨⟨⟨⟨q0, q1⟩, q2⟩, q3⟩, q4⟩, q5⟩ := hg
    obtain rfl := ctsEq_eq _ _ q0
    obtain rfl := ctsEq_eq _ _ q1
    obtain rfl := ctsEq_eq _ _ q2
    obtain rfl := ctsEq_eq _ _ q3
    obtain rfl := ctsEq_eq _ _ q4
    obtain rfl := ctsEq_eq _ _ q5
    obtain ⟨h1, rfl⟩ := pair_inj h
    exact r40 a0_0 a0_1 a0_2 a1_0 a1_1 a1_2 h1
  · cases h

/-! ### 32 loop.example/g01984/laws.markIntS -/
def F32_0 (t1 : Int) (t5 : Int) (h0 : List AV) : Out ((Int × Int × (List AV))) ((Int × (List AV))) := (bif decide (t5 < (h0.length : Int)) then (bif (decide (0 ≤ t5) && decide (t5 < (h0.length : Int))) then .next (IntKind.i64.wrap (t1 + 1), IntKind.i64.wrap (t5 + 1), h0.set t5.toNat (AV.agg [AV.int .i64 t1]))
  else .fail)
  else .stop (t1, h0))
def R32_0 : ((Int × Int × (List AV))) → Out ((Int × Int × (List AV))) ((Int × (List AV))) := fun s : Int × Int × (List AV) => F32_0 s.1 s.2.1 s.2.2
def l32_0 : LModel := fun _ _ st k => match st with
  | ⟨[(0, .own g0), (1, .int .i64 t1), (5, .int .i64 t5)], [(g1, ⟨false, g2, h0⟩)]⟩ => bif nmEq g0 ([1]) && nmEq g1 ([1]) && ctsEq g2 ([.int .i64]) then ro (runW (R32_0) (((h0.length : Int) - t5 : Int).toNat + 1) (t1, t5, h0)) none (fun p : Int × (List AV) => k (.exit 0) ⟨[(1, AV.int .i64 p.1)], [([1], ⟨false, [.int .i64], p.2⟩)]⟩) else none
  | _ => none
noncomputable def c32 : Cfg := cfg Try.prog [(32, 0, [0, 1, 5]), (32, 999, [4]), (32, 1000, [1]), (32, 1001, [0, 1, 5])] [] [] [] [(32, 0, l32_0)]
theorem s32_0 (ce : CallE) (t1 : Int) (t5 : Int) (h0 : List AV) (next : St → Option AV) (k : Kont) : stepA (codeA c32 ce [0] 32 0 (sub [1, 0, 1, 0, 0] (body Try.f32))) (normA [0] [0, 1, 5]) next ⟨[(0, AV.own [1]), (1, AV.int .i64 t1), (5, AV.int .i64 t5)], [([1], ⟨false, [.int .i64], h0⟩)]⟩ k = (bif decide (t5 < (h0.length : Int)) then (bif (decide (0 ≤ t5) && decide (t5 < (h0.length : Int))) then next ⟨[(0, AV.own [1]), (1, AV.int .i64 (IntKind.i64.wrap (t1 + 1))), (5, AV.int .i64 (IntKind.i64.wrap (t5 + 1)))], [([1], ⟨false, [.int .i64], h0.set t5.toNat (AV.agg [AV.int .i64 t1])⟩)]⟩
  else none)
  else k (.exit 0) ⟨[(1, AV.int .i64 t1)], [([1], ⟨false, [.int .i64], h0⟩)]⟩) := by kernel_rfl
theorem st32_0 (ce : CallE) (k : Kont) (s : (Int × Int × (List AV))) (next : St → Option AV) : stepA (codeA c32 ce [0] 32 0 (sub [1, 0, 1, 0, 0] (body Try.f32))) (normA [0] [0, 1, 5]) next ((fun s : Int × Int × (List AV) => ⟨[(0, AV.own [1]), (1, AV.int .i64 s.1), (5, AV.int .i64 s.2.1)], [([1], ⟨false, [.int .i64], s.2.2⟩)]⟩) s) k = (R32_0 s).el none (fun s => next ((fun s : Int × Int × (List AV) => ⟨[(0, AV.own [1]), (1, AV.int .i64 s.1), (5, AV.int .i64 s.2.1)], [([1], ⟨false, [.int .i64], s.2.2⟩)]⟩) s)) (fun p : Int × (List AV) => k (.exit 0) ⟨[(1, AV.int .i64 p.1)], [([1], ⟨false, [.int .i64], p.2⟩)]⟩) := (s32_0 ce s.1 s.2.1 s.2.2 next k).trans (by unfold R32_0; unfold F32_0; simp only [el_cond, el_ro, el_sum, el_fail, el_next, el_stop] <;> rfl)
theorem ok32_0 {ce : CallE} : LoopOK c32 ce [0] 32 0 (sub [1, 0, 1, 0, 0] (body Try.f32)) := by
  intro m hm st k r h
  obtain rfl : l32_0 = m := Option.some.inj hm
  unfold l32_0 at h
  split at h
  · rename_i g0 t1 t5 g1 g2 h0
    obtain ⟨hg, h⟩ := bif_some h
    simp only [Bool.and_eq_true] at hg
    obtain ⟨⟨q0, q1⟩, q2⟩ := hg
    obtain rfl := (nmEq_iff _ _).1 q0
    obtain rfl := (nmEq_iff _ _).1 q1
    obtain rfl := ctsEq_eq _ _ q2
    refine ⟨(((h0.length : Int) - t5 : Int).toNat + 1), ?_⟩
    rw [← h]
    exact loop_run (fun s : Int × Int × (List AV) => ⟨[(0, AV.own [1]), (1, AV.int .i64 s.1), (5, AV.int .i64 s.2.1)], [([1], ⟨false, [.int .i64], s.2.2⟩)]⟩) (fun p : Int × (List AV) => k (.exit 0) ⟨[(1, AV.int .i64 p.1)], [([1], ⟨false, [.int .i64], p.2⟩)]⟩) (st32_0 ce k) _ (t1, t5, h0)
  · cases h
def q32 (a1 : Int) (b0 : List AV) : Bool := (ro (runW (R32_0) (((b0.length : Int) - 0 : Int).toNat + 1) (a1, 0, b0)) false (fun p46 => true))
def v32_0 (a1 : Int) (b0 : List AV) : Int := (ro (runW (R32_0) (((b0.length : Int) - 0 : Int).toNat + 1) (a1, 0, b0)) 0 (fun p46 => p46.1))
def v32_1 (a1 : Int) (b0 : List AV) : List AV := (ro (runW (R32_0) (((b0.length : Int) - 0 : Int).toNat + 1) (a1, 0, b0)) [] (fun p46 => p46.2))
theorem e32 (a1 : Int) (b0 : List AV) (K : AV → List Blk → Option AV) : inlA c32 1 32 [AV.own [1], AV.int .i64 a1] [0] (canH 1 [⟨false, [.int .i64], b0⟩]) (keepB 1 K) = (ro (runW (R32_0) (((b0.length : Int) - 0 : Int).toNat + 1) (a1, 0, b0)) none (fun p46 => K (AV.int .i64 p46.1) [⟨false, [.int .i64], p46.2⟩])) := by kernel_rfl
theorem r32 (a1 : Int) (b0 : List AV) (K : AV → List Blk → Option AV) (h : q32 a1 b0 = true) : inlA c32 1 32 [AV.own [1], AV.int .i64 a1] [0] (canH 1 [⟨false, [.int .i64], b0⟩]) (keepB 1 K) = K (AV.int .i64 (v32_0 a1 b0)) [⟨false, [.int .i64], (v32_1 a1 b0)⟩] := (e32 a1 b0 K).trans ((brO (fun o : Option ((Int × (List AV))) => K (AV.int .i64 (ro o 0 (fun p46 => p46.1))) [⟨false, [.int .i64], (ro o [] (fun p46 => p46.2))⟩]) (fun p46 => (fun _ => rfl))) h)
def m32 : WModel
  | [.own g0, .int .i64 a1], [⟨false, g1, b0⟩] => bif nmEq g0 ([1]) && ctsEq g1 ([.int .i64]) then some (q32 a1 b0, AV.int .i64 (v32_0 a1 b0), [⟨false, [.int .i64], (v32_1 a1 b0)⟩]) else none
  | _, _ => none
theorem k32 : Known Try.prog 32 := ⟨Try.f32, Try.func32, by kernel_rfl, by kernel_rfl⟩
theorem meets32 : MeetsM Try.prog 32 m32 := by
  refine meetM (f := Try.f32) (l := [(0, sub [1, 0, 1, 0, 0] (body Try.f32))]) (hs := [(32, 0, [0, 1, 5]), (32, 999, [4]), (32, 1000, [1]), (32, 1001, [0, 1, 5])]) (ts := []) (ws := []) (is := []) (ls := [(32, 0, l32_0)]) (lvl := 0) mixed k32 Try.func32 (by kernel_rfl) (loops_cons ok32_0 noLoop) allT_nil allM_nil noI fun C w xs us bs r bs' hl hv hh h K => ?_
  unfold m32 at h
  split at h
  · rename_i g0 a1 g1 b0
    obtain ⟨hg, h⟩ := bif_pair h
    simp only [Bool.and_eq_true] at hg
    obtain ⟨q0, q1⟩ := hg
    obtain rfl := (nmEq_iff _ _).1 q0
    obtain rfl := ctsEq_eq _ _ q1
    obtain ⟨h1, rfl, rfl⟩ := trip_inj h
    exact r32 a1 b0 K h1
  · cases h

/-! ### 94 loop.example/g01984/laws.markPivotS -/
def F94_0 (t1 : Int) (t5 : Int) (h0 : List AV) : Out ((Int × Int × (List AV))) ((Int × (List AV))) := (bif decide (t5 < (h0.length : Int)) then (bif (decide (0 ≤ t5) && decide (t5 < (h0.length : Int))) then (bif (decide (0 ≤ t5) && decide (t5 < ((h0.set t5.toNat (AV.agg [AV.int .i64 t1, AV.int .i64 (fI (h0.getD t5.toNat AV.undef) 1)])).length : Int))) then .next (IntKind.i64.wrap (IntKind.i64.wrap (t1 + 1) + 1), IntKind.i64.wrap (t5 + 1), (h0.set t5.toNat (AV.agg [AV.int .i64 t1, AV.int .i64 (fI (h0.getD t5.toNat AV.undef) 1)])).set t5.toNat (AV.agg [AV.int .i64 (fI ((h0.set t5.toNat (AV.agg [AV.int .i64 t1, AV.int .i64 (fI (h0.getD t5.toNat AV.undef) 1)])).getD t5.toNat AV.undef) 0), AV.int .i64 (IntKind.i64.wrap (t1 + 1))]))
  else .fail)
  else .fail)
  else .stop (t1, h0))
def R94_0 : ((Int × Int × (List AV))) → Out ((Int × Int × (List AV))) ((Int × (List AV))) := fun s : Int × Int × (List AV) => F94_0 s.1 s.2.1 s.2.2
def l94_0 : LModel := fun _ _ st k => match st with
  | ⟨[(0, .own g0), (1, .int .i64 t1), (5, .int .i64 t5)], [(g1, ⟨false, g2, h0⟩)]⟩ => bif nmEq g0 ([1]) && nmEq g1 ([1]) && ctsEq g2 ([.int .i64, .int .i64]) then ro (runW (R94_0) (((h0.length : Int) - t5 : Int).toNat + 1) (t1, t5, h0)) none (fun p : Int × (List AV) => k (.exit 0) ⟨[(1, AV.int .i64 p.1)], [([1], ⟨false, [.int .i64, .int .i64], p.2⟩)]⟩) else none
  | _ => none
noncomputable def c94 : Cfg := cfg Try.prog [(94, 0, [0, 1, 5]), (94, 999, [4]), (94, 1000, [1]), (94, 1001, [0, 1, 5])] [] [] [] [(94, 0, l94_0)]
theorem s94_0 (ce : CallE) (t1 : Int) (t5 : Int) (h0 : List AV) (next : St → Option AV) (k : Kont) : stepA (codeA c94 ce [0] 94 0 (sub [1, 0, 1, 0, 0] (body Try.f94))) (normA [0] [0, 1, 5]) next ⟨[(0, AV.own [1]), (1, AV.int .i64 t1), (5, AV.int .i64 t5)], [([1], ⟨false, [.int .i64, .int .i64], h0⟩)]⟩ k = (bif decide (t5 < (h0.length : Int)) then (bif (decide (0 ≤ t5) && decide (t5 < (h0.length : Int))) then (bif (decide (0 ≤ t5) && decide (t5 < ((h0.set t5.toNat (AV.agg [AV.int .i64 t1, AV.int .i64 (fI (h0.getD t5.toNat AV.undef) 1)])).length : Int))) then next ⟨[(0, AV.own [1]), (1, AV.int .i64 (IntKind.i64.wrap (IntKind.i64.wrap (t1 + 1) + 1))), (5, AV.int .i64 (IntKind.i64.wrap (t5 + 1)))], [([1], ⟨false, [.int .i64, .int .i64], (h0.set t5.toNat (AV.agg [AV.int .i64 t1, AV.int .i64 (fI (h0.getD t5.toNat AV.undef) 1)])).set t5.toNat (AV.agg [AV.int .i64 (fI ((h0.set t5.toNat (AV.agg [AV.int .i64 t1, AV.int .i64 (fI (h0.getD t5.toNat AV.undef) 1)])).getD t5.toNat AV.undef) 0), AV.int .i64 (IntKind.i64.wrap (t1 + 1))])⟩)]⟩
  else none)
  else none)
  else k (.exit 0) ⟨[(1, AV.int .i64 t1)], [([1], ⟨false, [.int .i64, .int .i64], h0⟩)]⟩) := by kernel_rfl
theorem st94_0 (ce : CallE) (k : Kont) (s : (Int × Int × (List AV))) (next : St → Option AV) : stepA (codeA c94 ce [0] 94 0 (sub [1, 0, 1, 0, 0] (body Try.f94))) (normA [0] [0, 1, 5]) next ((fun s : Int × Int × (List AV) => ⟨[(0, AV.own [1]), (1, AV.int .i64 s.1), (5, AV.int .i64 s.2.1)], [([1], ⟨false, [.int .i64, .int .i64], s.2.2⟩)]⟩) s) k = (R94_0 s).el none (fun s => next ((fun s : Int × Int × (List AV) => ⟨[(0, AV.own [1]), (1, AV.int .i64 s.1), (5, AV.int .i64 s.2.1)], [([1], ⟨false, [.int .i64, .int .i64], s.2.2⟩)]⟩) s)) (fun p : Int × (List AV) => k (.exit 0) ⟨[(1, AV.int .i64 p.1)], [([1], ⟨false, [.int .i64, .int .i64], p.2⟩)]⟩) := (s94_0 ce s.1 s.2.1 s.2.2 next k).trans (by unfold R94_0; unfold F94_0; simp only [el_cond, el_ro, el_sum, el_fail, el_next, el_stop] <;> rfl)
theorem ok94_0 {ce : CallE} : LoopOK c94 ce [0] 94 0 (sub [1, 0, 1, 0, 0] (body Try.f94)) := by
  intro m hm st k r h
  obtain rfl : l94_0 = m := Option.some.inj hm
  unfold l94_0 at h
  split at h
  · rename_i g0 t1 t5 g1 g2 h0
    obtain ⟨hg, h⟩ := bif_some h
    simp only [Bool.and_eq_true] at hg
    obtain ⟨⟨q0, q1⟩, q2⟩ := hg
    obtain rfl := (nmEq_iff _ _).1 q0
    obtain rfl := (nmEq_iff _ _).1 q1
    obtain rfl := ctsEq_eq _ _ q2
    refine ⟨(((h0.length : Int) - t5 : Int).toNat + 1), ?_⟩
    rw [← h]
    exact loop_run (fun s : Int × Int × (List AV) => ⟨[(0, AV.own [1]), (1, AV.int .i64 s.1), (5, AV.int .i64 s.2.1)], [([1], ⟨false, [.int .i64, .int .i64], s.2.2⟩)]⟩) (fun p : Int × (List AV) => k (.exit 0) ⟨[(1, AV.int .i64 p.1)], [([1], ⟨false, [.int .i64, .int .i64], p.2⟩)]⟩) (st94_0 ce k) _ (t1, t5, h0)
  · cases h
def q94 (a1 : Int) (b0 : List AV) : Bool := (ro (runW (R94_0) (((b0.length : Int) - 0 : Int).toNat + 1) (a1, 0, b0)) false (fun p47 => true))
def v94_0 (a1 : Int) (b0 : List AV) : Int := (ro (runW (R94_0) (((b0.length : Int) - 0 : Int).toNat + 1) (a1, 0, b0)) 0 (fun p47 => p47.1))
def v94_1 (a1 : Int) (b0 : List AV) : List AV := (ro (runW (R94_0) (((b0.length : Int) - 0 : Int).toNat + 1) (a1, 0, b0)) [] (fun p47 => p47.2))
theorem e94 (a1 : Int) (b0 : List AV) (K : AV → List Blk → Option AV) : inlA c94 1 94 [AV.own [1], AV.int .i64 a1] [0] (canH 1 [⟨false, [.int .i64, .int .i64], b0⟩]) (keepB 1 K) = (ro (runW (R94_0) (((b0.length : Int) - 0 : Int).toNat + 1) (a1, 0, b0)) none (fun p47 => K (AV.int .i64 p47.1) [⟨false, [.int .i64, .int .i64], p47.2⟩])) := by kernel_rfl
theorem r94 (a1 : Int) (b0 : List AV) (K : AV → List Blk → Option AV) (h : q94 a1 b0 = true) : inlA c94 1 94 [AV.own [1], AV.int .i64 a1] [0] (canH 1 [⟨false, [.int .i64, .int .i64], b0⟩]) (keepB 1 K) = K (AV.int .i64 (v94_0 a1 b0)) [⟨false, [.int .i64, .int .i64], (v94_1 a1 b0)⟩] := (e94 a1 b0 K).trans ((brO (fun o : Option ((Int × (List AV))) => K (AV.int .i64 (ro o 0 (fun p47 => p47.1))) [⟨false, [.int .i64, .int .i64], (ro o [] (fun p47 => p47.2))⟩]) (fun p47 => (fun _ => rfl))) h)
def m94 : WModel
  | [.own g0, .int .i64 a1], [⟨false, g1, b0⟩] => bif nmEq g0 ([1]) && ctsEq g1 ([.int .i64, .int .i64]) then some (q94 a1 b0, AV.int .i64 (v94_0 a1 b0), [⟨false, [.int .i64, .int .i64], (v94_1 a1 b0)⟩]) else none
  | _, _ => none
theorem k94 : Known Try.prog 94 := ⟨Try.f94, Try.func94, by kernel_rfl, by kernel_rfl⟩
theorem meets94 : MeetsM Try.prog 94 m94 := by
  refine meetM (f := Try.f94) (l := [(0, sub [1, 0, 1, 0, 0] (body Try.f94))]) (hs := [(94, 0, [0, 1, 5]), (94, 999, [4]), (94, 1000, [1]), (94, 1001, [0, 1, 5])]) (ts := []) (ws := []) (is := []) (ls := [(94, 0, l94_0)]) (lvl := 0) mixed k94 Try.func94 (by kernel_rfl) (loops_cons ok94_0 noLoop) allT_nil allM_nil noI fun C w xs us bs r bs' hl hv hh h K => ?_
  unfold m94 at h
  split at h
  · rename_i g0 a1 g1 b0
    obtain ⟨hg, h⟩ := bif_pair h
    simp only [Bool.and_eq_true] at hg
    obtain ⟨q0, q1⟩ := hg
    obtain rfl := (nmEq_iff _ _).1 q0
    obtain rfl := ctsEq_eq _ _ q1
    obtain ⟨h1, rfl, rfl⟩ := trip_inj h
    exact r94 a1 b0 K h1
  · cases h

/-! ### 43 loop.example/g01984/laws.markCracker -/
noncomputable def c43 : Cfg := cfg Try.prog [(43, 999, [4])] [] [(32, m32), (94, m94)] [] []
def q43 (a1 : Int) (b0 : List AV) (b1 : List AV) (b2 : List AV) : Bool := (q32 a1 b0 && (q32 (v32_0 a1 b0) b1 && q94 (v32_0 (v32_0 a1 b0) b1) b2))
def v43_0 (a1 : Int) (b0 : List AV) (b1 : List AV) (b2 : List AV) : Int := (v94_0 (v32_0 (v32_0 a1 b0) b1) b2)
def v43_1 (a1 : Int) (b0 : List AV) (b1 : List AV) (b2 : List AV) : List AV := (v32_1 a1 b0)
def v43_2 (a1 : Int) (b0 : List AV) (b1 : List AV) (b2 : List AV) : List AV := (v32_1 (v32_0 a1 b0) b1)
def v43_3 (a1 : Int) (b0 : List AV) (b1 : List AV) (b2 : List AV) : List AV := (v94_1 (v32_0 (v32_0 a1 b0) b1) b2)
theorem e43 (a1 : Int) (b0 : List AV) (b1 : List AV) (b2 : List AV) (K : AV → List Blk → Option AV) : inlA c43 1 43 [AV.agg [AV.own [1], AV.own [2], AV.own [3]], AV.int .i64 a1] [0] (canH 1 [⟨false, [.int .i64], b0⟩, ⟨false, [.int .i64], b1⟩, ⟨false, [.int .i64, .int .i64], b2⟩]) (keepB 3 K) = (bif q32 a1 b0 then (bif q32 (v32_0 a1 b0) b1 then (bif q94 (v32_0 (v32_0 a1 b0) b1) b2 then K (AV.int .i64 (v94_0 (v32_0 (v32_0 a1 b0) b1) b2)) [⟨false, [.int .i64], (v32_1 a1 b0)⟩, ⟨false, [.int .i64], (v32_1 (v32_0 a1 b0) b1)⟩, ⟨false, [.int .i64, .int .i64], (v94_1 (v32_0 (v32_0 a1 b0) b1) b2)⟩]
  else none)
  else none)
  else none) := by kernel_rfl
theorem r43 (a1 : Int) (b0 : List AV) (b1 : List AV) (b2 : List AV) (K : AV → List Blk → Option AV) (h : q43 a1 b0 b1 b2 = true) : inlA c43 1 43 [AV.agg [AV.own [1], AV.own [2], AV.own [3]], AV.int .i64 a1] [0] (canH 1 [⟨false, [.int .i64], b0⟩, ⟨false, [.int .i64], b1⟩, ⟨false, [.int .i64, .int .i64], b2⟩]) (keepB 3 K) = K (AV.int .i64 (v43_0 a1 b0 b1 b2)) [⟨false, [.int .i64], (v43_1 a1 b0 b1 b2)⟩, ⟨false, [.int .i64], (v43_2 a1 b0 b1 b2)⟩, ⟨false, [.int .i64, .int .i64], (v43_3 a1 b0 b1 b2)⟩] := (e43 a1 b0 b1 b2 K).trans ((brL (brL (brL1 (fun _ => rfl)))) h)
def m43 : WModel
  | [.agg [.own g0, .own g1, .own g2], .int .i64 a1], [⟨false, g3, b0⟩, ⟨false, g4, b1⟩, ⟨false, g5, b2⟩] => bif nmEq g0 ([1]) && nmEq g1 ([2]) && nmEq g2 ([3]) && ctsEq g3 ([.int .i64]) && ctsEq g4 ([.int .i64]) && ctsEq g5 ([.int .i64, .int .i64]) then some (q43 a1 b0 b1 b2, AV.int .i64 (v43_0 a1 b0 b1 b2), [⟨false, [.int .i64], (v43_1 a1 b0 b1 b2)⟩, ⟨false, [.int .i64], (v43_2 a1 b0 b1 b2)⟩, ⟨false, [.int .i64, .int .i64], (v43_3 a1 b0 b1 b2)⟩]) else none
  | _, _ => none
theorem k43 : Known Try.prog 43 := ⟨Try.f43, Try.func43, by kernel_rfl, by kernel_rfl⟩
theorem meets43 : MeetsM Try.prog 43 m43 := by
  refine meetM (f := Try.f43) (l := []) (hs := [(43, 999, [4])]) (ts := []) (ws := [(32, m32), (94, m94)]) (is := []) (ls := []) (lvl := 0) mixed k43 Try.func43 (by kernel_rfl) noLoop allT_nil (allM_cons meets32 (allM_cons meets94 allM_nil)) noI fun C w xs us bs r bs' hl hv hh h K => ?_
  unfold m43 at h
  split at h
  · rename_i g0 g1 g2 a1 g3 b0 g4 b1 g5 b2
    obtain ⟨hg, h⟩ := bif_pair h
    simp only [Bool.and_eq_true] at hg
    obtain ⟨⟨⟨⟨⟨q0, q1⟩, q2⟩, q3⟩, q4⟩, q5⟩ := hg
    obtain rfl := (nmEq_iff _ _).1 q0
    obtain rfl := (nmEq_iff _ _).1 q1
    obtain rfl := (nmEq_iff _ _).1 q2
    obtain rfl := ctsEq_eq _ _ q3
    obtain rfl := ctsEq_eq _ _ q4
    obtain rfl := ctsEq_eq _ _ q5
    obtain ⟨h1, rfl, rfl⟩ := trip_inj h
    exact r43 a1 b0 b1 b2 K h1
  · cases h

/-! ### 44 loop.example/g01984/laws.heldIntS -/
def F44_0 (t0 : List AV) (t1 : Int) (t5 : Int) : Out ((Int × Int)) (Int ⊕ Unit) := (bif decide (t5 < (t0.length : Int)) then (bif (decide (0 ≤ t5) && decide (t5 < (t0.length : Int))) then (bif !decide (fI (t0.getD t5.toNat AV.undef) 0 = t1) then .stop (.inr ())
  else .next (IntKind.i64.wrap (t1 + 1), IntKind.i64.wrap (t5 + 1)))
  else .fail)
  else .stop (.inl t1))
def R44_0 (t0 : List AV) : ((Int × Int)) → Out ((Int × Int)) (Int ⊕ Unit) := fun s : Int × Int => F44_0 t0 s.1 s.2
def l44_0 : LModel := fun _ _ st k => match st with
  | ⟨[(0, .sl g0 t0), (1, .int .i64 t1), (5, .int .i64 t5)], []⟩ => bif ctsEq g0 ([.int .i64]) then ro (runW (R44_0 t0) (((t0.length : Int) - t5 : Int).toNat + 1) (t1, t5)) none (sumE (fun p : Int => k (.exit 0) ⟨[(1, AV.int .i64 p)], []⟩) (fun _ : Unit => k .ret ⟨[(4, AV.int .i64 (-1))], []⟩)) else none
  | _ => none
noncomputable def c44 : Cfg := cfg Try.prog [(44, 0, [0, 1, 5]), (44, 999, [4]), (44, 1000, [1]), (44, 1001, [0, 1, 5])] [] [] [] [(44, 0, l44_0)]
theorem s44_0 (ce : CallE) (t0 : List AV) (t1 : Int) (t5 : Int) (next : St → Option AV) (k : Kont) : stepA (codeA c44 ce [] 44 0 (sub [1, 0, 1, 0, 0] (body Try.f44))) (normA [] [0, 1, 5]) next ⟨[(0, AV.sl [.int .i64] t0), (1, AV.int .i64 t1), (5, AV.int .i64 t5)], []⟩ k = (bif decide (t5 < (t0.length : Int)) then (bif (decide (0 ≤ t5) && decide (t5 < (t0.length : Int))) then (bif !decide (fI (t0.getD t5.toNat AV.undef) 0 = t1) then k .ret ⟨[(4, AV.int .i64 (-1))], []⟩
  else next ⟨[(0, AV.sl [.int .i64] t0), (1, AV.int .i64 (IntKind.i64.wrap (t1 + 1))), (5, AV.int .i64 (IntKind.i64.wrap (t5 + 1)))], []⟩)
  else none)
  else k (.exit 0) ⟨[(1, AV.int .i64 t1)], []⟩) := by kernel_rfl
theorem st44_0 (t0 : List AV) (ce : CallE) (k : Kont) (s : (Int × Int)) (next : St → Option AV) : stepA (codeA c44 ce [] 44 0 (sub [1, 0, 1, 0, 0] (body Try.f44))) (normA [] [0, 1, 5]) next ((fun s : Int × Int => ⟨[(0, AV.sl [.int .i64] t0), (1, AV.int .i64 s.1), (5, AV.int .i64 s.2)], []⟩) s) k = (R44_0 t0 s).el none (fun s => next ((fun s : Int × Int => ⟨[(0, AV.sl [.int .i64] t0), (1, AV.int .i64 s.1), (5, AV.int .i64 s.2)], []⟩) s)) (sumE (fun p : Int => k (.exit 0) ⟨[(1, AV.int .i64 p)], []⟩) (fun _ : Unit => k .ret ⟨[(4, AV.int .i64 (-1))], []⟩)) := (s44_0 ce t0 s.1 s.2 next k).trans (by unfold R44_0; unfold F44_0; simp only [el_cond, el_ro, el_sum, el_fail, el_next, el_stop] <;> rfl)
theorem ok44_0 {ce : CallE} : LoopOK c44 ce [] 44 0 (sub [1, 0, 1, 0, 0] (body Try.f44)) := by
  intro m hm st k r h
  obtain rfl : l44_0 = m := Option.some.inj hm
  unfold l44_0 at h
  split at h
  · rename_i g0 t0 t1 t5
    obtain ⟨hg, h⟩ := bif_some h
    have q0 := hg
    obtain rfl := ctsEq_eq _ _ q0
    refine ⟨(((t0.length : Int) - t5 : Int).toNat + 1), ?_⟩
    rw [← h]
    exact loop_run (fun s : Int × Int => ⟨[(0, AV.sl [.int .i64] t0), (1, AV.int .i64 s.1), (5, AV.int .i64 s.2)], []⟩) (sumE (fun p : Int => k (.exit 0) ⟨[(1, AV.int .i64 p)], []⟩) (fun _ : Unit => k .ret ⟨[(4, AV.int .i64 (-1))], []⟩)) (st44_0 t0 ce k) _ (t1, t5)
  · cases h
def q44 (a0 : List AV) (a1 : Int) : Bool := (ro (runW (R44_0 a0) (((a0.length : Int) - 0 : Int).toNat + 1) (a1, 0)) false (sumE (fun p48 => true) (fun _ => true)))
def v44_0 (a0 : List AV) (a1 : Int) : Int := (ro (runW (R44_0 a0) (((a0.length : Int) - 0 : Int).toNat + 1) (a1, 0)) 0 (sumE (fun p48 => p48) (fun _ => (-1))))
theorem e44 (a0 : List AV) (a1 : Int) : funA c44 0 44 [AV.sl [.int .i64] a0, AV.int .i64 a1] = (ro (runW (R44_0 a0) (((a0.length : Int) - 0 : Int).toNat + 1) (a1, 0)) none (sumE (fun p48 => some (AV.int .i64 p48)) (fun _ => some (AV.int .i64 (-1))))) := by kernel_rfl
theorem r44 (a0 : List AV) (a1 : Int) (h : q44 a0 a1 = true) : funA c44 0 44 [AV.sl [.int .i64] a0, AV.int .i64 a1] = some (AV.int .i64 (v44_0 a0 a1)) := (e44 a0 a1).trans ((brO (fun o : Option (Int ⊕ Unit) => some (AV.int .i64 (ro o 0 (sumE (fun p48 => p48) (fun _ => (-1)))))) (brS (fun o : Int ⊕ Unit => some (AV.int .i64 ((sumE (fun p48 => p48) (fun _ => (-1))) o))) (fun p48 => (fun _ => rfl)) (fun _ => (fun _ => rfl)))) h)
def m44 : TModel
  | [.sl g0 a0, .int .i64 a1] => bif ctsEq g0 ([.int .i64]) then some (q44 a0 a1, AV.int .i64 (v44_0 a0 a1)) else none
  | _ => none
theorem k44 : Known Try.prog 44 := ⟨Try.f44, Try.func44, by kernel_rfl, by kernel_rfl⟩
theorem meets44 : Meets Try.prog 44 m44 := by
  refine meet (f := Try.f44) (l := [(0, sub [1, 0, 1, 0, 0] (body Try.f44))]) (hs := [(44, 0, [0, 1, 5]), (44, 999, [4]), (44, 1000, [1]), (44, 1001, [0, 1, 5])]) (ts := []) (ws := []) (is := []) (ls := [(44, 0, l44_0)]) (lvl := 0) mixed k44 Try.func44 (by kernel_rfl) (loops_cons ok44_0 noLoop) allT_nil allM_nil noI fun w xs us r hl hv h => ?_
  unfold m44 at h
  split at h
  · rename_i g0 a0 a1
    obtain ⟨hg, h⟩ := bif_pair h
    have q0 := hg
    obtain rfl := ctsEq_eq _ _ q0
    obtain ⟨h1, rfl⟩ := pair_inj h
    exact r44 a0 a1 h1
  · cases h

/-! ### 9 loop.example/g01984/laws.FnExactSemiJoin -/
noncomputable def c9 : Cfg := cfg Try.prog [(9, 999, [4])] [(30, m30), (36, m36), (38, m38), (40, m40), (41, m41), (42, m42), (44, m44)] [(32, m32), (43, m43)] [] []
def raw9 (a0_0 : List AV) (a0_1 : List AV) (a0_2 : List AV) (a1_0 : List AV) (a1_1 : List AV) (a1_2 : List AV) : Option AV := (bif decide ((v36_0 a0_0 a0_1 a0_2 1048576) < 0) then some (AV.bool true)
  else (bif decide ((v36_0 a1_0 a1_1 a1_2 (v36_0 a0_0 a0_1 a0_2 1048576)) < 0) then some (AV.bool true)
  else (bif q38 a0_0 a0_1 a0_2 then (bif q38 a1_0 a1_1 a1_2 then (bif q41 (v38_0 a0_0 a0_1 a0_2) (v38_1 a0_0 a0_1 a0_2) (v38_2 a0_0 a0_1 a0_2) (v38_0 a1_0 a1_1 a1_2) (v38_1 a1_0 a1_1 a1_2) (v38_2 a1_0 a1_1 a1_2) then (bif q38 a0_0 a0_1 a0_2 then (bif q38 a1_0 a1_1 a1_2 then (bif q42 (v38_0 a0_0 a0_1 a0_2) (v38_1 a0_0 a0_1 a0_2) (v38_2 a0_0 a0_1 a0_2) (v38_0 a1_0 a1_1 a1_2) (v38_1 a1_0 a1_1 a1_2) (v38_2 a1_0 a1_1 a1_2) then (bif q30 (v42_0 (v38_0 a0_0 a0_1 a0_2) (v38_1 a0_0 a0_1 a0_2) (v38_2 a0_0 a0_1 a0_2) (v38_0 a1_0 a1_1 a1_2) (v38_1 a1_0 a1_1 a1_2) (v38_2 a1_0 a1_1 a1_2)) (v41_0 (v38_0 a0_0 a0_1 a0_2) (v38_1 a0_0 a0_1 a0_2) (v38_2 a0_0 a0_1 a0_2) (v38_0 a1_0 a1_1 a1_2) (v38_1 a1_0 a1_1 a1_2) (v38_2 a1_0 a1_1 a1_2)) then (bif !(v30_0 (v42_0 (v38_0 a0_0 a0_1 a0_2) (v38_1 a0_0 a0_1 a0_2) (v38_2 a0_0 a0_1 a0_2) (v38_0 a1_0 a1_1 a1_2) (v38_1 a1_0 a1_1 a1_2) (v38_2 a1_0 a1_1 a1_2)) (v41_0 (v38_0 a0_0 a0_1 a0_2) (v38_1 a0_0 a0_1 a0_2) (v38_2 a0_0 a0_1 a0_2) (v38_0 a1_0 a1_1 a1_2) (v38_1 a1_0 a1_1 a1_2) (v38_2 a1_0 a1_1 a1_2))) then some (AV.bool false)
  else (bif q38 a0_0 a0_1 a0_2 then (bif q40 (v38_0 a0_0 a0_1 a0_2) (v38_1 a0_0 a0_1 a0_2) (v38_2 a0_0 a0_1 a0_2) (v38_0 a0_0 a0_1 a0_2) (v38_1 a0_0 a0_1 a0_2) (v38_2 a0_0 a0_1 a0_2) then (bif !(v40_0 (v38_0 a0_0 a0_1 a0_2) (v38_1 a0_0 a0_1 a0_2) (v38_2 a0_0 a0_1 a0_2) (v38_0 a0_0 a0_1 a0_2) (v38_1 a0_0 a0_1 a0_2) (v38_2 a0_0 a0_1 a0_2)) then some (AV.bool false)
  else (bif q38 a1_0 a1_1 a1_2 then (bif q40 (v38_0 a1_0 a1_1 a1_2) (v38_1 a1_0 a1_1 a1_2) (v38_2 a1_0 a1_1 a1_2) (v38_0 a1_0 a1_1 a1_2) (v38_1 a1_0 a1_1 a1_2) (v38_2 a1_0 a1_1 a1_2) then (bif !(v40_0 (v38_0 a1_0 a1_1 a1_2) (v38_1 a1_0 a1_1 a1_2) (v38_2 a1_0 a1_1 a1_2) (v38_0 a1_0 a1_1 a1_2) (v38_1 a1_0 a1_1 a1_2) (v38_2 a1_0 a1_1 a1_2)) then some (AV.bool false)
  else (bif q43 1 (v38_0 a0_0 a0_1 a0_2) (v38_1 a0_0 a0_1 a0_2) (v38_2 a0_0 a0_1 a0_2) then (bif q43 (v43_0 1 (v38_0 a0_0 a0_1 a0_2) (v38_1 a0_0 a0_1 a0_2) (v38_2 a0_0 a0_1 a0_2)) (v38_0 a1_0 a1_1 a1_2) (v38_1 a1_0 a1_1 a1_2) (v38_2 a1_0 a1_1 a1_2) then (bif decide ((v43_0 (v43_0 1 (v38_0 a0_0 a0_1 a0_2) (v38_1 a0_0 a0_1 a0_2) (v38_2 a0_0 a0_1 a0_2)) (v38_0 a1_0 a1_1 a1_2) (v38_1 a1_0 a1_1 a1_2) (v38_2 a1_0 a1_1 a1_2)) < 0) then some (AV.bool false)
  else (bif q30 (v42_0 (v38_0 a0_0 a0_1 a0_2) (v38_1 a0_0 a0_1 a0_2) (v38_2 a0_0 a0_1 a0_2) (v38_0 a1_0 a1_1 a1_2) (v38_1 a1_0 a1_1 a1_2) (v38_2 a1_0 a1_1 a1_2)) (v41_0 (v38_0 a0_0 a0_1 a0_2) (v38_1 a0_0 a0_1 a0_2) (v38_2 a0_0 a0_1 a0_2) (v38_0 a1_0 a1_1 a1_2) (v38_1 a1_0 a1_1 a1_2) (v38_2 a1_0 a1_1 a1_2)) then (bif !(v30_0 (v42_0 (v38_0 a0_0 a0_1 a0_2) (v38_1 a0_0 a0_1 a0_2) (v38_2 a0_0 a0_1 a0_2) (v38_0 a1_0 a1_1 a1_2) (v38_1 a1_0 a1_1 a1_2) (v38_2 a1_0 a1_1 a1_2)) (v41_0 (v38_0 a0_0 a0_1 a0_2) (v38_1 a0_0 a0_1 a0_2) (v38_2 a0_0 a0_1 a0_2) (v38_0 a1_0 a1_1 a1_2) (v38_1 a1_0 a1_1 a1_2) (v38_2 a1_0 a1_1 a1_2))) then some (AV.bool false)
  else (bif q32 1 (v42_0 (v38_0 a0_0 a0_1 a0_2) (v38_1 a0_0 a0_1 a0_2) (v38_2 a0_0 a0_1 a0_2) (v38_0 a1_0 a1_1 a1_2) (v38_1 a1_0 a1_1 a1_2) (v38_2 a1_0 a1_1 a1_2)) then (bif q44 (v32_1 1 (v42_0 (v38_0 a0_0 a0_1 a0_2) (v38_1 a0_0 a0_1 a0_2) (v38_2 a0_0 a0_1 a0_2) (v38_0 a1_0 a1_1 a1_2) (v38_1 a1_0 a1_1 a1_2) (v38_2 a1_0 a1_1 a1_2))) 1 then (bif decide ((v44_0 (v32_1 1 (v42_0 (v38_0 a0_0 a0_1 a0_2) (v38_1 a0_0 a0_1 a0_2) (v38_2 a0_0 a0_1 a0_2) (v38_0 a1_0 a1_1 a1_2) (v38_1 a1_0 a1_1 a1_2) (v38_2 a1_0 a1_1 a1_2))) 1) < 0) then some (AV.bool false)
  else (bif !decide ((v44_0 (v32_1 1 (v42_0 (v38_0 a0_0 a0_1 a0_2) (v38_1 a0_0 a0_1 a0_2) (v38_2 a0_0 a0_1 a0_2) (v38_0 a1_0 a1_1 a1_2) (v38_1 a1_0 a1_1 a1_2) (v38_2 a1_0 a1_1 a1_2))) 1) = (v32_0 1 (v42_0 (v38_0 a0_0 a0_1 a0_2) (v38_1 a0_0 a0_1 a0_2) (v38_2 a0_0 a0_1 a0_2) (v38_0 a1_0 a1_1 a1_2) (v38_1 a1_0 a1_1 a1_2) (v38_2 a1_0 a1_1 a1_2)))) then some (AV.bool false)
  else (bif q38 a0_0 a0_1 a0_2 then (bif q38 a1_0 a1_1 a1_2 then (bif q42 (v38_0 a0_0 a0_1 a0_2) (v38_1 a0_0 a0_1 a0_2) (v38_2 a0_0 a0_1 a0_2) (v38_0 a1_0 a1_1 a1_2) (v38_1 a1_0 a1_1 a1_2) (v38_2 a1_0 a1_1 a1_2) then (bif q30 (v42_0 (v38_0 a0_0 a0_1 a0_2) (v38_1 a0_0 a0_1 a0_2) (v38_2 a0_0 a0_1 a0_2) (v38_0 a1_0 a1_1 a1_2) (v38_1 a1_0 a1_1 a1_2) (v38_2 a1_0 a1_1 a1_2)) (v41_0 (v38_0 a0_0 a0_1 a0_2) (v38_1 a0_0 a0_1 a0_2) (v38_2 a0_0 a0_1 a0_2) (v38_0 a1_0 a1_1 a1_2) (v38_1 a1_0 a1_1 a1_2) (v38_2 a1_0 a1_1 a1_2)) then (bif !(v30_0 (v42_0 (v38_0 a0_0 a0_1 a0_2) (v38_1 a0_0 a0_1 a0_2) (v38_2 a0_0 a0_1 a0_2) (v38_0 a1_0 a1_1 a1_2) (v38_1 a1_0 a1_1 a1_2) (v38_2 a1_0 a1_1 a1_2)) (v41_0 (v38_0 a0_0 a0_1 a0_2) (v38_1 a0_0 a0_1 a0_2) (v38_2 a0_0 a0_1 a0_2) (v38_0 a1_0 a1_1 a1_2) (v38_1 a1_0 a1_1 a1_2) (v38_2 a1_0 a1_1 a1_2))) then some (AV.bool false)
  else (bif q44 (v32_1 1 (v42_0 (v38_0 a0_0 a0_1 a0_2) (v38_1 a0_0 a0_1 a0_2) (v38_2 a0_0 a0_1 a0_2) (v38_0 a1_0 a1_1 a1_2) (v38_1 a1_0 a1_1 a1_2) (v38_2 a1_0 a1_1 a1_2))) 1 then (bif decide ((v44_0 (v32_1 1 (v42_0 (v38_0 a0_0 a0_1 a0_2) (v38_1 a0_0 a0_1 a0_2) (v38_2 a0_0 a0_1 a0_2) (v38_0 a1_0 a1_1 a1_2) (v38_1 a1_0 a1_1 a1_2) (v38_2 a1_0 a1_1 a1_2))) 1) < 0) then some (AV.bool false)
  else (bif !decide ((v44_0 (v32_1 1 (v42_0 (v38_0 a0_0 a0_1 a0_2) (v38_1 a0_0 a0_1 a0_2) (v38_2 a0_0 a0_1 a0_2) (v38_0 a1_0 a1_1 a1_2) (v38_1 a1_0 a1_1 a1_2) (v38_2 a1_0 a1_1 a1_2))) 1) = (v32_0 1 (v42_0 (v38_0 a0_0 a0_1 a0_2) (v38_1 a0_0 a0_1 a0_2) (v38_2 a0_0 a0_1 a0_2) (v38_0 a1_0 a1_1 a1_2) (v38_1 a1_0 a1_1 a1_2) (v38_2 a1_0 a1_1 a1_2)))) then some (AV.bool false)
  else some (AV.bool true)))
  else none))
  else none)
  else none)
  else none)
  else none)))
  else none)
  else none))
  else none))
  else none)
  else none))
  else none)
  else none))
  else none)
  else none))
  else none)
  else none)
  else none)
  else none)
  else none)
  else none)
  else none)))
theorem e9 (a0_0 : List AV) (a0_1 : List AV) (a0_2 : List AV) (a1_0 : List AV) (a1_1 : List AV) (a1_2 : List AV) : funA c9 0 9 [AV.agg [AV.sl [.int .i64] a0_0, AV.sl [.int .i64] a0_1, AV.sl [.int .i64, .int .i64] a0_2], AV.agg [AV.sl [.int .i64] a1_0, AV.sl [.int .i64] a1_1, AV.sl [.int .i64, .int .i64] a1_2]] = raw9 a0_0 a0_1 a0_2 a1_0 a1_1 a1_2 := by kernel_rfl
def m9 : TModel
  | [.agg [.sl g0 a0_0, .sl g1 a0_1, .sl g2 a0_2], .agg [.sl g3 a1_0, .sl g4 a1_1, .sl g5 a1_2]] => bif ctsEq g0 ([.int .i64]) && ctsEq g1 ([.int .i64]) && ctsEq g2 ([.int .i64, .int .i64]) && ctsEq g3 ([.int .i64]) && ctsEq g4 ([.int .i64]) && ctsEq g5 ([.int .i64, .int .i64]) then (raw9 a0_0 a0_1 a0_2 a1_0 a1_1 a1_2).map fun r => (true, r) else none
  | _ => none
theorem k9 : Known Try.prog 9 := ⟨Try.f9, Try.func9, by kernel_rfl, by kernel_rfl⟩
theorem meets9 : Meets Try.prog 9 m9 := by
  refine meet (f := Try.f9) (l := []) (hs := [(9, 999, [4])]) (ts := [(30, m30), (36, m36), (38, m38), (40, m40), (41, m41), (42, m42), (44, m44)]) (ws := [(32, m32), (43, m43)]) (is := []) (ls := []) (lvl := 0) mixed k9 Try.func9 (by kernel_rfl) noLoop (allT_cons meets30 (allT_cons meets36 (allT_cons meets38 (allT_cons meets40 (allT_cons meets41 (allT_cons meets42 (allT_cons meets44 allT_nil))))))) (allM_cons meets32 (allM_cons meets43 allM_nil)) noI fun w xs us r hl hv h => ?_
  unfold m9 at h
  split at h
  · rename_i g0 a0_0 g1 a0_1 g2 a0_2 g3 a1_0 g4 a1_1 g5 a1_2
    obtain ⟨hg, h⟩ := bif_pair h
    simp only [Bool.and_eq_true] at hg
    obtain ⟨⟨⟨⟨⟨q0, q1⟩, q2⟩, q3⟩, q4⟩, q5⟩ := hg
    obtain rfl := ctsEq_eq _ _ q0
    obtain rfl := ctsEq_eq _ _ q1
    obtain rfl := ctsEq_eq _ _ q2
    obtain rfl := ctsEq_eq _ _ q3
    obtain rfl := ctsEq_eq _ _ q4
    obtain rfl := ctsEq_eq _ _ q5
    obtain ⟨r', h1, h2⟩ := Option.map_eq_some_iff.1 h
    obtain ⟨_, rfl⟩ := Prod.mk.inj h2
    exact (e9 a0_0 a0_1 a0_2 a1_0 a1_1 a1_2).trans h1
  · cases h
end Go.Proofs.Ytdhhceamknidmaa
