/- The walk of what this claim reaches: printed by a program, each equation checked by the kernel. -/
import Derived.Test.YtmlhhemflhiinaaRW4
import Derived.Test.YtmlhhemflhiinaaProg
import Derived.KernelRfl
namespace Go.Proofs.Ytmlhhemflhiinaa
open Go Go.Proofs.VE
set_option linter.unusedVariables false
set_option linter.unusedSimpArgs false
set_option maxRecDepth 100000
set_option maxHeartbeats 4000000
/-! ### 23 loop.example/g01984/laws.eqPivotS -/
def F23_0 (t0 : List AV) (t1 : List AV) (t5 : Int) : Out (Int) (Unit ⊕ Unit) := (bif decide (t5 < (t0.length : Int)) then (bif (decide (0 ≤ t5) && decide (t5 < (t0.length : Int))) then (bif (decide (0 ≤ t5) && decide (t5 < (t1.length : Int))) then (bif !(v45_0 (fI (t0.getD t5.toNat .undef) 0) (fI (t0.getD t5.toNat .undef) 1) (fI (t1.getD t5.toNat .undef) 0) (fI (t1.getD t5.toNat .undef) 1)) then .stop (.inr ())
  else .next (IntKind.i64.wrap (t5 + 1)))
  else .fail)
  else .fail)
  else .stop (.inl ()))
def R23_0 (t0 : List AV) (t1 : List AV) : (Int) → Out (Int) (Unit ⊕ Unit) := fun s : Int => F23_0 t0 t1 s
def l23_0 : LModel := fun _ _ st k => match st with
  | ⟨[(0, .sl g0 t0), (1, .sl g1 t1), (5, .int .i64 t5)], []⟩ => bif ctsEq g0 ([.int .i64, .int .i64]) && ctsEq g1 ([.int .i64, .int .i64]) then ro (runW (R23_0 t0 t1) (((t0.length : Int) - t5).toNat + 1) t5) none (sumE (fun _ : Unit => k (.exit 0) ⟨[], []⟩) (fun _ : Unit => k .ret ⟨[(4, AV.bool false)], []⟩)) else none
  | _ => none
noncomputable def c23 : Cfg := cfg Try.prog [(23, 0, [0, 1, 5]), (23, 999, [4]), (23, 1000, []), (23, 1001, [0, 1, 5])] [(45, m45)] [] [] [(23, 0, l23_0)]
theorem s23_0 (ce : CallE) (t0 : List AV) (t1 : List AV) (t5 : Int) (next : St → Option AV) (k : Kont) : stepA (codeA c23 ce [] 23 0 (sub [1, 1, 0, 1, 0, 0] (body Try.f23))) (normA [] [0, 1, 5]) next ⟨[(0, AV.sl [.int .i64, .int .i64] t0), (1, AV.sl [.int .i64, .int .i64] t1), (5, AV.int .i64 t5)], []⟩ k = (bif decide (t5 < (t0.length : Int)) then (bif (decide (0 ≤ t5) && decide (t5 < (t0.length : Int))) then (bif (decide (0 ≤ t5) && decide (t5 < (t1.length : Int))) then (bif !(v45_0 (fI (t0.getD t5.toNat .undef) 0) (fI (t0.getD t5.toNat .undef) 1) (fI (t1.getD t5.toNat .undef) 0) (fI (t1.getD t5.toNat .undef) 1)) then k .ret ⟨[(4, AV.bool false)], []⟩
  else next ⟨[(0, AV.sl [.int .i64, .int .i64] t0), (1, AV.sl [.int .i64, .int .i64] t1), (5, AV.int .i64 (IntKind.i64.wrap (t5 + 1)))], []⟩)
  else none)
  else none)
  else k (.exit 0) ⟨[], []⟩) := by kernel_rfl
theorem st23_0 (t0 : List AV) (t1 : List AV) (ce : CallE) (k : Kont) (s : Int) (next : St → Option AV) : stepA (codeA c23 ce [] 23 0 (sub [1, 1, 0, 1, 0, 0] (body Try.f23))) (normA [] [0, 1, 5]) next ((fun s : Int => ⟨[(0, AV.sl [.int .i64, .int .i64] t0), (1, AV.sl [.int .i64, .int .i64] t1), (5, AV.int .i64 s)], []⟩) s) k = (R23_0 t0 t1 s).el none (fun s => next ((fun s : Int => ⟨[(0, AV.sl [.int .i64, .int .i64] t0), (1, AV.sl [.int .i64, .int .i64] t1), (5, AV.int .i64 s)], []⟩) s)) (sumE (fun _ : Unit => k (.exit 0) ⟨[], []⟩) (fun _ : Unit => k .ret ⟨[(4, AV.bool false)], []⟩)) := (s23_0 ce t0 t1 s next k).trans (by unfold R23_0; unfold F23_0; simp only [el_cond, el_ro, el_sum, el_fail, el_next, el_stop] <;> rfl)
theorem ok23_0 {ce : CallE} : LoopOK c23 ce [] 23 0 (sub [1, 1, 0, 1, 0, 0] (body Try.f23)) := by
  intro m hm st k r h
  obtain rfl : l23_0 = m := Option.some.inj hm
  unfold l23_0 at h
  split at h
  · rename_i g0 t0 g1 t1 t5
    obtain ⟨hg, h⟩ := bif_some h
    simp only [Bool.and_eq_true] at hg
    obtain ⟨q0, q1⟩ := hg
    obtain rfl := ctsEq_eq _ _ q0
    obtain rfl := ctsEq_eq _ _ q1
    refine ⟨(((t0.length : Int) - t5).toNat + 1), ?_⟩
    rw [← h]
    exact loop_run (fun s : Int => ⟨[(0, AV.sl [.int .i64, .int .i64] t0), (1, AV.sl [.int .i64, .int .i64] t1), (5, AV.int .i64 s)], []⟩) (sumE (fun _ : Unit => k (.exit 0) ⟨[], []⟩) (fun _ : Unit => k .ret ⟨[(4, AV.bool false)], []⟩)) (st23_0 t0 t1 ce k) _ t5
  · cases h
def q23 (a0 : List AV) (a1 : List AV) : Bool := (bif !decide ((a0.length : Int) = (a1.length : Int)) then true else (ro (runW (R23_0 a0 a1) (((a0.length : Int) - 0).toNat + 1) 0) false (sumE (fun _ => true) (fun _ => true))))
def v23_0 (a0 : List AV) (a1 : List AV) : Bool := (bif !decide ((a0.length : Int) = (a1.length : Int)) then false else (ro (runW (R23_0 a0 a1) (((a0.length : Int) - 0).toNat + 1) 0) false (sumE (fun _ => true) (fun _ => false))))
theorem e23 (a0 : List AV) (a1 : List AV) : funA c23 0 23 [AV.sl [.int .i64, .int .i64] a0, AV.sl [.int .i64, .int .i64] a1] = (bif !decide ((a0.length : Int) = (a1.length : Int)) then some (AV.bool false)
  else (ro (runW (R23_0 a0 a1) (((a0.length : Int) - 0).toNat + 1) 0) none (sumE (fun _ => some (AV.bool true)) (fun _ => some (AV.bool false))))) := by kernel_rfl
theorem r23 (a0 : List AV) (a1 : List AV) (h : q23 a0 a1 = true) : funA c23 0 23 [AV.sl [.int .i64, .int .i64] a0, AV.sl [.int .i64, .int .i64] a1] = some (AV.bool (v23_0 a0 a1)) := (e23 a0 a1).trans ((br (fun b => some (AV.bool (bif b then false else (ro (runW (R23_0 a0 a1) (((a0.length : Int) - 0).toNat + 1) 0) false (sumE (fun _ => true) (fun _ => false)))))) (fun _ => rfl) (brO (fun o : Option (Unit ⊕ Unit) => some (AV.bool (ro o false (sumE (fun _ => true) (fun _ => false))))) (brS (fun o : Unit ⊕ Unit => some (AV.bool ((sumE (fun _ => true) (fun _ => false)) o))) (fun _ => (fun _ => rfl)) (fun _ => (fun _ => rfl))))) h)
def m23 : TModel
  | [.sl g0 a0, .sl g1 a1] => bif ctsEq g0 ([.int .i64, .int .i64]) && ctsEq g1 ([.int .i64, .int .i64]) then some (q23 a0 a1, AV.bool (v23_0 a0 a1)) else none
  | _ => none
theorem k23 : Known Try.prog 23 := ⟨Try.f23, Try.func23, by kernel_rfl, by kernel_rfl⟩
theorem meets23 : Meets Try.prog 23 m23 := by
  refine meet (f := Try.f23) (l := [(0, sub [1, 1, 0, 1, 0, 0] (body Try.f23))]) (hs := [(23, 0, [0, 1, 5]), (23, 999, [4]), (23, 1000, []), (23, 1001, [0, 1, 5])]) (ts := [(45, m45)]) (ws := []) (is := []) (ls := [(23, 0, l23_0)]) (lvl := 0) mixed k23 Try.func23 (by kernel_rfl) (loops_cons ok23_0 noLoop) (allT_cons meets45 allT_nil) allM_nil noI fun w xs us r hl hv h => ?_
  unfold m23 at h
  split at h
  · rename_i g0 a0 g1 a1
    obtain ⟨hg, h⟩ := bif_pair h
    simp only [Bool.and_eq_true] at hg
    obtain ⟨q0, q1⟩ := hg
    obtain rfl := ctsEq_eq _ _ q0
    obtain rfl := ctsEq_eq _ _ q1
    obtain ⟨h1, rfl⟩ := pair_inj h
    exact r23 a0 a1 h1
  · cases h

/-! ### 9 loop.example/g01984/laws.eqCracker -/
noncomputable def c9 : Cfg := cfg Try.prog [(9, 999, [4])] [(10, m10), (23, m23)] [] [] []
def q9 (xa : List AV) (xb : List AV) (xc : List AV) (ya : List AV) (yb : List AV) (yc : List AV) : Bool := (q10 xa ya && (bif !(v10_0 xa ya) then true else (q10 xb yb && (bif !(v10_0 xb yb) then true else q23 xc yc))))
def v9_0 (xa : List AV) (xb : List AV) (xc : List AV) (ya : List AV) (yb : List AV) (yc : List AV) : Bool := (bif !(v10_0 xa ya) then false else (bif !(v10_0 xb yb) then false else (bif !(v23_0 xc yc) then false else true)))
theorem e9 (xa : List AV) (xb : List AV) (xc : List AV) (ya : List AV) (yb : List AV) (yc : List AV) : funA c9 0 9 [AV.agg [AV.sl [.int .i64] xa, AV.sl [.int .i64] xb, AV.sl [.int .i64, .int .i64] xc], AV.agg [AV.sl [.int .i64] ya, AV.sl [.int .i64] yb, AV.sl [.int .i64, .int .i64] yc]] = (bif q10 xa ya then (bif !(v10_0 xa ya) then some (AV.bool false)
  else (bif q10 xb yb then (bif !(v10_0 xb yb) then some (AV.bool false)
  else (bif q23 xc yc then (bif !(v23_0 xc yc) then some (AV.bool false)
  else some (AV.bool true))
  else none))
  else none))
  else none) := by kernel_rfl
theorem r9 (xa : List AV) (xb : List AV) (xc : List AV) (ya : List AV) (yb : List AV) (yc : List AV) (h : q9 xa xb xc ya yb yc = true) : funA c9 0 9 [AV.agg [AV.sl [.int .i64] xa, AV.sl [.int .i64] xb, AV.sl [.int .i64, .int .i64] xc], AV.agg [AV.sl [.int .i64] ya, AV.sl [.int .i64] yb, AV.sl [.int .i64, .int .i64] yc]] = some (AV.bool (v9_0 xa xb xc ya yb yc)) := (e9 xa xb xc ya yb yc).trans ((brL (br (fun b => some (AV.bool (bif b then false else (bif !(v10_0 xb yb) then false else (bif !(v23_0 xc yc) then false else true))))) (fun _ => rfl) (brL (br (fun b => some (AV.bool (bif b then false else (bif !(v23_0 xc yc) then false else true)))) (fun _ => rfl) (brL1 (brT (fun b => some (AV.bool (bif b then false else true))) (fun _ => rfl) (fun _ => rfl))))))) h)
def m9 : TModel
  | [.agg [.sl g0 xa, .sl g1 xb, .sl g2 xc], .agg [.sl g3 ya, .sl g4 yb, .sl g5 yc]] => bif ctsEq g0 ([.int .i64]) && ctsEq g1 ([.int .i64]) && ctsEq g2 ([.int .i64, .int .i64]) && ctsEq g3 ([.int .i64]) && ctsEq g4 ([.int .i64]) && ctsEq g5 ([.int .i64, .int .i64]) then some (q9 xa xb xc ya yb yc, AV.bool (v9_0 xa xb xc ya yb yc)) else none
  | _ => none
theorem k9 : Known Try.prog 9 := ⟨Try.f9, Try.func9, by kernel_rfl, by kernel_rfl⟩
theorem meets9 : Meets Try.prog 9 m9 := by
  refine meet (f := Try.f9) (l := []) (hs := [(9, 999, [4])]) (ts := [(10, m10), (23, m23)]) (ws := []) (is := []) (ls := []) (lvl := 0) mixed k9 Try.func9 (by kernel_rfl) noLoop (allT_cons meets10 (allT_cons meets23 allT_nil)) allM_nil noI fun w xs us r hl hv h => ?_
  unfold m9 at h
  split at h
  · rename_i g0 xa g1 xb g2 xc g3 ya g4 yb g5 yc
    obtain ⟨hg, h⟩ := bif_pair h
    simp only [Bool.and_eq_true] at hg
    obtain ⟨⟨⟨⟨⟨q0, q1⟩, q2⟩, q3⟩, q4⟩, q5⟩ := hg
    obtain rfl := ctsEq_eq _ _ q0
    obtain rfl := ctsEq_eq _ _ q1
    obtain rfl := ctsEq_eq _ _ q2
    obtain rfl := ctsEq_eq _ _ q3
    obtain rfl := ctsEq_eq _ _ q4
    obtain rfl := ctsEq_eq _ _ q5
    obtain ⟨h1, rfl⟩ := pair_inj h
    exact r9 xa xb xc ya yb yc h1
  · cases h

/-! ### 24 loop.example/g01984/laws.eqEntry -/
noncomputable def c24 : Cfg := cfg Try.prog [(24, 999, [4])] [] [] [] []
def q24 (xa : Int) (xb : Int) (xc : Int) (xd : Int) (ya : Int) (yb : Int) (yc : Int) (yd : Int) : Bool := true
def v24_0 (xa : Int) (xb : Int) (xc : Int) (xd : Int) (ya : Int) (yb : Int) (yc : Int) (yd : Int) : Bool := (bif !decide (xa = ya) then false else (bif !decide (xb = yb) then false else (bif !decide (xc = yc) then false else (bif !decide (xd = yd) then false else true))))
theorem e24 (xa : Int) (xb : Int) (xc : Int) (xd : Int) (ya : Int) (yb : Int) (yc : Int) (yd : Int) : funA c24 0 24 [AV.agg [AV.int .i64 xa, AV.int .i64 xb, AV.int .i64 xc, AV.int .i64 xd], AV.agg [AV.int .i64 ya, AV.int .i64 yb, AV.int .i64 yc, AV.int .i64 yd]] = (bif !decide (xa = ya) then some (AV.bool false)
  else (bif !decide (xb = yb) then some (AV.bool false)
  else (bif !decide (xc = yc) then some (AV.bool false)
  else (bif !decide (xd = yd) then some (AV.bool false)
  else some (AV.bool true))))) := by kernel_rfl
theorem r24 (xa : Int) (xb : Int) (xc : Int) (xd : Int) (ya : Int) (yb : Int) (yc : Int) (yd : Int) : funA c24 0 24 [AV.agg [AV.int .i64 xa, AV.int .i64 xb, AV.int .i64 xc, AV.int .i64 xd], AV.agg [AV.int .i64 ya, AV.int .i64 yb, AV.int .i64 yc, AV.int .i64 yd]] = some (AV.bool (v24_0 xa xb xc xd ya yb yc yd)) := (e24 xa xb xc xd ya yb yc yd).trans (of_tt (brT (fun b => some (AV.bool (bif b then false else (bif !decide (xb = yb) then false else (bif !decide (xc = yc) then false else (bif !decide (xd = yd) then false else true)))))) (fun _ => rfl) (brT (fun b => some (AV.bool (bif b then false else (bif !decide (xc = yc) then false else (bif !decide (xd = yd) then false else true))))) (fun _ => rfl) (brT (fun b => some (AV.bool (bif b then false else (bif !decide (xd = yd) then false else true)))) (fun _ => rfl) (brT (fun b => some (AV.bool (bif b then false else true))) (fun _ => rfl) (fun _ => rfl))))))
def m24 : TModel
  | [.agg [.int .i64 xa, .int .i64 xb, .int .i64 xc, .int .i64 xd], .agg [.int .i64 ya, .int .i64 yb, .int .i64 yc, .int .i64 yd]] => some (true, AV.bool (v24_0 xa xb xc xd ya yb yc yd))
  | _ => none
theorem k24 : Known Try.prog 24 := ⟨Try.f24, Try.func24, by kernel_rfl, by kernel_rfl⟩
theorem meets24 : Meets Try.prog 24 m24 := by
  refine meet (f := Try.f24) (l := []) (hs := [(24, 999, [4])]) (ts := []) (ws := []) (is := []) (ls := []) (lvl := 0) mixed k24 Try.func24 (by kernel_rfl) noLoop allT_nil allM_nil noI fun w xs us r hl hv h => ?_
  unfold m24 at h
  split at h
  · rename_i xa xb xc xd ya yb yc yd
    obtain ⟨h1, rfl⟩ := pair_inj h
    exact r24 xa xb xc xd ya yb yc yd
  · cases h

/-! ### 11 loop.example/g01984/laws.eqEntryS -/
def F11_0 (t0 : List AV) (t1 : List AV) (t5 : Int) : Out (Int) (Unit ⊕ Unit) := (bif decide (t5 < (t0.length : Int)) then (bif (decide (0 ≤ t5) && decide (t5 < (t0.length : Int))) then (bif (decide (0 ≤ t5) && decide (t5 < (t1.length : Int))) then (bif !(v24_0 (fI (t0.getD t5.toNat .undef) 0) (fI (t0.getD t5.toNat .undef) 1) (fI (t0.getD t5.toNat .undef) 2) (fI (t0.getD t5.toNat .undef) 3) (fI (t1.getD t5.toNat .undef) 0) (fI (t1.getD t5.toNat .undef) 1) (fI (t1.getD t5.toNat .undef) 2) (fI (t1.getD t5.toNat .undef) 3)) then .stop (.inr ())
  else .next (IntKind.i64.wrap (t5 + 1)))
  else .fail)
  else .fail)
  else .stop (.inl ()))
def R11_0 (t0 : List AV) (t1 : List AV) : (Int) → Out (Int) (Unit ⊕ Unit) := fun s : Int => F11_0 t0 t1 s
def l11_0 : LModel := fun _ _ st k => match st with
  | ⟨[(0, .sl g0 t0), (1, .sl g1 t1), (5, .int .i64 t5)], []⟩ => bif ctsEq g0 ([.int .i64, .int .i64, .int .i64, .int .i64]) && ctsEq g1 ([.int .i64, .int .i64, .int .i64, .int .i64]) then ro (runW (R11_0 t0 t1) (((t0.length : Int) - t5).toNat + 1) t5) none (sumE (fun _ : Unit => k (.exit 0) ⟨[], []⟩) (fun _ : Unit => k .ret ⟨[(4, AV.bool false)], []⟩)) else none
  | _ => none
noncomputable def c11 : Cfg := cfg Try.prog [(11, 0, [0, 1, 5]), (11, 999, [4]), (11, 1000, []), (11, 1001, [0, 1, 5])] [(24, m24)] [] [] [(11, 0, l11_0)]
theorem s11_0 (ce : CallE) (t0 : List AV) (t1 : List AV) (t5 : Int) (next : St → Option AV) (k : Kont) : stepA (codeA c11 ce [] 11 0 (sub [1, 1, 0, 1, 0, 0] (body Try.f11))) (normA [] [0, 1, 5]) next ⟨[(0, AV.sl [.int .i64, .int .i64, .int .i64, .int .i64] t0), (1, AV.sl [.int .i64, .int .i64, .int .i64, .int .i64] t1), (5, AV.int .i64 t5)], []⟩ k = (bif decide (t5 < (t0.length : Int)) then (bif (decide (0 ≤ t5) && decide (t5 < (t0.length : Int))) then (bif (decide (0 ≤ t5) && decide (t5 < (t1.length : Int))) then (bif !(v24_0 (fI (t0.getD t5.toNat .undef) 0) (fI (t0.getD t5.toNat .undef) 1) (fI (t0.getD t5.toNat .undef) 2) (fI (t0.getD t5.toNat .undef) 3) (fI (t1.getD t5.toNat .undef) 0) (fI (t1.getD t5.toNat .undef) 1) (fI (t1.getD t5.toNat .undef) 2) (fI (t1.getD t5.toNat .undef) 3)) then k .ret ⟨[(4, AV.bool false)], []⟩
  else next ⟨[(0, AV.sl [.int .i64, .int .i64, .int .i64, .int .i64] t0), (1, AV.sl [.int .i64, .int .i64, .int .i64, .int .i64] t1), (5, AV.int .i64 (IntKind.i64.wrap (t5 + 1)))], []⟩)
  else none)
  else none)
  else k (.exit 0) ⟨[], []⟩) := by kernel_rfl
theorem st11_0 (t0 : List AV) (t1 : List AV) (ce : CallE) (k : Kont) (s : Int) (next : St → Option AV) : stepA (codeA c11 ce [] 11 0 (sub [1, 1, 0, 1, 0, 0] (body Try.f11))) (normA [] [0, 1, 5]) next ((fun s : Int => ⟨[(0, AV.sl [.int .i64, .int .i64, .int .i64, .int .i64] t0), (1, AV.sl [.int .i64, .int .i64, .int .i64, .int .i64] t1), (5, AV.int .i64 s)], []⟩) s) k = (R11_0 t0 t1 s).el none (fun s => next ((fun s : Int => ⟨[(0, AV.sl [.int .i64, .int .i64, .int .i64, .int .i64] t0), (1, AV.sl [.int .i64, .int .i64, .int .i64, .int .i64] t1), (5, AV.int .i64 s)], []⟩) s)) (sumE (fun _ : Unit => k (.exit 0) ⟨[], []⟩) (fun _ : Unit => k .ret ⟨[(4, AV.bool false)], []⟩)) := (s11_0 ce t0 t1 s next k).trans (by unfold R11_0; unfold F11_0; simp only [el_cond, el_ro, el_sum, el_fail, el_next, el_stop] <;> rfl)
theorem ok11_0 {ce : CallE} : LoopOK c11 ce [] 11 0 (sub [1, 1, 0, 1, 0, 0] (body Try.f11)) := by
  intro m hm st k r h
  obtain rfl : l11_0 = m := Option.some.inj hm
  unfold l11_0 at h
  split at h
  · rename_i g0 t0 g1 t1 t5
    obtain ⟨hg, h⟩ := bif_some h
    simp only [Bool.and_eq_true] at hg
    obtain ⟨q0, q1⟩ := hg
    obtain rfl := ctsEq_eq _ _ q0
    obtain rfl := ctsEq_eq _ _ q1
    refine ⟨(((t0.length : Int) - t5).toNat + 1), ?_⟩
    rw [← h]
    exact loop_run (fun s : Int => ⟨[(0, AV.sl [.int .i64, .int .i64, .int .i64, .int .i64] t0), (1, AV.sl [.int .i64, .int .i64, .int .i64, .int .i64] t1), (5, AV.int .i64 s)], []⟩) (sumE (fun _ : Unit => k (.exit 0) ⟨[], []⟩) (fun _ : Unit => k .ret ⟨[(4, AV.bool false)], []⟩)) (st11_0 t0 t1 ce k) _ t5
  · cases h
def q11 (a0 : List AV) (a1 : List AV) : Bool := (bif !decide ((a0.length : Int) = (a1.length : Int)) then true else (ro (runW (R11_0 a0 a1) (((a0.length : Int) - 0).toNat + 1) 0) false (sumE (fun _ => true) (fun _ => true))))
def v11_0 (a0 : List AV) (a1 : List AV) : Bool := (bif !decide ((a0.length : Int) = (a1.length : Int)) then false else (ro (runW (R11_0 a0 a1) (((a0.length : Int) - 0).toNat + 1) 0) false (sumE (fun _ => true) (fun _ => false))))
theorem e11 (a0 : List AV) (a1 : List AV) : funA c11 0 11 [AV.sl [.int .i64, .int .i64, .int .i64, .int .i64] a0, AV.sl [.int .i64, .int .i64, .int .i64, .int .i64] a1] = (bif !decide ((a0.length : Int) = (a1.length : Int)) then some (AV.bool false)
  else (ro (runW (R11_0 a0 a1) (((a0.length : Int) - 0).toNat + 1) 0) none (sumE (fun _ => some (AV.bool true)) (fun _ => some (AV.bool false))))) := by kernel_rfl
theorem r11 (a0 : List AV) (a1 : List AV) (h : q11 a0 a1 = true) : funA c11 0 11 [AV.sl [.int .i64, .int .i64, .int .i64, .int .i64] a0, AV.sl [.int .i64, .int .i64, .int .i64, .int .i64] a1] = some (AV.bool (v11_0 a0 a1)) := (e11 a0 a1).trans ((br (fun b => some (AV.bool (bif b then false else (ro (runW (R11_0 a0 a1) (((a0.length : Int) - 0).toNat + 1) 0) false (sumE (fun _ => true) (fun _ => false)))))) (fun _ => rfl) (brO (fun o : Option (Unit ⊕ Unit) => some (AV.bool (ro o false (sumE (fun _ => true) (fun _ => false))))) (brS (fun o : Unit ⊕ Unit => some (AV.bool ((sumE (fun _ => true) (fun _ => false)) o))) (fun _ => (fun _ => rfl)) (fun _ => (fun _ => rfl))))) h)
def m11 : TModel
  | [.sl g0 a0, .sl g1 a1] => bif ctsEq g0 ([.int .i64, .int .i64, .int .i64, .int .i64]) && ctsEq g1 ([.int .i64, .int .i64, .int .i64, .int .i64]) then some (q11 a0 a1, AV.bool (v11_0 a0 a1)) else none
  | _ => none
theorem k11 : Known Try.prog 11 := ⟨Try.f11, Try.func11, by kernel_rfl, by kernel_rfl⟩
theorem meets11 : Meets Try.prog 11 m11 := by
  refine meet (f := Try.f11) (l := [(0, sub [1, 1, 0, 1, 0, 0] (body Try.f11))]) (hs := [(11, 0, [0, 1, 5]), (11, 999, [4]), (11, 1000, []), (11, 1001, [0, 1, 5])]) (ts := [(24, m24)]) (ws := []) (is := []) (ls := [(11, 0, l11_0)]) (lvl := 0) mixed k11 Try.func11 (by kernel_rfl) (loops_cons ok11_0 noLoop) (allT_cons meets24 allT_nil) allM_nil noI fun w xs us r hl hv h => ?_
  unfold m11 at h
  split at h
  · rename_i g0 a0 g1 a1
    obtain ⟨hg, h⟩ := bif_pair h
    simp only [Bool.and_eq_true] at hg
    obtain ⟨q0, q1⟩ := hg
    obtain rfl := ctsEq_eq _ _ q0
    obtain rfl := ctsEq_eq _ _ q1
    obtain ⟨h1, rfl⟩ := pair_inj h
    exact r11 a0 a1 h1
  · cases h

/-! ### 12 loop.example/g01984/laws.markIntS -/
def F12_0 (t1 : Int) (t5 : Int) (h0 : List AV) : Out ((Int × Int × (List AV))) ((Int × (List AV))) := (bif decide (t5 < (h0.length : Int)) then (bif (decide (0 ≤ t5) && decide (t5 < (h0.length : Int))) then .next (IntKind.i64.wrap (t1 + 1), IntKind.i64.wrap (t5 + 1), h0.set t5.toNat (AV.agg [AV.int .i64 t1]))
  else .fail)
  else .stop (t1, h0))
def R12_0 : ((Int × Int × (List AV))) → Out ((Int × Int × (List AV))) ((Int × (List AV))) := fun s : Int × Int × (List AV) => F12_0 s.1 s.2.1 s.2.2
def l12_0 : LModel := fun _ _ st k => match st with
  | ⟨[(0, .own g0), (1, .int .i64 t1), (5, .int .i64 t5)], [(g1, ⟨false, g2, h0⟩)]⟩ => bif nmEq g0 ([1]) && nmEq g1 ([1]) && ctsEq g2 ([.int .i64]) then ro (runW (R12_0) (((h0.length : Int) - t5).toNat + 1) (t1, t5, h0)) none (fun p : Int × (List AV) => k (.exit 0) ⟨[(1, AV.int .i64 p.1)], [([1], ⟨false, [.int .i64], p.2⟩)]⟩) else none
  | _ => none
noncomputable def c12 : Cfg := cfg Try.prog [(12, 0, [0, 1, 5]), (12, 999, [4]), (12, 1000, [1]), (12, 1001, [0, 1, 5])] [] [] [] [(12, 0, l12_0)]
theorem s12_0 (ce : CallE) (t1 : Int) (t5 : Int) (h0 : List AV) (next : St → Option AV) (k : Kont) : stepA (codeA c12 ce [0] 12 0 (sub [1, 0, 1, 0, 0] (body Try.f12))) (normA [0] [0, 1, 5]) next ⟨[(0, AV.own [1]), (1, AV.int .i64 t1), (5, AV.int .i64 t5)], [([1], ⟨false, [.int .i64], h0⟩)]⟩ k = (bif decide (t5 < (h0.length : Int)) then (bif (decide (0 ≤ t5) && decide (t5 < (h0.length : Int))) then next ⟨[(0, AV.own [1]), (1, AV.int .i64 (IntKind.i64.wrap (t1 + 1))), (5, AV.int .i64 (IntKind.i64.wrap (t5 + 1)))], [([1], ⟨false, [.int .i64], h0.set t5.toNat (AV.agg [AV.int .i64 t1])⟩)]⟩
  else none)
  else k (.exit 0) ⟨[(1, AV.int .i64 t1)], [([1], ⟨false, [.int .i64], h0⟩)]⟩) := by kernel_rfl
theorem st12_0 (ce : CallE) (k : Kont) (s : (Int × Int × (List AV))) (next : St → Option AV) : stepA (codeA c12 ce [0] 12 0 (sub [1, 0, 1, 0, 0] (body Try.f12))) (normA [0] [0, 1, 5]) next ((fun s : Int × Int × (List AV) => ⟨[(0, AV.own [1]), (1, AV.int .i64 s.1), (5, AV.int .i64 s.2.1)], [([1], ⟨false, [.int .i64], s.2.2⟩)]⟩) s) k = (R12_0 s).el none (fun s => next ((fun s : Int × Int × (List AV) => ⟨[(0, AV.own [1]), (1, AV.int .i64 s.1), (5, AV.int .i64 s.2.1)], [([1], ⟨false, [.int .i64], s.2.2⟩)]⟩) s)) (fun p : Int × (List AV) => k (.exit 0) ⟨[(1, AV.int .i64 p.1)], [([1], ⟨false, [.int .i64], p.2⟩)]⟩) := (s12_0 ce s.1 s.2.1 s.2.2 next k).trans (by unfold R12_0; unfold F12_0; simp only [el_cond, el_ro, el_sum, el_fail, el_next, el_stop] <;> rfl)
theorem ok12_0 {ce : CallE} : LoopOK c12 ce [0] 12 0 (sub [1, 0, 1, 0, 0] (body Try.f12)) := by
  intro m hm st k r h
  obtain rfl : l12_0 = m := Option.some.inj hm
  unfold l12_0 at h
  split at h
  · rename_i g0 t1 t5 g1 g2 h0
    obtain ⟨hg, h⟩ := bif_some h
    simp only [Bool.and_eq_true] at hg
    obtain ⟨⟨q0, q1⟩, q2⟩ := hg
    obtain rfl := (nmEq_iff _ _).1 q0
    obtain rfl := (nmEq_iff _ _).1 q1
    obtain rfl := ctsEq_eq _ _ q2
    refine ⟨(((h0.length : Int) - t5).toNat + 1), ?_⟩
    rw [← h]
    exact loop_run (fun s : Int × Int × (List AV) => ⟨[(0, AV.own [1]), (1, AV.int .i64 s.1), (5, AV.int .i64 s.2.1)], [([1], ⟨false, [.int .i64], s.2.2⟩)]⟩) (fun p : Int × (List AV) => k (.exit 0) ⟨[(1, AV.int .i64 p.1)], [([1], ⟨false, [.int .i64], p.2⟩)]⟩) (st12_0 ce k) _ (t1, t5, h0)
  · cases h
def q12 (a1 : Int) (b0 : List AV) : Bool := (ro (runW (R12_0) (((b0.length : Int) - 0).toNat + 1) (a1, 0, b0)) false (fun p75 => true))
def v12_0 (a1 : Int) (b0 : List AV) : Int := (ro (runW (R12_0) (((b0.length : Int) - 0).toNat + 1) (a1, 0, b0)) 0 (fun p75 => p75.1))
def v12_1 (a1 : Int) (b0 : List AV) : List AV := (ro (runW (R12_0) (((b0.length : Int) - 0).toNat + 1) (a1, 0, b0)) [] (fun p75 => p75.2))
theorem e12 (a1 : Int) (b0 : List AV) (K : AV → List Blk → Option AV) : inlA c12 1 12 [AV.own [1], AV.int .i64 a1] [0] (canH 1 [⟨false, [.int .i64], b0⟩]) (keepB 1 K) = (ro (runW (R12_0) (((b0.length : Int) - 0).toNat + 1) (a1, 0, b0)) none (fun p75 => K (AV.int .i64 p75.1) [⟨false, [.int .i64], p75.2⟩])) := by kernel_rfl
theorem r12 (a1 : Int) (b0 : List AV) (K : AV → List Blk → Option AV) (h : q12 a1 b0 = true) : inlA c12 1 12 [AV.own [1], AV.int .i64 a1] [0] (canH 1 [⟨false, [.int .i64], b0⟩]) (keepB 1 K) = K (AV.int .i64 (v12_0 a1 b0)) [⟨false, [.int .i64], (v12_1 a1 b0)⟩] := (e12 a1 b0 K).trans ((brO (fun o : Option ((Int × (List AV))) => K (AV.int .i64 (ro o 0 (fun p75 => p75.1))) [⟨false, [.int .i64], (ro o [] (fun p75 => p75.2))⟩]) (fun p75 => (fun _ => rfl))) h)
def m12 : WModel
  | [.own g0, .int .i64 a1], [⟨false, g1, b0⟩] => bif nmEq g0 ([1]) && ctsEq g1 ([.int .i64]) then some (q12 a1 b0, AV.int .i64 (v12_0 a1 b0), [⟨false, [.int .i64], (v12_1 a1 b0)⟩]) else none
  | _, _ => none
theorem k12 : Known Try.prog 12 := ⟨Try.f12, Try.func12, by kernel_rfl, by kernel_rfl⟩
theorem meets12 : MeetsM Try.prog 12 m12 := by
  refine meetM (f := Try.f12) (l := [(0, sub [1, 0, 1, 0, 0] (body Try.f12))]) (hs := [(12, 0, [0, 1, 5]), (12, 999, [4]), (12, 1000, [1]), (12, 1001, [0, 1, 5])]) (ts := []) (ws := []) (is := []) (ls := [(12, 0, l12_0)]) (lvl := 0) mixed k12 Try.func12 (by kernel_rfl) (loops_cons ok12_0 noLoop) allT_nil allM_nil noI fun C w xs us bs r bs' hl hv hh h K => ?_
  unfold m12 at h
  split at h
  · rename_i g0 a1 g1 b0
    obtain ⟨hg, h⟩ := bif_pair h
    simp only [Bool.and_eq_true] at hg
    obtain ⟨q0, q1⟩ := hg
    obtain rfl := (nmEq_iff _ _).1 q0
    obtain rfl := ctsEq_eq _ _ q1
    obtain ⟨h1, rfl, rfl⟩ := trip_inj h
    exact r12 a1 b0 K h1
  · cases h

/-! ### 13 loop.example/g01984/laws.markEntryS -/
def F13_0 (t1 : Int) (t5 : Int) (h0 : List AV) : Out ((Int × Int × (List AV))) ((Int × (List AV))) := (bif decide (t5 < (h0.length : Int)) then (bif (decide (0 ≤ t5) && decide (t5 < (h0.length : Int))) then (bif (decide (0 ≤ t5) && decide (t5 < ((h0.set t5.toNat (AV.agg [AV.int .i64 t1, AV.int .i64 (fI (h0.getD t5.toNat .undef) 1), AV.int .i64 (fI (h0.getD t5.toNat .undef) 2), AV.int .i64 (fI (h0.getD t5.toNat .undef) 3)])).length : Int))) then (bif (decide (0 ≤ t5) && decide (t5 < (((h0.set t5.toNat (AV.agg [AV.int .i64 t1, AV.int .i64 (fI (h0.getD t5.toNat .undef) 1), AV.int .i64 (fI (h0.getD t5.toNat .undef) 2), AV.int .i64 (fI (h0.getD t5.toNat .undef) 3)])).set t5.toNat (AV.agg [AV.int .i64 (fI ((h0.set t5.toNat (AV.agg [AV.int .i64 t1, AV.int .i64 (fI (h0.getD t5.toNat .undef) 1), AV.int .i64 (fI (h0.getD t5.toNat .undef) 2), AV.int .i64 (fI (h0.getD t5.toNat .undef) 3)])).getD t5.toNat .undef) 0), AV.int .i64 (IntKind.i64.wrap (t1 + 1)), AV.int .i64 (fI ((h0.set t5.toNat (AV.agg [AV.int .i64 t1, AV.int .i64 (fI (h0.getD t5.toNat .undef) 1), AV.int .i64 (fI (h0.getD t5.toNat .undef) 2), AV.int .i64 (fI (h0.getD t5.toNat .undef) 3)])).getD t5.toNat .undef) 2), AV.int .i64 (fI ((h0.set t5.toNat (AV.agg [AV.int .i64 t1, AV.int .i64 (fI (h0.getD t5.toNat .undef) 1), AV.int .i64 (fI (h0.getD t5.toNat .undef) 2), AV.int .i64 (fI (h0.getD t5.toNat .undef) 3)])).getD t5.toNat .undef) 3)])).length : Int))) then (bif (decide (0 ≤ t5) && decide (t5 < ((((h0.set t5.toNat (AV.agg [AV.int .i64 t1, AV.int .i64 (fI (h0.getD t5.toNat .undef) 1), AV.int .i64 (fI (h0.getD t5.toNat .undef) 2), AV.int .i64 (fI (h0.getD t5.toNat .undef) 3)])).set t5.toNat (AV.agg [AV.int .i64 (fI ((h0.set t5.toNat (AV.agg [AV.int .i64 t1, AV.int .i64 (fI (h0.getD t5.toNat .undef) 1), AV.int .i64 (fI (h0.getD t5.toNat .undef) 2), AV.int .i64 (fI (h0.getD t5.toNat .undef) 3)])).getD t5.toNat .undef) 0), AV.int .i64 (IntKind.i64.wrap (t1 + 1)), AV.int .i64 (fI ((h0.set t5.toNat (AV.agg [AV.int .i64 t1, AV.int .i64 (fI (h0.getD t5.toNat .undef) 1), AV.int .i64 (fI (h0.getD t5.toNat .undef) 2), AV.int .i64 (fI (h0.getD t5.toNat .undef) 3)])).getD t5.toNat .undef) 2), AV.int .i64 (fI ((h0.set t5.toNat (AV.agg [AV.int .i64 t1, AV.int .i64 (fI (h0.getD t5.toNat .undef) 1), AV.int .i64 (fI (h0.getD t5.toNat .undef) 2), AV.int .i64 (fI (h0.getD t5.toNat .undef) 3)])).getD t5.toNat .undef) 3)])).set t5.toNat (AV.agg [AV.int .i64 (fI (((h0.set t5.toNat (AV.agg [AV.int .i64 t1, AV.int .i64 (fI (h0.getD t5.toNat .undef) 1), AV.int .i64 (fI (h0.getD t5.toNat .undef) 2), AV.int .i64 (fI (h0.getD t5.toNat .undef) 3)])).set t5.toNat (AV.agg [AV.int .i64 (fI ((h0.set t5.toNat (AV.agg [AV.int .i64 t1, AV.int .i64 (fI (h0.getD t5.toNat .undef) 1), AV.int .i64 (fI (h0.getD t5.toNat .undef) 2), AV.int .i64 (fI (h0.getD t5.toNat .undef) 3)])).getD t5.toNat .undef) 0), AV.int .i64 (IntKind.i64.wrap (t1 + 1)), AV.int .i64 (fI ((h0.set t5.toNat (AV.agg [AV.int .i64 t1, AV.int .i64 (fI (h0.getD t5.toNat .undef) 1), AV.int .i64 (fI (h0.getD t5.toNat .undef) 2), AV.int .i64 (fI (h0.getD t5.toNat .undef) 3)])).getD t5.toNat .undef) 2), AV.int .i64 (fI ((h0.set t5.toNat (AV.agg [AV.int .i64 t1, AV.int .i64 (fI (h0.getD t5.toNat .undef) 1), AV.int .i64 (fI (h0.getD t5.toNat .undef) 2), AV.int .i64 (fI (h0.getD t5.toNat .undef) 3)])).getD t5.toNat .undef) 3)])).getD t5.toNat .undef) 0), AV.int .i64 (fI (((h0.set t5.toNat (AV.agg [AV.int .i64 t1, AV.int .i64 (fI (h0.getD t5.toNat .undef) 1), AV.int .i64 (fI (h0.getD t5.toNat .undef) 2), AV.int .i64 (fI (h0.getD t5.toNat .undef) 3)])).set t5.toNat (AV.agg [AV.int .i64 (fI ((h0.set t5.toNat (AV.agg [AV.int .i64 t1, AV.int .i64 (fI (h0.getD t5.toNat .undef) 1), AV.int .i64 (fI (h0.getD t5.toNat .undef) 2), AV.int .i64 (fI (h0.getD t5.toNat .undef) 3)])).getD t5.toNat .undef) 0), AV.int .i64 (IntKind.i64.wrap (t1 + 1)), AV.int .i64 (fI ((h0.set t5.toNat (AV.agg [AV.int .i64 t1, AV.int .i64 (fI (h0.getD t5.toNat .undef) 1), AV.int .i64 (fI (h0.getD t5.toNat .undef) 2), AV.int .i64 (fI (h0.getD t5.toNat .undef) 3)])).getD t5.toNat .undef) 2), AV.int .i64 (fI ((h0.set t5.toNat (AV.agg [AV.int .i64 t1, AV.int .i64 (fI (h0.getD t5.toNat .undef) 1), AV.int .i64 (fI (h0.getD t5.toNat .undef) 2), AV.int .i64 (fI (h0.getD t5.toNat .undef) 3)])).getD t5.toNat .undef) 3)])).getD t5.toNat .undef) 1), AV.int .i64 (IntKind.i64.wrap (IntKind.i64.wrap (t1 + 1) + 1)), AV.int .i64 (fI (((h0.set t5.toNat (AV.agg [AV.int .i64 t1, AV.int .i64 (fI (h0.getD t5.toNat .undef) 1), AV.int .i64 (fI (h0.getD t5.toNat .undef) 2), AV.int .i64 (fI (h0.getD t5.toNat .undef) 3)])).set t5.toNat (AV.agg [AV.int .i64 (fI ((h0.set t5.toNat (AV.agg [AV.int .i64 t1, AV.int .i64 (fI (h0.getD t5.toNat .undef) 1), AV.int .i64 (fI (h0.getD t5.toNat .undef) 2), AV.int .i64 (fI (h0.getD t5.toNat .undef) 3)])).getD t5.toNat .undef) 0), AV.int .i64 (IntKind.i64.wrap (t1 + 1)), AV.int .i64 (fI ((h0.set t5.toNat (AV.agg [AV.int .i64 t1, AV.int .i64 (fI (h0.getD t5.toNat .undef) 1), AV.int .i64 (fI (h0.getD t5.toNat .undef) 2), AV.int .i64 (fI (h0.getD t5.toNat .undef) 3)])).getD t5.toNat .undef) 2), AV.int .i64 (fI ((h0.set t5.toNat (AV.agg [AV.int .i64 t1, AV.int .i64 (fI (h0.getD t5.toNat .undef) 1), AV.int .i64 (fI (h0.getD t5.toNat .undef) 2), AV.int .i64 (fI (h0.getD t5.toNat .undef) 3)])).getD t5.toNat .undef) 3)])).getD t5.toNat .undef) 3)])).length : Int))) then .next (IntKind.i64.wrap (IntKind.i64.wrap (IntKind.i64.wrap (IntKind.i64.wrap (t1 + 1) + 1) + 1) + 1), IntKind.i64.wrap (t5 + 1), (((h0.set t5.toNat (AV.agg [AV.int .i64 t1, AV.int .i64 (fI (h0.getD t5.toNat .undef) 1), AV.int .i64 (fI (h0.getD t5.toNat .undef) 2), AV.int .i64 (fI (h0.getD t5.toNat .undef) 3)])).set t5.toNat (AV.agg [AV.int .i64 (fI ((h0.set t5.toNat (AV.agg [AV.int .i64 t1, AV.int .i64 (fI (h0.getD t5.toNat .undef) 1), AV.int .i64 (fI (h0.getD t5.toNat .undef) 2), AV.int .i64 (fI (h0.getD t5.toNat .undef) 3)])).getD t5.toNat .undef) 0), AV.int .i64 (IntKind.i64.wrap (t1 + 1)), AV.int .i64 (fI ((h0.set t5.toNat (AV.agg [AV.int .i64 t1, AV.int .i64 (fI (h0.getD t5.toNat .undef) 1), AV.int .i64 (fI (h0.getD t5.toNat .undef) 2), AV.int .i64 (fI (h0.getD t5.toNat .undef) 3)])).getD t5.toNat .undef) 2), AV.int .i64 (fI ((h0.set t5.toNat (AV.agg [AV.int .i64 t1, AV.int .i64 (fI (h0.getD t5.toNat .undef) 1), AV.int .i64 (fI (h0.getD t5.toNat .undef) 2), AV.int .i64 (fI (h0.getD t5.toNat .undef) 3)])).getD t5.toNat .undef) 3)])).set t5.toNat (AV.agg [AV.int .i64 (fI (((h0.set t5.toNat (AV.agg [AV.int .i64 t1, AV.int .i64 (fI (h0.getD t5.toNat .undef) 1), AV.int .i64 (fI (h0.getD t5.toNat .undef) 2), AV.int .i64 (fI (h0.getD t5.toNat .undef) 3)])).set t5.toNat (AV.agg [AV.int .i64 (fI ((h0.set t5.toNat (AV.agg [AV.int .i64 t1, AV.int .i64 (fI (h0.getD t5.toNat .undef) 1), AV.int .i64 (fI (h0.getD t5.toNat .undef) 2), AV.int .i64 (fI (h0.getD t5.toNat .undef) 3)])).getD t5.toNat .undef) 0), AV.int .i64 (IntKind.i64.wrap (t1 + 1)), AV.int .i64 (fI ((h0.set t5.toNat (AV.agg [AV.int .i64 t1, AV.int .i64 (fI (h0.getD t5.toNat .undef) 1), AV.int .i64 (fI (h0.getD t5.toNat .undef) 2), AV.int .i64 (fI (h0.getD t5.toNat .undef) 3)])).getD t5.toNat .undef) 2), AV.int .i64 (fI ((h0.set t5.toNat (AV.agg [AV.int .i64 t1, AV.int .i64 (fI (h0.getD t5.toNat .undef) 1), AV.int .i64 (fI (h0.getD t5.toNat .undef) 2), AV.int .i64 (fI (h0.getD t5.toNat .undef) 3)])).getD t5.toNat .undef) 3)])).getD t5.toNat .undef) 0), AV.int .i64 (fI (((h0.set t5.toNat (AV.agg [AV.int .i64 t1, AV.int .i64 (fI (h0.getD t5.toNat .undef) 1), AV.int .i64 (fI (h0.getD t5.toNat .undef) 2), AV.int .i64 (fI (h0.getD t5.toNat .undef) 3)])).set t5.toNat (AV.agg [AV.int .i64 (fI ((h0.set t5.toNat (AV.agg [AV.int .i64 t1, AV.int .i64 (fI (h0.getD t5.toNat .undef) 1), AV.int .i64 (fI (h0.getD t5.toNat .undef) 2), AV.int .i64 (fI (h0.getD t5.toNat .undef) 3)])).getD t5.toNat .undef) 0), AV.int .i64 (IntKind.i64.wrap (t1 + 1)), AV.int .i64 (fI ((h0.set t5.toNat (AV.agg [AV.int .i64 t1, AV.int .i64 (fI (h0.getD t5.toNat .undef) 1), AV.int .i64 (fI (h0.getD t5.toNat .undef) 2), AV.int .i64 (fI (h0.getD t5.toNat .undef) 3)])).getD t5.toNat .undef) 2), AV.int .i64 (fI ((h0.set t5.toNat (AV.agg [AV.int .i64 t1, AV.int .i64 (fI (h0.getD t5.toNat .undef) 1), AV.int .i64 (fI (h0.getD t5.toNat .undef) 2), AV.int .i64 (fI (h0.getD t5.toNat .undef) 3)])).getD t5.toNat .undef) 3)])).getD t5.toNat .undef) 1), AV.int .i64 (IntKind.i64.wrap (IntKind.i64.wrap (t1 + 1) + 1)), AV.int .i64 (fI (((h0.set t5.toNat (AV.agg [AV.int .i64 t1, AV.int .i64 (fI (h0.getD t5.toNat .undef) 1), AV.int .i64 (fI (h0.getD t5.toNat .undef) 2), AV.int .i64 (fI (h0.getD t5.toNat .undef) 3)])).set t5.toNat (AV.agg [AV.int .i64 (fI ((h0.set t5.toNat (AV.agg [AV.int .i64 t1, AV.int .i64 (fI (h0.getD t5.toNat .undef) 1), AV.int .i64 (fI (h0.getD t5.toNat .undef) 2), AV.int .i64 (fI (h0.getD t5.toNat .undef) 3)])).getD t5.toNat .undef) 0), AV.int .i64 (IntKind.i64.wrap (t1 + 1)), AV.int .i64 (fI ((h0.set t5.toNat (AV.agg [AV.int .i64 t1, AV.int .i64 (fI (h0.getD t5.toNat .undef) 1), AV.int .i64 (fI (h0.getD t5.toNat .undef) 2), AV.int .i64 (fI (h0.getD t5.toNat .undef) 3)])).getD t5.toNat .undef) 2), AV.int .i64 (fI ((h0.set t5.toNat (AV.agg [AV.int .i64 t1, AV.int .i64 (fI (h0.getD t5.toNat .undef) 1), AV.int .i64 (fI (h0.getD t5.toNat .undef) 2), AV.int .i64 (fI (h0.getD t5.toNat .undef) 3)])).getD t5.toNat .undef) 3)])).getD t5.toNat .undef) 3)])).set t5.toNat (AV.agg [AV.int .i64 (fI ((((h0.set t5.toNat (AV.agg [AV.int .i64 t1, AV.int .i64 (fI (h0.getD t5.toNat .undef) 1), AV.int .i64 (fI (h0.getD t5.toNat .undef) 2), AV.int .i64 (fI (h0.getD t5.toNat .undef) 3)])).set t5.toNat (AV.agg [AV.int .i64 (fI ((h0.set t5.toNat (AV.agg [AV.int .i64 t1, AV.int .i64 (fI (h0.getD t5.toNat .undef) 1), AV.int .i64 (fI (h0.getD t5.toNat .undef) 2), AV.int .i64 (fI (h0.getD t5.toNat .undef) 3)])).getD t5.toNat .undef) 0), AV.int .i64 (IntKind.i64.wrap (t1 + 1)), AV.int .i64 (fI ((h0.set t5.toNat (AV.agg [AV.int .i64 t1, AV.int .i64 (fI (h0.getD t5.toNat .undef) 1), AV.int .i64 (fI (h0.getD t5.toNat .undef) 2), AV.int .i64 (fI (h0.getD t5.toNat .undef) 3)])).getD t5.toNat .undef) 2), AV.int .i64 (fI ((h0.set t5.toNat (AV.agg [AV.int .i64 t1, AV.int .i64 (fI (h0.getD t5.toNat .undef) 1), AV.int .i64 (fI (h0.getD t5.toNat .undef) 2), AV.int .i64 (fI (h0.getD t5.toNat .undef) 3)])).getD t5.toNat .undef) 3)])).set t5.toNat (AV.agg [AV.int .i64 (fI (((h0.set t5.toNat (AV.agg [AV.int .i64 t1, AV.int .i64 (fI (h0.getD t5.toNat .undef) 1), AV.int .i64 (fI (h0.getD t5.toNat .undef) 2), AV.int .i64 (fI (h0.getD t5.toNat .undef) 3)])).set t5.toNat (AV.agg [AV.int .i64 (fI ((h0.set t5.toNat (AV.agg [AV.int .i64 t1, AV.int .i64 (fI (h0.getD t5.toNat .undef) 1), AV.int .i64 (fI (h0.getD t5.toNat .undef) 2), AV.int .i64 (fI (h0.getD t5.toNat .undef) 3)])).getD t5.toNat .undef) 0), AV.int .i64 (IntKind.i64.wrap (t1 + 1)), AV.int .i64 (fI ((h0.set t5.toNat (AV.agg [AV.int .i64 t1, AV.int .i64 (fI (h0.getD t5.toNat .undef) 1), AV.int .i64 (fI (h0.getD t5.toNat .undef) 2), AV.int .i64 (fI (h0.getD t5.toNat .undef) 3)])).getD t5.toNat .undef) 2), AV.int .i64 (fI ((h0.set t5.toNat (AV.agg [AV.int .i64 t1, AV.int .i64 (fI (h0.getD t5.toNat .undef) 1), AV.int .i64 (fI (h0.getD t5.toNat .undef) 2), AV.int .i64 (fI (h0.getD t5.toNat .undef) 3)])).getD t5.toNat .undef) 3)])).getD t5.toNat .undef) 0), AV.int .i64 (fI (((h0.set t5.toNat (AV.agg [AV.int .i64 t1, AV.int .i64 (fI (h0.getD t5.toNat .undef) 1), AV.int .i64 (fI (h0.getD t5.toNat .undef) 2), AV.int .i64 (fI (h0.getD t5.toNat .undef) 3)])).set t5.toNat (AV.agg [AV.int .i64 (fI ((h0.set t5.toNat (AV.agg [AV.int .i64 t1, AV.int .i64 (fI (h0.getD t5.toNat .undef) 1), AV.int .i64 (fI (h0.getD t5.toNat .undef) 2), AV.int .i64 (fI (h0.getD t5.toNat .undef) 3)])).getD t5.toNat .undef) 0), AV.int .i64 (IntKind.i64.wrap (t1 + 1)), AV.int .i64 (fI ((h0.set t5.toNat (AV.agg [AV.int .i64 t1, AV.int .i64 (fI (h0.getD t5.toNat .undef) 1), AV.int .i64 (fI (h0.getD t5.toNat .undef) 2), AV.int .i64 (fI (h0.getD t5.toNat .undef) 3)])).getD t5.toNat .undef) 2), AV.int .i64 (fI ((h0.set t5.toNat (AV.agg [AV.int .i64 t1, AV.int .i64 (fI (h0.getD t5.toNat .undef) 1), AV.int .i64 (fI (h0.getD t5.toNat .undef) 2), AV.int .i64 (fI (h0.getD t5.toNat .undef) 3)])).getD t5.toNat .undef) 3)])).getD t5.toNat .undef) 1), AV.int .i64 (IntKind.i64.wrap (IntKind.i64.wrap (t1 + 1) + 1)), AV.int .i64 (fI (((h0.set t5.toNat (AV.agg [AV.int .i64 t1, AV.int .i64 (fI (h0.getD t5.toNat .undef) 1), AV.int .i64 (fI (h0.getD t5.toNat .undef) 2), AV.int .i64 (fI (h0.getD t5.toNat .undef) 3)])).set t5.toNat (AV.agg [AV.int .i64 (fI ((h0.set t5.toNat (AV.agg [AV.int .i64 t1, AV.int .i64 (fI (h0.getD t5.toNat .undef) 1), AV.int .i64 (fI (h0.getD t5.toNat .undef) 2), AV.int .i64 (fI (h0.getD t5.toNat .undef) 3)])).getD t5.toNat .undef) 0), AV.int .i64 (IntKind.i64.wrap (t1 + 1)), AV.int .i64 (fI ((h0.set t5.toNat (AV.agg [AV.int .i64 t1, AV.int .i64 (fI (h0.getD t5.toNat .undef) 1), AV.int .i64 (fI (h0.getD t5.toNat .undef) 2), AV.int .i64 (fI (h0.getD t5.toNat .undef) 3)])).getD t5.toNat .undef) 2), AV.int .i64 (fI ((h0.set t5.toNat (AV.agg [AV.int .i64 t1, AV.int .i64 (fI (h0.getD t5.toNat .undef) 1), AV.int .i64 (fI (h0.getD t5.toNat .undef) 2), AV.int .i64 (fI (h0.getD t5.toNat .undef) 3)])).getD t5.toNat .undef) 3)])).getD t5.toNat .undef) 3)])).getD t5.toNat .undef) 0), AV.int .i64 (fI ((((h0.set t5.toNat (AV.agg [AV.int .i64 t1, AV.int .i64 (fI (h0.getD t5.toNat .undef) 1), AV.int .i64 (fI (h0.getD t5.toNat .undef) 2), AV.int .i64 (fI (h0.getD t5.toNat .undef) 3)])).set t5.toNat (AV.agg [AV.int .i64 (fI ((h0.set t5.toNat (AV.agg [AV.int .i64 t1, AV.int .i64 (fI (h0.getD t5.toNat .undef) 1), AV.int .i64 (fI (h0.getD t5.toNat .undef) 2), AV.int .i64 (fI (h0.getD t5.toNat .undef) 3)])).getD t5.toNat .undef) 0), AV.int .i64 (IntKind.i64.wrap (t1 + 1)), AV.int .i64 (fI ((h0.set t5.toNat (AV.agg [AV.int .i64 t1, AV.int .i64 (fI (h0.getD t5.toNat .undef) 1), AV.int .i64 (fI (h0.getD t5.toNat .undef) 2), AV.int .i64 (fI (h0.getD t5.toNat .undef) 3)])).getD t5.toNat .undef) 2), AV.int .i64 (fI ((h0.set t5.toNat (AV.agg [AV.int .i64 t1, AV.int .i64 (fI (h0.getD t5.toNat .undef) 1), AV.int .i64 (fI (h0.getD t5.toNat .undef) 2), AV.int .i64 (fI (h0.getD t5.toNat .undef) 3)])).getD t5.toNat .undef) 3)])).set t5.toNat (AV.agg [AV.int .i64 (fI (((h0.set t5.toNat (AV.agg [AV.int .i64 t1, AV.int .i64 (fI (h0.getD t5.toNat .undef) 1), AV.int .i64 (fI (h0.getD t5.toNat .undef) 2), AV.int .i64 (fI (h0.getD t5.toNat .undef) 3)])).set t5.toNat (AV.agg [AV.int .i64 (fI ((h0.set t5.toNat (AV.agg [AV.int .i64 t1, AV.int .i64 (fI (h0.getD t5.toNat .undef) 1), AV.int .i64 (fI (h0.getD t5.toNat .undef) 2), AV.int .i64 (fI (h0.getD t5.toNat .undef) 3)])).getD t5.toNat .undef) 0), AV.int .i64 (IntKind.i64.wrap (t1 + 1)), AV.int .i64 (fI ((h0.set t5.toNat (AV.agg [AV.int .i64 t1, AV.int .i64 (fI (h0.getD t5.toNat .undef) 1), AV.int .i64 (fI (h0.getD t5.toNat .undef) 2), AV.int .i64 (fI (h0.getD t5.toNat .undef) 3)])).getD t5.toNat .undef) 2), AV.int .i64 (fI ((h0.set t5.toNat (AV.agg [AV.int .i64 t1, AV.int .i64 (fI (h0.getD t5.toNat .undef) 1), AV.int .i64 (fI (h0.getD t5.toNat .undef) 2), AV.int .i64 (fI (h0.getD t5.toNat .undef) 3)])).getD t5.toNat .undef) 3)])).getD t5.toNat .undef) 0), AV.int .i64 (fI (((h0.set t5.toNat (AV.agg [AV.int .i64 t1, AV.int .i64 (fI (h0.getD t5.toNat .undef) 1), AV.int .i64 (fI (h0.getD t5.toNat .undef) 2), AV.int .i64 (fI (h0.getD t5.toNat .undef) 3)])).set t5.toNat (AV.agg [AV.int .i64 (fI ((h0.set t5.toNat (AV.agg [AV.int .i64 t1, AV.int .i64 (fI (h0.getD t5.toNat .undef) 1), AV.int .i64 (fI (h0.getD t5.toNat .undef) 2), AV.int .i64 (fI (h0.getD t5.toNat .undef) 3)])).getD t5.toNat .undef) 0), AV.int .i64 (IntKind.i64.wrap (t1 + 1)), AV.int .i64 (fI ((h0.set t5.toNat (AV.agg [AV.int .i64 t1, AV.int .i64 (fI (h0.getD t5.toNat .undef) 1), AV.int .i64 (fI (h0.getD t5.toNat .undef) 2), AV.int .i64 (fI (h0.getD t5.toNat .undef) 3)])).getD t5.toNat .undef) 2), AV.int .i64 (fI ((h0.set t5.toNat (AV.agg [AV.int .i64 t1, AV.int .i64 (fI (h0.getD t5.toNat .undef) 1), AV.int .i64 (fI (h0.getD t5.toNat .undef) 2), AV.int .i64 (fI (h0.getD t5.toNat .undef) 3)])).getD t5.toNat .undef) 3)])).getD t5.toNat .undef) 1), AV.int .i64 (IntKind.i64.wrap (IntKind.i64.wrap (t1 + 1) + 1)), AV.int .i64 (fI (((h0.set t5.toNat (AV.agg [AV.int .i64 t1, AV.int .i64 (fI (h0.getD t5.toNat .undef) 1), AV.int .i64 (fI (h0.getD t5.toNat .undef) 2), AV.int .i64 (fI (h0.getD t5.toNat .undef) 3)])).set t5.toNat (AV.agg [AV.int .i64 (fI ((h0.set t5.toNat (AV.agg [AV.int .i64 t1, AV.int .i64 (fI (h0.getD t5.toNat .undef) 1), AV.int .i64 (fI (h0.getD t5.toNat .undef) 2), AV.int .i64 (fI (h0.getD t5.toNat .undef) 3)])).getD t5.toNat .undef) 0), AV.int .i64 (IntKind.i64.wrap (t1 + 1)), AV.int .i64 (fI ((h0.set t5.toNat (AV.agg [AV.int .i64 t1, AV.int .i64 (fI (h0.getD t5.toNat .undef) 1), AV.int .i64 (fI (h0.getD t5.toNat .undef) 2), AV.int .i64 (fI (h0.getD t5.toNat .undef) 3)])).getD t5.toNat .undef) 2), AV.int .i64 (fI ((h0.set t5.toNat (AV.agg [AV.int .i64 t1, AV.int .i64 (fI (h0.getD t5.toNat .undef) 1), AV.int .i64 (fI (h0.getD t5.toNat .undef) 2), AV.int .i64 (fI (h0.getD t5.toNat .undef) 3)])).getD t5.toNat .undef) 3)])).getD t5.toNat .undef) 3)])).getD t5.toNat .undef) 1), AV.int .i64 (fI ((((h0.set t5.toNat (AV.agg [AV.int .i64 t1, AV.int .i64 (fI (h0.getD t5.toNat .undef) 1), AV.int .i64 (fI (h0.getD t5.toNat .undef) 2), AV.int .i64 (fI (h0.getD t5.toNat .undef) 3)])).set t5.toNat (AV.agg [AV.int .i64 (fI ((h0.set t5.toNat (AV.agg [AV.int .i64 t1, AV.int .i64 (fI (h0.getD t5.toNat .undef) 1), AV.int .i64 (fI (h0.getD t5.toNat .undef) 2), AV.int .i64 (fI (h0.getD t5.toNat .undef) 3)])).getD t5.toNat .undef) 0), AV.int .i64 (IntKind.i64.wrap (t1 + 1)), AV.int .i64 (fI ((h0.set t5.toNat (AV.agg [AV.int .i64 t1, AV.int .i64 (fI (h0.getD t5.toNat .undef) 1), AV.int .i64 (fI (h0.getD t5.toNat .undef) 2), AV.int .i64 (fI (h0.getD t5.toNat .undef) 3)])).getD t5.toNat .undef) 2), AV.int .i64 (fI ((h0.set t5.toNat (AV.agg [AV.int .i64 t1, AV.int .i64 (fI (h0.getD t5.toNat .undef) 1), AV.int .i64 (fI (h0.getD t5.toNat .undef) 2), AV.int .i64 (fI (h0.getD t5.toNat .undef) 3)])).getD t5.toNat .undef) 3)])).set t5.toNat (AV.agg [AV.int .i64 (fI (((h0.set t5.toNat (AV.agg [AV.int .i64 t1, AV.int .i64 (fI (h0.getD t5.toNat .undef) 1), AV.int .i64 (fI (h0.getD t5.toNat .undef) 2), AV.int .i64 (fI (h0.getD t5.toNat .undef) 3)])).set t5.toNat (AV.agg [AV.int .i64 (fI ((h0.set t5.toNat (AV.agg [AV.int .i64 t1, AV.int .i64 (fI (h0.getD t5.toNat .undef) 1), AV.int .i64 (fI (h0.getD t5.toNat .undef) 2), AV.int .i64 (fI (h0.getD t5.toNat .undef) 3)])).getD t5.toNat .undef) 0), AV.int .i64 (IntKind.i64.wrap (t1 + 1)), AV.int .i64 (fI ((h0.set t5.toNat (AV.agg [AV.int .i64 t1, AV.int .i64 (fI (h0.getD t5.toNat .undef) 1), AV.int .i64 (fI (h0.getD t5.toNat .undef) 2), AV.int .i64 (fI (h0.getD t5.toNat .undef) 3)])).getD t5.toNat .undef) 2), AV.int .i64 (fI ((h0.set t5.toNat (AV.agg [AV.int .i64 t1, AV.int .i64 (fI (h0.getD t5.toNat .undef) 1), AV.int .i64 (fI (h0.getD t5.toNat .undef) 2), AV.int .i64 (fI (h0.getD t5.toNat .undef) 3)])).getD t5.toNat .undef) 3)])).getD t5.toNat .undef) 0), AV.int .i64 (fI (((h0.set t5.toNat (AV.agg [AV.int .i64 t1, AV.int .i64 (fI (h0.getD t5.toNat .undef) 1), AV.int .i64 (fI (h0.getD t5.toNat .undef) 2), AV.int .i64 (fI (h0.getD t5.toNat .undef) 3)])).set t5.toNat (AV.agg [AV.int .i64 (fI ((h0.set t5.toNat (AV.agg [AV.int .i64 t1, AV.int .i64 (fI (h0.getD t5.toNat .undef) 1), AV.int .i64 (fI (h0.getD t5.toNat .undef) 2), AV.int .i64 (fI (h0.getD t5.toNat .undef) 3)])).getD t5.toNat .undef) 0), AV.int .i64 (IntKind.i64.wrap (t1 + 1)), AV.int .i64 (fI ((h0.set t5.toNat (AV.agg [AV.int .i64 t1, AV.int .i64 (fI (h0.getD t5.toNat .undef) 1), AV.int .i64 (fI (h0.getD t5.toNat .undef) 2), AV.int .i64 (fI (h0.getD t5.toNat .undef) 3)])).getD t5.toNat .undef) 2), AV.int .i64 (fI ((h0.set t5.toNat (AV.agg [AV.int .i64 t1, AV.int .i64 (fI (h0.getD t5.toNat .undef) 1), AV.int .i64 (fI (h0.getD t5.toNat .undef) 2), AV.int .i64 (fI (h0.getD t5.toNat .undef) 3)])).getD t5.toNat .undef) 3)])).getD t5.toNat .undef) 1), AV.int .i64 (IntKind.i64.wrap (IntKind.i64.wrap (t1 + 1) + 1)), AV.int .i64 (fI (((h0.set t5.toNat (AV.agg [AV.int .i64 t1, AV.int .i64 (fI (h0.getD t5.toNat .undef) 1), AV.int .i64 (fI (h0.getD t5.toNat .undef) 2), AV.int .i64 (fI (h0.getD t5.toNat .undef) 3)])).set t5.toNat (AV.agg [AV.int .i64 (fI ((h0.set t5.toNat (AV.agg [AV.int .i64 t1, AV.int .i64 (fI (h0.getD t5.toNat .undef) 1), AV.int .i64 (fI (h0.getD t5.toNat .undef) 2), AV.int .i64 (fI (h0.getD t5.toNat .undef) 3)])).getD t5.toNat .undef) 0), AV.int .i64 (IntKind.i64.wrap (t1 + 1)), AV.int .i64 (fI ((h0.set t5.toNat (AV.agg [AV.int .i64 t1, AV.int .i64 (fI (h0.getD t5.toNat .undef) 1), AV.int .i64 (fI (h0.getD t5.toNat .undef) 2), AV.int .i64 (fI (h0.getD t5.toNat .undef) 3)])).getD t5.toNat .undef) 2), AV.int .i64 (fI ((h0.set t5.toNat (AV.agg [AV.int .i64 t1, AV.int .i64 (fI (h0.getD t5.toNat .undef) 1), AV.int .i64 (fI (h0.getD t5.toNat .undef) 2), AV.int .i64 (fI (h0.getD t5.toNat .undef) 3)])).getD t5.toNat .undef) 3)])).getD t5.toNat .undef) 3)])).getD t5.toNat .undef) 2), AV.int .i64 (IntKind.i64.wrap (IntKind.i64.wrap (IntKind.i64.wrap (t1 + 1) + 1) + 1))]))
  else .fail)
  else .fail)
  else .fail)
  else .fail)
  else .stop (t1, h0))
def R13_0 : ((Int × Int × (List AV))) → Out ((Int × Int × (List AV))) ((Int × (List AV))) := fun s : Int × Int × (List AV) => F13_0 s.1 s.2.1 s.2.2
def l13_0 : LModel := fun _ _ st k => match st with
  | ⟨[(0, .own g0), (1, .int .i64 t1), (5, .int .i64 t5)], [(g1, ⟨false, g2, h0⟩)]⟩ => bif nmEq g0 ([1]) && nmEq g1 ([1]) && ctsEq g2 ([.int .i64, .int .i64, .int .i64, .int .i64]) then ro (runW (R13_0) (((h0.length : Int) - t5).toNat + 1) (t1, t5, h0)) none (fun p : Int × (List AV) => k (.exit 0) ⟨[(1, AV.int .i64 p.1)], [([1], ⟨false, [.int .i64, .int .i64, .int .i64, .int .i64], p.2⟩)]⟩) else none
  | _ => none
noncomputable def c13 : Cfg := cfg Try.prog [(13, 0, [0, 1, 5]), (13, 999, [4]), (13, 1000, [1]), (13, 1001, [0, 1, 5])] [] [] [] [(13, 0, l13_0)]
theorem s13_0 (ce : CallE) (t1 : Int) (t5 : Int) (h0 : List AV) (next : St → Option AV) (k : Kont) : stepA (codeA c13 ce [0] 13 0 (sub [1, 0, 1, 0, 0] (body Try.f13))) (normA [0] [0, 1, 5]) next ⟨[(0, AV.own [1]), (1, AV.int .i64 t1), (5, AV.int .i64 t5)], [([1], ⟨false, [.int .i64, .int .i64, .int .i64, .int .i64], h0⟩)]⟩ k = (bif decide (t5 < (h0.length : Int)) then (bif (decide (0 ≤ t5) && decide (t5 < (h0.length : Int))) then (bif (decide (0 ≤ t5) && decide (t5 < ((h0.set t5.toNat (AV.agg [AV.int .i64 t1, AV.int .i64 (fI (h0.getD t5.toNat .undef) 1), AV.int .i64 (fI (h0.getD t5.toNat .undef) 2), AV.int .i64 (fI (h0.getD t5.toNat .undef) 3)])).length : Int))) then (bif (decide (0 ≤ t5) && decide (t5 < (((h0.set t5.toNat (AV.agg [AV.int .i64 t1, AV.int .i64 (fI (h0.getD t5.toNat .undef) 1), AV.int .i64 (fI (h0.getD t5.toNat .undef) 2), AV.int .i64 (fI (h0.getD t5.toNat .undef) 3)])).set t5.toNat (AV.agg [AV.int .i64 (fI ((h0.set t5.toNat (AV.agg [AV.int .i64 t1, AV.int .i64 (fI (h0.getD t5.toNat .undef) 1), AV.int .i64 (fI (h0.getD t5.toNat .undef) 2), AV.int .i64 (fI (h0.getD t5.toNat .undef) 3)])).getD t5.toNat .undef) 0), AV.int .i64 (IntKind.i64.wrap (t1 + 1)), AV.int .i64 (fI ((h0.set t5.toNat (AV.agg [AV.int .i64 t1, AV.int .i64 (fI (h0.getD t5.toNat .undef) 1), AV.int .i64 (fI (h0.getD t5.toNat .undef) 2), AV.int .i64 (fI (h0.getD t5.toNat .undef) 3)])).getD t5.toNat .undef) 2), AV.int .i64 (fI ((h0.set t5.toNat (AV.agg [AV.int .i64 t1, AV.int .i64 (fI (h0.getD t5.toNat .undef) 1), AV.int .i64 (fI (h0.getD t5.toNat .undef) 2), AV.int .i64 (fI (h0.getD t5.toNat .undef) 3)])).getD t5.toNat .undef) 3)])).length : Int))) then (bif (decide (0 ≤ t5) && decide (t5 < ((((h0.set t5.toNat (AV.agg [AV.int .i64 t1, AV.int .i64 (fI (h0.getD t5.toNat .undef) 1), AV.int .i64 (fI (h0.getD t5.toNat .undef) 2), AV.int .i64 (fI (h0.getD t5.toNat .undef) 3)])).set t5.toNat (AV.agg [AV.int .i64 (fI ((h0.set t5.toNat (AV.agg [AV.int .i64 t1, AV.int .i64 (fI (h0.getD t5.toNat .undef) 1), AV.int .i64 (fI (h0.getD t5.toNat .undef) 2), AV.int .i64 (fI (h0.getD t5.toNat .undef) 3)])).getD t5.toNat .undef) 0), AV.int .i64 (IntKind.i64.wrap (t1 + 1)), AV.int .i64 (fI ((h0.set t5.toNat (AV.agg [AV.int .i64 t1, AV.int .i64 (fI (h0.getD t5.toNat .undef) 1), AV.int .i64 (fI (h0.getD t5.toNat .undef) 2), AV.int .i64 (fI (h0.getD t5.toNat .undef) 3)])).getD t5.toNat .undef) 2), AV.int .i64 (fI ((h0.set t5.toNat (AV.agg [AV.int .i64 t1, AV.int .i64 (fI (h0.getD t5.toNat .undef) 1), AV.int .i64 (fI (h0.getD t5.toNat .undef) 2), AV.int .i64 (fI (h0.getD t5.toNat .undef) 3)])).getD t5.toNat .undef) 3)])).set t5.toNat (AV.agg [AV.int .i64 (fI (((h0.set t5.toNat (AV.agg [AV.int .i64 t1, AV.int .i64 (fI (h0.getD t5.toNat .undef) 1), AV.int .i64 (fI (h0.getD t5.toNat .undef) 2), AV.int .i64 (fI (h0.getD t5.toNat .undef) 3)])).set t5.toNat (AV.agg [AV.int .i64 (fI ((h0.set t5.toNat (AV.agg [AV.int .i64 t1, AV.int .i64 (fI (h0.getD t5.toNat .undef) 1), AV.int .i64 (fI (h0.getD t5.toNat .undef) 2), AV.int .i64 (fI (h0.getD t5.toNat .undef) 3)])).getD t5.toNat .undef) 0), AV.int .i64 (IntKind.i64.wrap (t1 + 1)), AV.int .i64 (fI ((h0.set t5.toNat (AV.agg [AV.int .i64 t1, AV.int .i64 (fI (h0.getD t5.toNat .undef) 1), AV.int .i64 (fI (h0.getD t5.toNat .undef) 2), AV.int .i64 (fI (h0.getD t5.toNat .undef) 3)])).getD t5.toNat .undef) 2), AV.int .i64 (fI ((h0.set t5.toNat (AV.agg [AV.int .i64 t1, AV.int .i64 (fI (h0.getD t5.toNat .undef) 1), AV.int .i64 (fI (h0.getD t5.toNat .undef) 2), AV.int .i64 (fI (h0.getD t5.toNat .undef) 3)])).getD t5.toNat .undef) 3)])).getD t5.toNat .undef) 0), AV.int .i64 (fI (((h0.set t5.toNat (AV.agg [AV.int .i64 t1, AV.int .i64 (fI (h0.getD t5.toNat .undef) 1), AV.int .i64 (fI (h0.getD t5.toNat .undef) 2), AV.int .i64 (fI (h0.getD t5.toNat .undef) 3)])).set t5.toNat (AV.agg [AV.int .i64 (fI ((h0.set t5.toNat (AV.agg [AV.int .i64 t1, AV.int .i64 (fI (h0.getD t5.toNat .undef) 1), AV.int .i64 (fI (h0.getD t5.toNat .undef) 2), AV.int .i64 (fI (h0.getD t5.toNat .undef) 3)])).getD t5.toNat .undef) 0), AV.int .i64 (IntKind.i64.wrap (t1 + 1)), AV.int .i64 (fI ((h0.set t5.toNat (AV.agg [AV.int .i64 t1, AV.int .i64 (fI (h0.getD t5.toNat .undef) 1), AV.int .i64 (fI (h0.getD t5.toNat .undef) 2), AV.int .i64 (fI (h0.getD t5.toNat .undef) 3)])).getD t5.toNat .undef) 2), AV.int .i64 (fI ((h0.set t5.toNat (AV.agg [AV.int .i64 t1, AV.int .i64 (fI (h0.getD t5.toNat .undef) 1), AV.int .i64 (fI (h0.getD t5.toNat .undef) 2), AV.int .i64 (fI (h0.getD t5.toNat .undef) 3)])).getD t5.toNat .undef) 3)])).getD t5.toNat .undef) 1), AV.int .i64 (IntKind.i64.wrap (IntKind.i64.wrap (t1 + 1) + 1)), AV.int .i64 (fI (((h0.set t5.toNat (AV.agg [AV.int .i64 t1, AV.int .i64 (fI (h0.getD t5.toNat .undef) 1), AV.int .i64 (fI (h0.getD t5.toNat .undef) 2), AV.int .i64 (fI (h0.getD t5.toNat .undef) 3)])).set t5.toNat (AV.agg [AV.int .i64 (fI ((h0.set t5.toNat (AV.agg [AV.int .i64 t1, AV.int .i64 (fI (h0.getD t5.toNat .undef) 1), AV.int .i64 (fI (h0.getD t5.toNat .undef) 2), AV.int .i64 (fI (h0.getD t5.toNat .undef) 3)])).getD t5.toNat .undef) 0), AV.int .i64 (IntKind.i64.wrap (t1 + 1)), AV.int .i64 (fI ((h0.set t5.toNat (AV.agg [AV.int .i64 t1, AV.int .i64 (fI (h0.getD t5.toNat .undef) 1), AV.int .i64 (fI (h0.getD t5.toNat .undef) 2), AV.int .i64 (fI (h0.getD t5.toNat .undef) 3)])).getD t5.toNat .undef) 2), AV.int .i64 (fI ((h0.set t5.toNat (AV.agg [AV.int .i64 t1, AV.int .i64 (fI (h0.getD t5.toNat .undef) 1), AV.int .i64 (fI (h0.getD t5.toNat .undef) 2), AV.int .i64 (fI (h0.getD t5.toNat .undef) 3)])).getD t5.toNat .undef) 3)])).getD t5.toNat .undef) 3)])).length : Int))) then next ⟨[(0, AV.own [1]), (1, AV.int .i64 (IntKind.i64.wrap (IntKind.i64.wrap (IntKind.i64.wrap (IntKind.i64.wrap (t1 + 1) + 1) + 1) + 1))), (5, AV.int .i64 (IntKind.i64.wrap (t5 + 1)))], [([1], ⟨false, [.int .i64, .int .i64, .int .i64, .int .i64], (((h0.set t5.toNat (AV.agg [AV.int .i64 t1, AV.int .i64 (fI (h0.getD t5.toNat .undef) 1), AV.int .i64 (fI (h0.getD t5.toNat .undef) 2), AV.int .i64 (fI (h0.getD t5.toNat .undef) 3)])).set t5.toNat (AV.agg [AV.int .i64 (fI ((h0.set t5.toNat (AV.agg [AV.int .i64 t1, AV.int .i64 (fI (h0.getD t5.toNat .undef) 1), AV.int .i64 (fI (h0.getD t5.toNat .undef) 2), AV.int .i64 (fI (h0.getD t5.toNat .undef) 3)])).getD t5.toNat .undef) 0), AV.int .i64 (IntKind.i64.wrap (t1 + 1)), AV.int .i64 (fI ((h0.set t5.toNat (AV.agg [AV.int .i64 t1, AV.int .i64 (fI (h0.getD t5.toNat .undef) 1), AV.int .i64 (fI (h0.getD t5.toNat .undef) 2), AV.int .i64 (fI (h0.getD t5.toNat .undef) 3)])).getD t5.toNat .undef) 2), AV.int .i64 (fI ((h0.set t5.toNat (AV.agg [AV.int .i64 t1, AV.int .i64 (fI (h0.getD t5.toNat .undef) 1), AV.int .i64 (fI (h0.getD t5.toNat .undef) 2), AV.int .i64 (fI (h0.getD t5.toNat .undef) 3)])).getD t5.toNat .undef) 3)])).set t5.toNat (AV.agg [AV.int .i64 (fI (((h0.set t5.toNat (AV.agg [AV.int .i64 t1, AV.int .i64 (fI (h0.getD t5.toNat .undef) 1), AV.int .i64 (fI (h0.getD t5.toNat .undef) 2), AV.int .i64 (fI (h0.getD t5.toNat .undef) 3)])).set t5.toNat (AV.agg [AV.int .i64 (fI ((h0.set t5.toNat (AV.agg [AV.int .i64 t1, AV.int .i64 (fI (h0.getD t5.toNat .undef) 1), AV.int .i64 (fI (h0.getD t5.toNat .undef) 2), AV.int .i64 (fI (h0.getD t5.toNat .undef) 3)])).getD t5.toNat .undef) 0), AV.int .i64 (IntKind.i64.wrap (t1 + 1)), AV.int .i64 (fI ((h0.set t5.toNat (AV.agg [AV.int .i64 t1, AV.int .i64 (fI (h0.getD t5.toNat .undef) 1), AV.int .i64 (fI (h0.getD t5.toNat .undef) 2), AV.int .i64 (fI (h0.getD t5.toNat .undef) 3)])).getD t5.toNat .undef) 2), AV.int .i64 (fI ((h0.set t5.toNat (AV.agg [AV.int .i64 t1, AV.int .i64 (fI (h0.getD t5.toNat .undef) 1), AV.int .i64 (fI (h0.getD t5.toNat .undef) 2), AV.int .i64 (fI (h0.getD t5.toNat .undef) 3)])).getD t5.toNat .undef) 3)])).getD t5.toNat .undef) 0), AV.int .i64 (fI (((h0.set t5.toNat (AV.agg [AV.int .i64 t1, AV.int .i64 (fI (h0.getD t5.toNat .undef) 1), AV.int .i64 (fI (h0.getD t5.toNat .undef) 2), AV.int .i64 (fI (h0.getD t5.toNat .undef) 3)])).set t5.toNat (AV.agg [AV.int .i64 (fI ((h0.set t5.toNat (AV.agg [AV.int .i64 t1, AV.int .i64 (fI (h0.getD t5.toNat .undef) 1), AV.int .i64 (fI (h0.getD t5.toNat .undef) 2), AV.int .i64 (fI (h0.getD t5.toNat .undef) 3)])).getD t5.toNat .undef) 0), AV.int .i64 (IntKind.i64.wrap (t1 + 1)), AV.int .i64 (fI ((h0.set t5.toNat (AV.agg [AV.int .i64 t1, AV.int .i64 (fI (h0.getD t5.toNat .undef) 1), AV.int .i64 (fI (h0.getD t5.toNat .undef) 2), AV.int .i64 (fI (h0.getD t5.toNat .undef) 3)])).getD t5.toNat .undef) 2), AV.int .i64 (fI ((h0.set t5.toNat (AV.agg [AV.int .i64 t1, AV.int .i64 (fI (h0.getD t5.toNat .undef) 1), AV.int .i64 (fI (h0.getD t5.toNat .undef) 2), AV.int .i64 (fI (h0.getD t5.toNat .undef) 3)])).getD t5.toNat .undef) 3)])).getD t5.toNat .undef) 1), AV.int .i64 (IntKind.i64.wrap (IntKind.i64.wrap (t1 + 1) + 1)), AV.int .i64 (fI (((h0.set t5.toNat (AV.agg [AV.int .i64 t1, AV.int .i64 (fI (h0.getD t5.toNat .undef) 1), AV.int .i64 (fI (h0.getD t5.toNat .undef) 2), AV.int .i64 (fI (h0.getD t5.toNat .undef) 3)])).set t5.toNat (AV.agg [AV.int .i64 (fI ((h0.set t5.toNat (AV.agg [AV.int .i64 t1, AV.int .i64 (fI (h0.getD t5.toNat .undef) 1), AV.int .i64 (fI (h0.getD t5.toNat .undef) 2), AV.int .i64 (fI (h0.getD t5.toNat .undef) 3)])).getD t5.toNat .undef) 0), AV.int .i64 (IntKind.i64.wrap (t1 + 1)), AV.int .i64 (fI ((h0.set t5.toNat (AV.agg [AV.int .i64 t1, AV.int .i64 (fI (h0.getD t5.toNat .undef) 1), AV.int .i64 (fI (h0.getD t5.toNat .undef) 2), AV.int .i64 (fI (h0.getD t5.toNat .undef) 3)])).getD t5.toNat .undef) 2), AV.int .i64 (fI ((h0.set t5.toNat (AV.agg [AV.int .i64 t1, AV.int .i64 (fI (h0.getD t5.toNat .undef) 1), AV.int .i64 (fI (h0.getD t5.toNat .undef) 2), AV.int .i64 (fI (h0.getD t5.toNat .undef) 3)])).getD t5.toNat .undef) 3)])).getD t5.toNat .undef) 3)])).set t5.toNat (AV.agg [AV.int .i64 (fI ((((h0.set t5.toNat (AV.agg [AV.int .i64 t1, AV.int .i64 (fI (h0.getD t5.toNat .undef) 1), AV.int .i64 (fI (h0.getD t5.toNat .undef) 2), AV.int .i64 (fI (h0.getD t5.toNat .undef) 3)])).set t5.toNat (AV.agg [AV.int .i64 (fI ((h0.set t5.toNat (AV.agg [AV.int .i64 t1, AV.int .i64 (fI (h0.getD t5.toNat .undef) 1), AV.int .i64 (fI (h0.getD t5.toNat .undef) 2), AV.int .i64 (fI (h0.getD t5.toNat .undef) 3)])).getD t5.toNat .undef) 0), AV.int .i64 (IntKind.i64.wrap (t1 + 1)), AV.int .i64 (fI ((h0.set t5.toNat (AV.agg [AV.int .i64 t1, AV.int .i64 (fI (h0.getD t5.toNat .undef) 1), AV.int .i64 (fI (h0.getD t5.toNat .undef) 2), AV.int .i64 (fI (h0.getD t5.toNat .undef) 3)])).getD t5.toNat .undef) 2), AV.int .i64 (fI ((h0.set t5.toNat (AV.agg [AV.int .i64 t1, AV.int .i64 (fI (h0.getD t5.toNat .undef) 1), AV.int .i64 (fI (h0.getD t5.toNat .undef) 2), AV.int .i64 (fI (h0.getD t5.toNat .undef) 3)])).getD t5.toNat .undef) 3)])).set t5.toNat (AV.agg [AV.int .i64 (fI (((h0.set t5.toNat (AV.agg [AV.int .i64 t1, AV.int .i64 (fI (h0.getD t5.toNat .undef) 1), AV.int .i64 (fI (h0.getD t5.toNat .undef) 2), AV.int .i64 (fI (h0.getD t5.toNat .undef) 3)])).set t5.toNat (AV.agg [AV.int .i64 (fI ((h0.set t5.toNat (AV.agg [AV.int .i64 t1, AV.int .i64 (fI (h0.getD t5.toNat .undef) 1), AV.int .i64 (fI (h0.getD t5.toNat .undef) 2), AV.int .i64 (fI (h0.getD t5.toNat .undef) 3)])).getD t5.toNat .undef) 0), AV.int .i64 (IntKind.i64.wrap (t1 + 1)), AV.int .i64 (fI ((h0.set t5.toNat (AV.agg [AV.int .i64 t1, AV.int .i64 (fI (h0.getD t5.toNat .undef) 1), AV.int .i64 (fI (h0.getD t5.toNat .undef) 2), AV.int .i64 (fI (h0.getD t5.toNat .undef) 3)])).getD t5.toNat .undef) 2), AV.int .i64 (fI ((h0.set t5.toNat (AV.agg [AV.int .i64 t1, AV.int .i64 (fI (h0.getD t5.toNat .undef) 1), AV.int .i64 (fI (h0.getD t5.toNat .undef) 2), AV.int .i64 (fI (h0.getD t5.toNat .undef) 3)])).getD t5.toNat .undef) 3)])).getD t5.toNat .undef) 0), AV.int .i64 (fI (((h0.set t5.toNat (AV.agg [AV.int .i64 t1, AV.int .i64 (fI (h0.getD t5.toNat .undef) 1), AV.int .i64 (fI (h0.getD t5.toNat .undef) 2), AV.int .i64 (fI (h0.getD t5.toNat .undef) 3)])).set t5.toNat (AV.agg [AV.int .i64 (fI ((h0.set t5.toNat (AV.agg [AV.int .i64 t1, AV.int .i64 (fI (h0.getD t5.toNat .undef) 1), AV.int .i64 (fI (h0.getD t5.toNat .undef) 2), AV.int .i64 (fI (h0.getD t5.toNat .undef) 3)])).getD t5.toNat .undef) 0), AV.int .i64 (IntKind.i64.wrap (t1 + 1)), AV.int .i64 (fI ((h0.set t5.toNat (AV.agg [AV.int .i64 t1, AV.int .i64 (fI (h0.getD t5.toNat .undef) 1), AV.int .i64 (fI (h0.getD t5.toNat .undef) 2), AV.int .i64 (fI (h0.getD t5.toNat .undef) 3)])).getD t5.toNat .undef) 2), AV.int .i64 (fI ((h0.set t5.toNat (AV.agg [AV.int .i64 t1, AV.int .i64 (fI (h0.getD t5.toNat .undef) 1), AV.int .i64 (fI (h0.getD t5.toNat .undef) 2), AV.int .i64 (fI (h0.getD t5.toNat .undef) 3)])).getD t5.toNat .undef) 3)])).getD t5.toNat .undef) 1), AV.int .i64 (IntKind.i64.wrap (IntKind.i64.wrap (t1 + 1) + 1)), AV.int .i64 (fI (((h0.set t5.toNat (AV.agg [AV.int .i64 t1, AV.int .i64 (fI (h0.getD t5.toNat .undef) 1), AV.int .i64 (fI (h0.getD t5.toNat .undef) 2), AV.int .i64 (fI (h0.getD t5.toNat .undef) 3)])).set t5.toNat (AV.agg [AV.int .i64 (fI ((h0.set t5.toNat (AV.agg [AV.int .i64 t1, AV.int .i64 (fI (h0.getD t5.toNat .undef) 1), AV.int .i64 (fI (h0.getD t5.toNat .undef) 2), AV.int .i64 (fI (h0.getD t5.toNat .undef) 3)])).getD t5.toNat .undef) 0), AV.int .i64 (IntKind.i64.wrap (t1 + 1)), AV.int .i64 (fI ((h0.set t5.toNat (AV.agg [AV.int .i64 t1, AV.int .i64 (fI (h0.getD t5.toNat .undef) 1), AV.int .i64 (fI (h0.getD t5.toNat .undef) 2), AV.int .i64 (fI (h0.getD t5.toNat .undef) 3)])).getD t5.toNat .undef) 2), AV.int .i64 (fI ((h0.set t5.toNat (AV.agg [AV.int .i64 t1, AV.int .i64 (fI (h0.getD t5.toNat .undef) 1), AV.int .i64 (fI (h0.getD t5.toNat .undef) 2), AV.int .i64 (fI (h0.getD t5.toNat .undef) 3)])).getD t5.toNat .undef) 3)])).getD t5.toNat .undef) 3)])).getD t5.toNat .undef) 0), AV.int .i64 (fI ((((h0.set t5.toNat (AV.agg [AV.int .i64 t1, AV.int .i64 (fI (h0.getD t5.toNat .undef) 1), AV.int .i64 (fI (h0.getD t5.toNat .undef) 2), AV.int .i64 (fI (h0.getD t5.toNat .undef) 3)])).set t5.toNat (AV.agg [AV.int .i64 (fI ((h0.set t5.toNat (AV.agg [AV.int .i64 t1, AV.int .i64 (fI (h0.getD t5.toNat .undef) 1), AV.int .i64 (fI (h0.getD t5.toNat .undef) 2), AV.int .i64 (fI (h0.getD t5.toNat .undef) 3)])).getD t5.toNat .undef) 0), AV.int .i64 (IntKind.i64.wrap (t1 + 1)), AV.int .i64 (fI ((h0.set t5.toNat (AV.agg [AV.int .i64 t1, AV.int .i64 (fI (h0.getD t5.toNat .undef) 1), AV.int .i64 (fI (h0.getD t5.toNat .undef) 2), AV.int .i64 (fI (h0.getD t5.toNat .undef) 3)])).getD t5.toNat .undef) 2), AV.int .i64 (fI ((h0.set t5.toNat (AV.agg [AV.int .i64 t1, AV.int .i64 (fI (h0.getD t5.toNat .undef) 1), AV.int .i64 (fI (h0.getD t5.toNat .undef) 2), AV.int .i64 (fI (h0.getD t5.toNat .undef) 3)])).getD t5.toNat .undef) 3)])).set t5.toNat (AV.agg [AV.int .i64 (fI (((h0.set t5.toNat (AV.agg [AV.int .i64 t1, AV.int .i64 (fI (h0.getD t5.toNat .undef) 1), AV.int .i64 (fI (h0.getD t5.toNat .undef) 2), AV.int .i64 (fI (h0.getD t5.toNat .undef) 3)])).set t5.toNat (AV.agg [AV.int .i64 (fI ((h0.set t5.toNat (AV.agg [AV.int .i64 t1, AV.int .i64 (fI (h0.getD t5.toNat .undef) 1), AV.int .i64 (fI (h0.getD t5.toNat .undef) 2), AV.int .i64 (fI (h0.getD t5.toNat .undef) 3)])).getD t5.toNat .undef) 0), AV.int .i64 (IntKind.i64.wrap (t1 + 1)), AV.int .i64 (fI ((h0.set t5.toNat (AV.agg [AV.int .i64 t1, AV.int .i64 (fI (h0.getD t5.toNat .undef) 1), AV.int .i64 (fI (h0.getD t5.toNat .undef) 2), AV.int .i64 (fI (h0.getD t5.toNat .undef) 3)])).getD t5.toNat .undef) 2), AV.int .i64 (fI ((h0.set t5.toNat (AV.agg [AV.int .i64 t1, AV.int .i64 (fI (h0.getD t5.toNat .undef) 1), AV.int .i64 (fI (h0.getD t5.toNat .undef) 2), AV.int .i64 (fI (h0.getD t5.toNat .undef) 3)])).getD t5.toNat .undef) 3)])).getD t5.toNat .undef) 0), AV.int .i64 (fI (((h0.set t5.toNat (AV.agg [AV.int .i64 t1, AV.int .i64 (fI (h0.getD t5.toNat .undef) 1), AV.int .i64 (fI (h0.getD t5.toNat .undef) 2), AV.int .i64 (fI (h0.getD t5.toNat .undef) 3)])).set t5.toNat (AV.agg [AV.int .i64 (fI ((h0.set t5.toNat (AV.agg [AV.int .i64 t1, AV.int .i64 (fI (h0.getD t5.toNat .undef) 1), AV.int .i64 (fI (h0.getD t5.toNat .undef) 2), AV.int .i64 (fI (h0.getD t5.toNat .undef) 3)])).getD t5.toNat .undef) 0), AV.int .i64 (IntKind.i64.wrap (t1 + 1)), AV.int .i64 (fI ((h0.set t5.toNat (AV.agg [AV.int .i64 t1, AV.int .i64 (fI (h0.getD t5.toNat .undef) 1), AV.int .i64 (fI (h0.getD t5.toNat .undef) 2), AV.int .i64 (fI (h0.getD t5.toNat .undef) 3)])).getD t5.toNat .undef) 2), AV.int .i64 (fI ((h0.set t5.toNat (AV.agg [AV.int .i64 t1, AV.int .i64 (fI (h0.getD t5.toNat .undef) 1), AV.int .i64 (fI (h0.getD t5.toNat .undef) 2), AV.int .i64 (fI (h0.getD t5.toNat .undef) 3)])).getD t5.toNat .undef) 3)])).getD t5.toNat .undef) 1), AV.int .i64 (IntKind.i64.wrap (IntKind.i64.wrap (t1 + 1) + 1)), AV.int .i64 (fI (((h0.set t5.toNat (AV.agg [AV.int .i64 t1, AV.int .i64 (fI (h0.getD t5.toNat .undef) 1), AV.int .i64 (fI (h0.getD t5.toNat .undef) 2), AV.int .i64 (fI (h0.getD t5.toNat .undef) 3)])).set t5.toNat (AV.agg [AV.int .i64 (fI ((h0.set t5.toNat (AV.agg [AV.int .i64 t1, AV.int .i64 (fI (h0.getD t5.toNat .undef) 1), AV.int .i64 (fI (h0.getD t5.toNat .undef) 2), AV.int .i64 (fI (h0.getD t5.toNat .undef) 3)])).getD t5.toNat .undef) 0), AV.int .i64 (IntKind.i64.wrap (t1 + 1)), AV.int .i64 (fI ((h0.set t5.toNat (AV.agg [AV.int .i64 t1, AV.int .i64 (fI (h0.getD t5.toNat .undef) 1), AV.int .i64 (fI (h0.getD t5.toNat .undef) 2), AV.int .i64 (fI (h0.getD t5.toNat .undef) 3)])).getD t5.toNat .undef) 2), AV.int .i64 (fI ((h0.set t5.toNat (AV.agg [AV.int .i64 t1, AV.int .i64 (fI (h0.getD t5.toNat .undef) 1), AV.int .i64 (fI (h0.getD t5.toNat .undef) 2), AV.int .i64 (fI (h0.getD t5.toNat .undef) 3)])).getD t5.toNat .undef) 3)])).getD t5.toNat .undef) 3)])).getD t5.toNat .undef) 1), AV.int .i64 (fI ((((h0.set t5.toNat (AV.agg [AV.int .i64 t1, AV.int .i64 (fI (h0.getD t5.toNat .undef) 1), AV.int .i64 (fI (h0.getD t5.toNat .undef) 2), AV.int .i64 (fI (h0.getD t5.toNat .undef) 3)])).set t5.toNat (AV.agg [AV.int .i64 (fI ((h0.set t5.toNat (AV.agg [AV.int .i64 t1, AV.int .i64 (fI (h0.getD t5.toNat .undef) 1), AV.int .i64 (fI (h0.getD t5.toNat .undef) 2), AV.int .i64 (fI (h0.getD t5.toNat .undef) 3)])).getD t5.toNat .undef) 0), AV.int .i64 (IntKind.i64.wrap (t1 + 1)), AV.int .i64 (fI ((h0.set t5.toNat (AV.agg [AV.int .i64 t1, AV.int .i64 (fI (h0.getD t5.toNat .undef) 1), AV.int .i64 (fI (h0.getD t5.toNat .undef) 2), AV.int .i64 (fI (h0.getD t5.toNat .undef) 3)])).getD t5.toNat .undef) 2), AV.int .i64 (fI ((h0.set t5.toNat (AV.agg [AV.int .i64 t1, AV.int .i64 (fI (h0.getD t5.toNat .undef) 1), AV.int .i64 (fI (h0.getD t5.toNat .undef) 2), AV.int .i64 (fI (h0.getD t5.toNat .undef) 3)])).getD t5.toNat .undef) 3)])).set t5.toNat (AV.agg [AV.int .i64 (fI (((h0.set t5.toNat (AV.agg [AV.int .i64 t1, AV.int .i64 (fI (h0.getD t5.toNat .undef) 1), AV.int .i64 (fI (h0.getD t5.toNat .undef) 2), AV.int .i64 (fI (h0.getD t5.toNat .undef) 3)])).set t5.toNat (AV.agg [AV.int .i64 (fI ((h0.set t5.toNat (AV.agg [AV.int .i64 t1, AV.int .i64 (fI (h0.getD t5.toNat .undef) 1), AV.int .i64 (fI (h0.getD t5.toNat .undef) 2), AV.int .i64 (fI (h0.getD t5.toNat .undef) 3)])).getD t5.toNat .undef) 0), AV.int .i64 (IntKind.i64.wrap (t1 + 1)), AV.int .i64 (fI ((h0.set t5.toNat (AV.agg [AV.int .i64 t1, AV.int .i64 (fI (h0.getD t5.toNat .undef) 1), AV.int .i64 (fI (h0.getD t5.toNat .undef) 2), AV.int .i64 (fI (h0.getD t5.toNat .undef) 3)])).getD t5.toNat .undef) 2), AV.int .i64 (fI ((h0.set t5.toNat (AV.agg [AV.int .i64 t1, AV.int .i64 (fI (h0.getD t5.toNat .undef) 1), AV.int .i64 (fI (h0.getD t5.toNat .undef) 2), AV.int .i64 (fI (h0.getD t5.toNat .undef) 3)])).getD t5.toNat .undef) 3)])).getD t5.toNat .undef) 0), AV.int .i64 (fI (((h0.set t5.toNat (AV.agg [AV.int .i64 t1, AV.int .i64 (fI (h0.getD t5.toNat .undef) 1), AV.int .i64 (fI (h0.getD t5.toNat .undef) 2), AV.int .i64 (fI (h0.getD t5.toNat .undef) 3)])).set t5.toNat (AV.agg [AV.int .i64 (fI ((h0.set t5.toNat (AV.agg [AV.int .i64 t1, AV.int .i64 (fI (h0.getD t5.toNat .undef) 1), AV.int .i64 (fI (h0.getD t5.toNat .undef) 2), AV.int .i64 (fI (h0.getD t5.toNat .undef) 3)])).getD t5.toNat .undef) 0), AV.int .i64 (IntKind.i64.wrap (t1 + 1)), AV.int .i64 (fI ((h0.set t5.toNat (AV.agg [AV.int .i64 t1, AV.int .i64 (fI (h0.getD t5.toNat .undef) 1), AV.int .i64 (fI (h0.getD t5.toNat .undef) 2), AV.int .i64 (fI (h0.getD t5.toNat .undef) 3)])).getD t5.toNat .undef) 2), AV.int .i64 (fI ((h0.set t5.toNat (AV.agg [AV.int .i64 t1, AV.int .i64 (fI (h0.getD t5.toNat .undef) 1), AV.int .i64 (fI (h0.getD t5.toNat .undef) 2), AV.int .i64 (fI (h0.getD t5.toNat .undef) 3)])).getD t5.toNat .undef) 3)])).getD t5.toNat .undef) 1), AV.int .i64 (IntKind.i64.wrap (IntKind.i64.wrap (t1 + 1) + 1)), AV.int .i64 (fI (((h0.set t5.toNat (AV.agg [AV.int .i64 t1, AV.int .i64 (fI (h0.getD t5.toNat .undef) 1), AV.int .i64 (fI (h0.getD t5.toNat .undef) 2), AV.int .i64 (fI (h0.getD t5.toNat .undef) 3)])).set t5.toNat (AV.agg [AV.int .i64 (fI ((h0.set t5.toNat (AV.agg [AV.int .i64 t1, AV.int .i64 (fI (h0.getD t5.toNat .undef) 1), AV.int .i64 (fI (h0.getD t5.toNat .undef) 2), AV.int .i64 (fI (h0.getD t5.toNat .undef) 3)])).getD t5.toNat .undef) 0), AV.int .i64 (IntKind.i64.wrap (t1 + 1)), AV.int .i64 (fI ((h0.set t5.toNat (AV.agg [AV.int .i64 t1, AV.int .i64 (fI (h0.getD t5.toNat .undef) 1), AV.int .i64 (fI (h0.getD t5.toNat .undef) 2), AV.int .i64 (fI (h0.getD t5.toNat .undef) 3)])).getD t5.toNat .undef) 2), AV.int .i64 (fI ((h0.set t5.toNat (AV.agg [AV.int .i64 t1, AV.int .i64 (fI (h0.getD t5.toNat .undef) 1), AV.int .i64 (fI (h0.getD t5.toNat .undef) 2), AV.int .i64 (fI (h0.getD t5.toNat .undef) 3)])).getD t5.toNat .undef) 3)])).getD t5.toNat .undef) 3)])).getD t5.toNat .undef) 2), AV.int .i64 (IntKind.i64.wrap (IntKind.i64.wrap (IntKind.i64.wrap (t1 + 1) + 1) + 1))])⟩)]⟩
  else none)
  else none)
  else none)
  else none)
  else k (.exit 0) ⟨[(1, AV.int .i64 t1)], [([1], ⟨false, [.int .i64, .int .i64, .int .i64, .int .i64], h0⟩)]⟩) := by kernel_rfl
theorem st13_0 (ce : CallE) (k : Kont) (s : (Int × Int × (List AV))) (next : St → Option AV) : stepA (codeA c13 ce [0] 13 0 (sub [1, 0, 1, 0, 0] (body Try.f13))) (normA [0] [0, 1, 5]) next ((fun s : Int × Int × (List AV) => ⟨[(0, AV.own [1]), (1, AV.int .i64 s.1), (5, AV.int .i64 s.2.1)], [([1], ⟨false, [.int .i64, .int .i64, .int .i64, .int .i64], s.2.2⟩)]⟩) s) k = (R13_0 s).el none (fun s => next ((fun s : Int × Int × (List AV) => ⟨[(0, AV.own [1]), (1, AV.int .i64 s.1), (5, AV.int .i64 s.2.1)], [([1], ⟨false, [.int .i64, .int .i64, .int .i64, .int .i64], s.2.2⟩)]⟩) s)) (fun p : Int × (List AV) => k (.exit 0) ⟨[(1, AV.int .i64 p.1)], [([1], ⟨false, [.int .i64, .int .i64, .int .i64, .int .i64], p.2⟩)]⟩) := (s13_0 ce s.1 s.2.1 s.2.2 next k).trans (by unfold R13_0; unfold F13_0; simp only [el_cond, el_ro, el_sum, el_fail, el_next, el_stop] <;> rfl)
theorem ok13_0 {ce : CallE} : LoopOK c13 ce [0] 13 0 (sub [1, 0, 1, 0, 0] (body Try.f13)) := by
  intro m hm st k r h
  obtain rfl : l13_0 = m := Option.some.inj hm
  unfold l13_0 at h
  split at h
  · rename_i g0 t1 t5 g1 g2 h0
    obtain ⟨hg, h⟩ := bif_some h
    simp only [Bool.and_eq_true] at hg
    obtain ⟨⟨q0, q1⟩, q2⟩ := hg
    obtain rfl := (nmEq_iff _ _).1 q0
    obtain rfl := (nmEq_iff _ _).1 q1
    obtain rfl := ctsEq_eq _ _ q2
    refine ⟨(((h0.length : Int) - t5).toNat + 1), ?_⟩
    rw [← h]
    exact loop_run (fun s : Int × Int × (List AV) => ⟨[(0, AV.own [1]), (1, AV.int .i64 s.1), (5, AV.int .i64 s.2.1)], [([1], ⟨false, [.int .i64, .int .i64, .int .i64, .int .i64], s.2.2⟩)]⟩) (fun p : Int × (List AV) => k (.exit 0) ⟨[(1, AV.int .i64 p.1)], [([1], ⟨false, [.int .i64, .int .i64, .int .i64, .int .i64], p.2⟩)]⟩) (st13_0 ce k) _ (t1, t5, h0)
  · cases h
def q13 (a1 : Int) (b0 : List AV) : Bool := (ro (runW (R13_0) (((b0.length : Int) - 0).toNat + 1) (a1, 0, b0)) false (fun p76 => true))
def v13_0 (a1 : Int) (b0 : List AV) : Int := (ro (runW (R13_0) (((b0.length : Int) - 0).toNat + 1) (a1, 0, b0)) 0 (fun p76 => p76.1))
def v13_1 (a1 : Int) (b0 : List AV) : List AV := (ro (runW (R13_0) (((b0.length : Int) - 0).toNat + 1) (a1, 0, b0)) [] (fun p76 => p76.2))
theorem e13 (a1 : Int) (b0 : List AV) (K : AV → List Blk → Option AV) : inlA c13 1 13 [AV.own [1], AV.int .i64 a1] [0] (canH 1 [⟨false, [.int .i64, .int .i64, .int .i64, .int .i64], b0⟩]) (keepB 1 K) = (ro (runW (R13_0) (((b0.length : Int) - 0).toNat + 1) (a1, 0, b0)) none (fun p76 => K (AV.int .i64 p76.1) [⟨false, [.int .i64, .int .i64, .int .i64, .int .i64], p76.2⟩])) := by kernel_rfl
theorem r13 (a1 : Int) (b0 : List AV) (K : AV → List Blk → Option AV) (h : q13 a1 b0 = true) : inlA c13 1 13 [AV.own [1], AV.int .i64 a1] [0] (canH 1 [⟨false, [.int .i64, .int .i64, .int .i64, .int .i64], b0⟩]) (keepB 1 K) = K (AV.int .i64 (v13_0 a1 b0)) [⟨false, [.int .i64, .int .i64, .int .i64, .int .i64], (v13_1 a1 b0)⟩] := (e13 a1 b0 K).trans ((brO (fun o : Option ((Int × (List AV))) => K (AV.int .i64 (ro o 0 (fun p76 => p76.1))) [⟨false, [.int .i64, .int .i64, .int .i64, .int .i64], (ro o [] (fun p76 => p76.2))⟩]) (fun p76 => (fun _ => rfl))) h)
def m13 : WModel
  | [.own g0, .int .i64 a1], [⟨false, g1, b0⟩] => bif nmEq g0 ([1]) && ctsEq g1 ([.int .i64, .int .i64, .int .i64, .int .i64]) then some (q13 a1 b0, AV.int .i64 (v13_0 a1 b0), [⟨false, [.int .i64, .int .i64, .int .i64, .int .i64], (v13_1 a1 b0)⟩]) else none
  | _, _ => none
theorem k13 : Known Try.prog 13 := ⟨Try.f13, Try.func13, by kernel_rfl, by kernel_rfl⟩
theorem meets13 : MeetsM Try.prog 13 m13 := by
  refine meetM (f := Try.f13) (l := [(0, sub [1, 0, 1, 0, 0] (body Try.f13))]) (hs := [(13, 0, [0, 1, 5]), (13, 999, [4]), (13, 1000, [1]), (13, 1001, [0, 1, 5])]) (ts := []) (ws := []) (is := []) (ls := [(13, 0, l13_0)]) (lvl := 0) mixed k13 Try.func13 (by kernel_rfl) (loops_cons ok13_0 noLoop) allT_nil allM_nil noI fun C w xs us bs r bs' hl hv hh h K => ?_
  unfold m13 at h
  split at h
  · rename_i g0 a1 g1 b0
    obtain ⟨hg, h⟩ := bif_pair h
    simp only [Bool.and_eq_true] at hg
    obtain ⟨q0, q1⟩ := hg
    obtain rfl := (nmEq_iff _ _).1 q0
    obtain rfl := ctsEq_eq _ _ q1
    obtain ⟨h1, rfl, rfl⟩ := trip_inj h
    exact r13 a1 b0 K h1
  · cases h

/-! ### 25 loop.example/g01984/laws.markPivotS -/
def F25_0 (t1 : Int) (t5 : Int) (h0 : List AV) : Out ((Int × Int × (List AV))) ((Int × (List AV))) := (bif decide (t5 < (h0.length : Int)) then (bif (decide (0 ≤ t5) && decide (t5 < (h0.length : Int))) then (bif (decide (0 ≤ t5) && decide (t5 < ((h0.set t5.toNat (AV.agg [AV.int .i64 t1, AV.int .i64 (fI (h0.getD t5.toNat .undef) 1)])).length : Int))) then .next (IntKind.i64.wrap (IntKind.i64.wrap (t1 + 1) + 1), IntKind.i64.wrap (t5 + 1), (h0.set t5.toNat (AV.agg [AV.int .i64 t1, AV.int .i64 (fI (h0.getD t5.toNat .undef) 1)])).set t5.toNat (AV.agg [AV.int .i64 (fI ((h0.set t5.toNat (AV.agg [AV.int .i64 t1, AV.int .i64 (fI (h0.getD t5.toNat .undef) 1)])).getD t5.toNat .undef) 0), AV.int .i64 (IntKind.i64.wrap (t1 + 1))]))
  else .fail)
  else .fail)
  else .stop (t1, h0))
def R25_0 : ((Int × Int × (List AV))) → Out ((Int × Int × (List AV))) ((Int × (List AV))) := fun s : Int × Int × (List AV) => F25_0 s.1 s.2.1 s.2.2
def l25_0 : LModel := fun _ _ st k => match st with
  | ⟨[(0, .own g0), (1, .int .i64 t1), (5, .int .i64 t5)], [(g1, ⟨false, g2, h0⟩)]⟩ => bif nmEq g0 ([1]) && nmEq g1 ([1]) && ctsEq g2 ([.int .i64, .int .i64]) then ro (runW (R25_0) (((h0.length : Int) - t5).toNat + 1) (t1, t5, h0)) none (fun p : Int × (List AV) => k (.exit 0) ⟨[(1, AV.int .i64 p.1)], [([1], ⟨false, [.int .i64, .int .i64], p.2⟩)]⟩) else none
  | _ => none
noncomputable def c25 : Cfg := cfg Try.prog [(25, 0, [0, 1, 5]), (25, 999, [4]), (25, 1000, [1]), (25, 1001, [0, 1, 5])] [] [] [] [(25, 0, l25_0)]
theorem s25_0 (ce : CallE) (t1 : Int) (t5 : Int) (h0 : List AV) (next : St → Option AV) (k : Kont) : stepA (codeA c25 ce [0] 25 0 (sub [1, 0, 1, 0, 0] (body Try.f25))) (normA [0] [0, 1, 5]) next ⟨[(0, AV.own [1]), (1, AV.int .i64 t1), (5, AV.int .i64 t5)], [([1], ⟨false, [.int .i64, .int .i64], h0⟩)]⟩ k = (bif decide (t5 < (h0.length : Int)) then (bif (decide (0 ≤ t5) && decide (t5 < (h0.length : Int))) then (bif (decide (0 ≤ t5) && decide (t5 < ((h0.set t5.toNat (AV.agg [AV.int .i64 t1, AV.int .i64 (fI (h0.getD t5.toNat .undef) 1)])).length : Int))) then next ⟨[(0, AV.own [1]), (1, AV.int .i64 (IntKind.i64.wrap (IntKind.i64.wrap (t1 + 1) + 1))), (5, AV.int .i64 (IntKind.i64.wrap (t5 + 1)))], [([1], ⟨false, [.int .i64, .int .i64], (h0.set t5.toNat (AV.agg [AV.int .i64 t1, AV.int .i64 (fI (h0.getD t5.toNat .undef) 1)])).set t5.toNat (AV.agg [AV.int .i64 (fI ((h0.set t5.toNat (AV.agg [AV.int .i64 t1, AV.int .i64 (fI (h0.getD t5.toNat .undef) 1)])).getD t5.toNat .undef) 0), AV.int .i64 (IntKind.i64.wrap (t1 + 1))])⟩)]⟩
  else none)
  else none)
  else k (.exit 0) ⟨[(1, AV.int .i64 t1)], [([1], ⟨false, [.int .i64, .int .i64], h0⟩)]⟩) := by kernel_rfl
theorem st25_0 (ce : CallE) (k : Kont) (s : (Int × Int × (List AV))) (next : St → Option AV) : stepA (codeA c25 ce [0] 25 0 (sub [1, 0, 1, 0, 0] (body Try.f25))) (normA [0] [0, 1, 5]) next ((fun s : Int × Int × (List AV) => ⟨[(0, AV.own [1]), (1, AV.int .i64 s.1), (5, AV.int .i64 s.2.1)], [([1], ⟨false, [.int .i64, .int .i64], s.2.2⟩)]⟩) s) k = (R25_0 s).el none (fun s => next ((fun s : Int × Int × (List AV) => ⟨[(0, AV.own [1]), (1, AV.int .i64 s.1), (5, AV.int .i64 s.2.1)], [([1], ⟨false, [.int .i64, .int .i64], s.2.2⟩)]⟩) s)) (fun p : Int × (List AV) => k (.exit 0) ⟨[(1, AV.int .i64 p.1)], [([1], ⟨false, [.int .i64, .int .i64], p.2⟩)]⟩) := (s25_0 ce s.1 s.2.1 s.2.2 next k).trans (by unfold R25_0; unfold F25_0; simp only [el_cond, el_ro, el_sum, el_fail, el_next, el_stop] <;> rfl)
theorem ok25_0 {ce : CallE} : LoopOK c25 ce [0] 25 0 (sub [1, 0, 1, 0, 0] (body Try.f25)) := by
  intro m hm st k r h
  obtain rfl : l25_0 = m := Option.some.inj hm
  unfold l25_0 at h
  split at h
  · rename_i g0 t1 t5 g1 g2 h0
    obtain ⟨hg, h⟩ := bif_some h
    simp only [Bool.and_eq_true] at hg
    obtain ⟨⟨q0, q1⟩, q2⟩ := hg
    obtain rfl := (nmEq_iff _ _).1 q0
    obtain rfl := (nmEq_iff _ _).1 q1
    obtain rfl := ctsEq_eq _ _ q2
    refine ⟨(((h0.length : Int) - t5).toNat + 1), ?_⟩
    rw [← h]
    exact loop_run (fun s : Int × Int × (List AV) => ⟨[(0, AV.own [1]), (1, AV.int .i64 s.1), (5, AV.int .i64 s.2.1)], [([1], ⟨false, [.int .i64, .int .i64], s.2.2⟩)]⟩) (fun p : Int × (List AV) => k (.exit 0) ⟨[(1, AV.int .i64 p.1)], [([1], ⟨false, [.int .i64, .int .i64], p.2⟩)]⟩) (st25_0 ce k) _ (t1, t5, h0)
  · cases h
def q25 (a1 : Int) (b0 : List AV) : Bool := (ro (runW (R25_0) (((b0.length : Int) - 0).toNat + 1) (a1, 0, b0)) false (fun p77 => true))
def v25_0 (a1 : Int) (b0 : List AV) : Int := (ro (runW (R25_0) (((b0.length : Int) - 0).toNat + 1) (a1, 0, b0)) 0 (fun p77 => p77.1))
def v25_1 (a1 : Int) (b0 : List AV) : List AV := (ro (runW (R25_0) (((b0.length : Int) - 0).toNat + 1) (a1, 0, b0)) [] (fun p77 => p77.2))
theorem e25 (a1 : Int) (b0 : List AV) (K : AV → List Blk → Option AV) : inlA c25 1 25 [AV.own [1], AV.int .i64 a1] [0] (canH 1 [⟨false, [.int .i64, .int .i64], b0⟩]) (keepB 1 K) = (ro (runW (R25_0) (((b0.length : Int) - 0).toNat + 1) (a1, 0, b0)) none (fun p77 => K (AV.int .i64 p77.1) [⟨false, [.int .i64, .int .i64], p77.2⟩])) := by kernel_rfl
theorem r25 (a1 : Int) (b0 : List AV) (K : AV → List Blk → Option AV) (h : q25 a1 b0 = true) : inlA c25 1 25 [AV.own [1], AV.int .i64 a1] [0] (canH 1 [⟨false, [.int .i64, .int .i64], b0⟩]) (keepB 1 K) = K (AV.int .i64 (v25_0 a1 b0)) [⟨false, [.int .i64, .int .i64], (v25_1 a1 b0)⟩] := (e25 a1 b0 K).trans ((brO (fun o : Option ((Int × (List AV))) => K (AV.int .i64 (ro o 0 (fun p77 => p77.1))) [⟨false, [.int .i64, .int .i64], (ro o [] (fun p77 => p77.2))⟩]) (fun p77 => (fun _ => rfl))) h)
def m25 : WModel
  | [.own g0, .int .i64 a1], [⟨false, g1, b0⟩] => bif nmEq g0 ([1]) && ctsEq g1 ([.int .i64, .int .i64]) then some (q25 a1 b0, AV.int .i64 (v25_0 a1 b0), [⟨false, [.int .i64, .int .i64], (v25_1 a1 b0)⟩]) else none
  | _, _ => none
theorem k25 : Known Try.prog 25 := ⟨Try.f25, Try.func25, by kernel_rfl, by kernel_rfl⟩
theorem meets25 : MeetsM Try.prog 25 m25 := by
  refine meetM (f := Try.f25) (l := [(0, sub [1, 0, 1, 0, 0] (body Try.f25))]) (hs := [(25, 0, [0, 1, 5]), (25, 999, [4]), (25, 1000, [1]), (25, 1001, [0, 1, 5])]) (ts := []) (ws := []) (is := []) (ls := [(25, 0, l25_0)]) (lvl := 0) mixed k25 Try.func25 (by kernel_rfl) (loops_cons ok25_0 noLoop) allT_nil allM_nil noI fun C w xs us bs r bs' hl hv hh h K => ?_
  unfold m25 at h
  split at h
  · rename_i g0 a1 g1 b0
    obtain ⟨hg, h⟩ := bif_pair h
    simp only [Bool.and_eq_true] at hg
    obtain ⟨q0, q1⟩ := hg
    obtain rfl := (nmEq_iff _ _).1 q0
    obtain rfl := ctsEq_eq _ _ q1
    obtain ⟨h1, rfl, rfl⟩ := trip_inj h
    exact r25 a1 b0 K h1
  · cases h

/-! ### 14 loop.example/g01984/laws.markCracker -/
noncomputable def c14 : Cfg := cfg Try.prog [(14, 999, [4])] [] [(12, m12), (25, m25)] [] []
def q14 (a1 : Int) (b0 : List AV) (b1 : List AV) (b2 : List AV) : Bool := (q12 a1 b0 && (q12 (v12_0 a1 b0) b1 && q25 (v12_0 (v12_0 a1 b0) b1) b2))
def v14_0 (a1 : Int) (b0 : List AV) (b1 : List AV) (b2 : List AV) : Int := (v25_0 (v12_0 (v12_0 a1 b0) b1) b2)
def v14_1 (a1 : Int) (b0 : List AV) (b1 : List AV) (b2 : List AV) : List AV := (v12_1 a1 b0)
def v14_2 (a1 : Int) (b0 : List AV) (b1 : List AV) (b2 : List AV) : List AV := (v12_1 (v12_0 a1 b0) b1)
def v14_3 (a1 : Int) (b0 : List AV) (b1 : List AV) (b2 : List AV) : List AV := (v25_1 (v12_0 (v12_0 a1 b0) b1) b2)
theorem e14 (a1 : Int) (b0 : List AV) (b1 : List AV) (b2 : List AV) (K : AV → List Blk → Option AV) : inlA c14 1 14 [AV.agg [AV.own [1], AV.own [2], AV.own [3]], AV.int .i64 a1] [0] (canH 1 [⟨false, [.int .i64], b0⟩, ⟨false, [.int .i64], b1⟩, ⟨false, [.int .i64, .int .i64], b2⟩]) (keepB 3 K) = (bif q12 a1 b0 then (bif q12 (v12_0 a1 b0) b1 then (bif q25 (v12_0 (v12_0 a1 b0) b1) b2 then K (AV.int .i64 (v25_0 (v12_0 (v12_0 a1 b0) b1) b2)) [⟨false, [.int .i64], (v12_1 a1 b0)⟩, ⟨false, [.int .i64], (v12_1 (v12_0 a1 b0) b1)⟩, ⟨false, [.int .i64, .int .i64], (v25_1 (v12_0 (v12_0 a1 b0) b1) b2)⟩]
  else none)
  else none)
  else none) := by kernel_rfl
theorem r14 (a1 : Int) (b0 : List AV) (b1 : List AV) (b2 : List AV) (K : AV → List Blk → Option AV) (h : q14 a1 b0 b1 b2 = true) : inlA c14 1 14 [AV.agg [AV.own [1], AV.own [2], AV.own [3]], AV.int .i64 a1] [0] (canH 1 [⟨false, [.int .i64], b0⟩, ⟨false, [.int .i64], b1⟩, ⟨false, [.int .i64, .int .i64], b2⟩]) (keepB 3 K) = K (AV.int .i64 (v14_0 a1 b0 b1 b2)) [⟨false, [.int .i64], (v14_1 a1 b0 b1 b2)⟩, ⟨false, [.int .i64], (v14_2 a1 b0 b1 b2)⟩, ⟨false, [.int .i64, .int .i64], (v14_3 a1 b0 b1 b2)⟩] := (e14 a1 b0 b1 b2 K).trans ((brL (brL (brL1 (fun _ => rfl)))) h)
def m14 : WModel
  | [.agg [.own g0, .own g1, .own g2], .int .i64 a1], [⟨false, g3, b0⟩, ⟨false, g4, b1⟩, ⟨false, g5, b2⟩] => bif nmEq g0 ([1]) && nmEq g1 ([2]) && nmEq g2 ([3]) && ctsEq g3 ([.int .i64]) && ctsEq g4 ([.int .i64]) && ctsEq g5 ([.int .i64, .int .i64]) then some (q14 a1 b0 b1 b2, AV.int .i64 (v14_0 a1 b0 b1 b2), [⟨false, [.int .i64], (v14_1 a1 b0 b1 b2)⟩, ⟨false, [.int .i64], (v14_2 a1 b0 b1 b2)⟩, ⟨false, [.int .i64, .int .i64], (v14_3 a1 b0 b1 b2)⟩]) else none
  | _, _ => none
theorem k14 : Known Try.prog 14 := ⟨Try.f14, Try.func14, by kernel_rfl, by kernel_rfl⟩
theorem meets14 : MeetsM Try.prog 14 m14 := by
  refine meetM (f := Try.f14) (l := []) (hs := [(14, 999, [4])]) (ts := []) (ws := [(12, m12), (25, m25)]) (is := []) (ls := []) (lvl := 0) mixed k14 Try.func14 (by kernel_rfl) noLoop allT_nil (allM_cons meets12 (allM_cons meets25 allM_nil)) noI fun C w xs us bs r bs' hl hv hh h K => ?_
  unfold m14 at h
  split at h
  · rename_i g0 g1 g2 a1 g3 b0 g4 b1 g5 b2
    obtain ⟨hg, h⟩ := bif_pair h
    simp only [Bool.and_eq_true] at hg
    obtain ⟨⟨⟨⟨⟨q0, q1⟩, q2⟩, q3⟩, q4⟩, q5⟩ := hg
    obtain rfl := (nmEq_iff _ _).1 q0
    obtain rfl := (nmEq_iff _ _).1 q1
    obtain rfl := (nmEq_iff _ _).1 q2
    obtain rfl := ctsEq_eq _ _ q3
    obtain rfl := ctsEq_eq _ _ q4
    obtain rfl := ctsEq_eq _ _ q5
    obtain ⟨h1, rfl, rfl⟩ := trip_inj h
    exact r14 a1 b0 b1 b2 K h1
  · cases h

/-! ### 26 loop.example/g01984/laws.heldIntS -/
def F26_0 (t0 : List AV) (t1 : Int) (t5 : Int) : Out ((Int × Int)) (Int ⊕ Unit) := (bif decide (t5 < (t0.length : Int)) then (bif (decide (0 ≤ t5) && decide (t5 < (t0.length : Int))) then (bif !decide (fI (t0.getD t5.toNat .undef) 0 = t1) then .stop (.inr ())
  else .next (IntKind.i64.wrap (t1 + 1), IntKind.i64.wrap (t5 + 1)))
  else .fail)
  else .stop (.inl t1))
def R26_0 (t0 : List AV) : ((Int × Int)) → Out ((Int × Int)) (Int ⊕ Unit) := fun s : Int × Int => F26_0 t0 s.1 s.2
def l26_0 : LModel := fun _ _ st k => match st with
  | ⟨[(0, .sl g0 t0), (1, .int .i64 t1), (5, .int .i64 t5)], []⟩ => bif ctsEq g0 ([.int .i64]) then ro (runW (R26_0 t0) (((t0.length : Int) - t5).toNat + 1) (t1, t5)) none (sumE (fun p : Int => k (.exit 0) ⟨[(1, AV.int .i64 p)], []⟩) (fun _ : Unit => k .ret ⟨[(4, AV.int .i64 (-1))], []⟩)) else none
  | _ => none
noncomputable def c26 : Cfg := cfg Try.prog [(26, 0, [0, 1, 5]), (26, 999, [4]), (26, 1000, [1]), (26, 1001, [0, 1, 5])] [] [] [] [(26, 0, l26_0)]
theorem s26_0 (ce : CallE) (t0 : List AV) (t1 : Int) (t5 : Int) (next : St → Option AV) (k : Kont) : stepA (codeA c26 ce [] 26 0 (sub [1, 0, 1, 0, 0] (body Try.f26))) (normA [] [0, 1, 5]) next ⟨[(0, AV.sl [.int .i64] t0), (1, AV.int .i64 t1), (5, AV.int .i64 t5)], []⟩ k = (bif decide (t5 < (t0.length : Int)) then (bif (decide (0 ≤ t5) && decide (t5 < (t0.length : Int))) then (bif !decide (fI (t0.getD t5.toNat .undef) 0 = t1) then k .ret ⟨[(4, AV.int .i64 (-1))], []⟩
  else next ⟨[(0, AV.sl [.int .i64] t0), (1, AV.int .i64 (IntKind.i64.wrap (t1 + 1))), (5, AV.int .i64 (IntKind.i64.wrap (t5 + 1)))], []⟩)
  else none)
  else k (.exit 0) ⟨[(1, AV.int .i64 t1)], []⟩) := by kernel_rfl
theorem st26_0 (t0 : List AV) (ce : CallE) (k : Kont) (s : (Int × Int)) (next : St → Option AV) : stepA (codeA c26 ce [] 26 0 (sub [1, 0, 1, 0, 0] (body Try.f26))) (normA [] [0, 1, 5]) next ((fun s : Int × Int => ⟨[(0, AV.sl [.int .i64] t0), (1, AV.int .i64 s.1), (5, AV.int .i64 s.2)], []⟩) s) k = (R26_0 t0 s).el none (fun s => next ((fun s : Int × Int => ⟨[(0, AV.sl [.int .i64] t0), (1, AV.int .i64 s.1), (5, AV.int .i64 s.2)], []⟩) s)) (sumE (fun p : Int => k (.exit 0) ⟨[(1, AV.int .i64 p)], []⟩) (fun _ : Unit => k .ret ⟨[(4, AV.int .i64 (-1))], []⟩)) := (s26_0 ce t0 s.1 s.2 next k).trans (by unfold R26_0; unfold F26_0; simp only [el_cond, el_ro, el_sum, el_fail, el_next, el_stop] <;> rfl)
theorem ok26_0 {ce : CallE} : LoopOK c26 ce [] 26 0 (sub [1, 0, 1, 0, 0] (body Try.f26)) := by
  intro m hm st k r h
  obtain rfl : l26_0 = m := Option.some.inj hm
  unfold l26_0 at h
  split at h
  · rename_i g0 t0 t1 t5
    obtain ⟨hg, h⟩ := bif_some h
    have q0 := hg
    obtain rfl := ctsEq_eq _ _ q0
    refine ⟨(((t0.length : Int) - t5).toNat + 1), ?_⟩
    rw [← h]
    exact loop_run (fun s : Int × Int => ⟨[(0, AV.sl [.int .i64] t0), (1, AV.int .i64 s.1), (5, AV.int .i64 s.2)], []⟩) (sumE (fun p : Int => k (.exit 0) ⟨[(1, AV.int .i64 p)], []⟩) (fun _ : Unit => k .ret ⟨[(4, AV.int .i64 (-1))], []⟩)) (st26_0 t0 ce k) _ (t1, t5)
  · cases h
def q26 (a0 : List AV) (a1 : Int) : Bool := (ro (runW (R26_0 a0) (((a0.length : Int) - 0).toNat + 1) (a1, 0)) false (sumE (fun p78 => true) (fun _ => true)))
def v26_0 (a0 : List AV) (a1 : Int) : Int := (ro (runW (R26_0 a0) (((a0.length : Int) - 0).toNat + 1) (a1, 0)) 0 (sumE (fun p78 => p78) (fun _ => (-1))))
theorem e26 (a0 : List AV) (a1 : Int) : funA c26 0 26 [AV.sl [.int .i64] a0, AV.int .i64 a1] = (ro (runW (R26_0 a0) (((a0.length : Int) - 0).toNat + 1) (a1, 0)) none (sumE (fun p78 => some (AV.int .i64 p78)) (fun _ => some (AV.int .i64 (-1))))) := by kernel_rfl
theorem r26 (a0 : List AV) (a1 : Int) (h : q26 a0 a1 = true) : funA c26 0 26 [AV.sl [.int .i64] a0, AV.int .i64 a1] = some (AV.int .i64 (v26_0 a0 a1)) := (e26 a0 a1).trans ((brO (fun o : Option (Int ⊕ Unit) => some (AV.int .i64 (ro o 0 (sumE (fun p78 => p78) (fun _ => (-1)))))) (brS (fun o : Int ⊕ Unit => some (AV.int .i64 ((sumE (fun p78 => p78) (fun _ => (-1))) o))) (fun p78 => (fun _ => rfl)) (fun _ => (fun _ => rfl)))) h)
def m26 : TModel
  | [.sl g0 a0, .int .i64 a1] => bif ctsEq g0 ([.int .i64]) then some (q26 a0 a1, AV.int .i64 (v26_0 a0 a1)) else none
  | _ => none
theorem k26 : Known Try.prog 26 := ⟨Try.f26, Try.func26, by kernel_rfl, by kernel_rfl⟩
theorem meets26 : Meets Try.prog 26 m26 := by
  refine meet (f := Try.f26) (l := [(0, sub [1, 0, 1, 0, 0] (body Try.f26))]) (hs := [(26, 0, [0, 1, 5]), (26, 999, [4]), (26, 1000, [1]), (26, 1001, [0, 1, 5])]) (ts := []) (ws := []) (is := []) (ls := [(26, 0, l26_0)]) (lvl := 0) mixed k26 Try.func26 (by kernel_rfl) (loops_cons ok26_0 noLoop) allT_nil allM_nil noI fun w xs us r hl hv h => ?_
  unfold m26 at h
  split at h
  · rename_i g0 a0 a1
    obtain ⟨hg, h⟩ := bif_pair h
    have q0 := hg
    obtain rfl := ctsEq_eq _ _ q0
    obtain ⟨h1, rfl⟩ := pair_inj h
    exact r26 a0 a1 h1
  · cases h

/-! ### 27 loop.example/g01984/laws.heldPivotS -/
def F27_0 (t0 : List AV) (t1 : Int) (t5 : Int) : Out ((Int × Int)) (Int ⊕ Unit) := (bif decide (t5 < (t0.length : Int)) then (bif (decide (0 ≤ t5) && decide (t5 < (t0.length : Int))) then (bif !decide (fI (t0.getD t5.toNat .undef) 0 = t1) then .stop (.inr ())
  else (bif (decide (0 ≤ t5) && decide (t5 < (t0.length : Int))) then (bif !decide (fI (t0.getD t5.toNat .undef) 1 = IntKind.i64.wrap (t1 + 1)) then .stop (.inr ())
  else .next (IntKind.i64.wrap (IntKind.i64.wrap (t1 + 1) + 1), IntKind.i64.wrap (t5 + 1)))
  else .fail))
  else .fail)
  else .stop (.inl t1))
def R27_0 (t0 : List AV) : ((Int × Int)) → Out ((Int × Int)) (Int ⊕ Unit) := fun s : Int × Int => F27_0 t0 s.1 s.2
def l27_0 : LModel := fun _ _ st k => match st with
  | ⟨[(0, .sl g0 t0), (1, .int .i64 t1), (5, .int .i64 t5)], []⟩ => bif ctsEq g0 ([.int .i64, .int .i64]) then ro (runW (R27_0 t0) (((t0.length : Int) - t5).toNat + 1) (t1, t5)) none (sumE (fun p : Int => k (.exit 0) ⟨[(1, AV.int .i64 p)], []⟩) (fun _ : Unit => k .ret ⟨[(4, AV.int .i64 (-1))], []⟩)) else none
  | _ => none
noncomputable def c27 : Cfg := cfg Try.prog [(27, 0, [0, 1, 5]), (27, 999, [4]), (27, 1000, [1]), (27, 1001, [0, 1, 5])] [] [] [] [(27, 0, l27_0)]
theorem s27_0 (ce : CallE) (t0 : List AV) (t1 : Int) (t5 : Int) (next : St → Option AV) (k : Kont) : stepA (codeA c27 ce [] 27 0 (sub [1, 0, 1, 0, 0] (body Try.f27))) (normA [] [0, 1, 5]) next ⟨[(0, AV.sl [.int .i64, .int .i64] t0), (1, AV.int .i64 t1), (5, AV.int .i64 t5)], []⟩ k = (bif decide (t5 < (t0.length : Int)) then (bif (decide (0 ≤ t5) && decide (t5 < (t0.length : Int))) then (bif !decide (fI (t0.getD t5.toNat .undef) 0 = t1) then k .ret ⟨[(4, AV.int .i64 (-1))], []⟩
  else (bif (decide (0 ≤ t5) && decide (t5 < (t0.length : Int))) then (bif !decide (fI (t0.getD t5.toNat .undef) 1 = IntKind.i64.wrap (t1 + 1)) then k .ret ⟨[(4, AV.int .i64 (-1))], []⟩
  else next ⟨[(0, AV.sl [.int .i64, .int .i64] t0), (1, AV.int .i64 (IntKind.i64.wrap (IntKind.i64.wrap (t1 + 1) + 1))), (5, AV.int .i64 (IntKind.i64.wrap (t5 + 1)))], []⟩)
  else none))
  else none)
  else k (.exit 0) ⟨[(1, AV.int .i64 t1)], []⟩) := by kernel_rfl
theorem st27_0 (t0 : List AV) (ce : CallE) (k : Kont) (s : (Int × Int)) (next : St → Option AV) : stepA (codeA c27 ce [] 27 0 (sub [1, 0, 1, 0, 0] (body Try.f27))) (normA [] [0, 1, 5]) next ((fun s : Int × Int => ⟨[(0, AV.sl [.int .i64, .int .i64] t0), (1, AV.int .i64 s.1), (5, AV.int .i64 s.2)], []⟩) s) k = (R27_0 t0 s).el none (fun s => next ((fun s : Int × Int => ⟨[(0, AV.sl [.int .i64, .int .i64] t0), (1, AV.int .i64 s.1), (5, AV.int .i64 s.2)], []⟩) s)) (sumE (fun p : Int => k (.exit 0) ⟨[(1, AV.int .i64 p)], []⟩) (fun _ : Unit => k .ret ⟨[(4, AV.int .i64 (-1))], []⟩)) := (s27_0 ce t0 s.1 s.2 next k).trans (by unfold R27_0; unfold F27_0; simp only [el_cond, el_ro, el_sum, el_fail, el_next, el_stop] <;> rfl)
theorem ok27_0 {ce : CallE} : LoopOK c27 ce [] 27 0 (sub [1, 0, 1, 0, 0] (body Try.f27)) := by
  intro m hm st k r h
  obtain rfl : l27_0 = m := Option.some.inj hm
  unfold l27_0 at h
  split at h
  · rename_i g0 t0 t1 t5
    obtain ⟨hg, h⟩ := bif_some h
    have q0 := hg
    obtain rfl := ctsEq_eq _ _ q0
    refine ⟨(((t0.length : Int) - t5).toNat + 1), ?_⟩
    rw [← h]
    exact loop_run (fun s : Int × Int => ⟨[(0, AV.sl [.int .i64, .int .i64] t0), (1, AV.int .i64 s.1), (5, AV.int .i64 s.2)], []⟩) (sumE (fun p : Int => k (.exit 0) ⟨[(1, AV.int .i64 p)], []⟩) (fun _ : Unit => k .ret ⟨[(4, AV.int .i64 (-1))], []⟩)) (st27_0 t0 ce k) _ (t1, t5)
  · cases h
def q27 (a0 : List AV) (a1 : Int) : Bool := (ro (runW (R27_0 a0) (((a0.length : Int) - 0).toNat + 1) (a1, 0)) false (sumE (fun p80 => true) (fun _ => true)))
def v27_0 (a0 : List AV) (a1 : Int) : Int := (ro (runW (R27_0 a0) (((a0.length : Int) - 0).toNat + 1) (a1, 0)) 0 (sumE (fun p80 => p80) (fun _ => (-1))))
theorem e27 (a0 : List AV) (a1 : Int) : funA c27 0 27 [AV.sl [.int .i64, .int .i64] a0, AV.int .i64 a1] = (ro (runW (R27_0 a0) (((a0.length : Int) - 0).toNat + 1) (a1, 0)) none (sumE (fun p80 => some (AV.int .i64 p80)) (fun _ => some (AV.int .i64 (-1))))) := by kernel_rfl
theorem r27 (a0 : List AV) (a1 : Int) (h : q27 a0 a1 = true) : funA c27 0 27 [AV.sl [.int .i64, .int .i64] a0, AV.int .i64 a1] = some (AV.int .i64 (v27_0 a0 a1)) := (e27 a0 a1).trans ((brO (fun o : Option (Int ⊕ Unit) => some (AV.int .i64 (ro o 0 (sumE (fun p80 => p80) (fun _ => (-1)))))) (brS (fun o : Int ⊕ Unit => some (AV.int .i64 ((sumE (fun p80 => p80) (fun _ => (-1))) o))) (fun p80 => (fun _ => rfl)) (fun _ => (fun _ => rfl)))) h)
def m27 : TModel
  | [.sl g0 a0, .int .i64 a1] => bif ctsEq g0 ([.int .i64, .int .i64]) then some (q27 a0 a1, AV.int .i64 (v27_0 a0 a1)) else none
  | _ => none
theorem k27 : Known Try.prog 27 := ⟨Try.f27, Try.func27, by kernel_rfl, by kernel_rfl⟩
theorem meets27 : Meets Try.prog 27 m27 := by
  refine meet (f := Try.f27) (l := [(0, sub [1, 0, 1, 0, 0] (body Try.f27))]) (hs := [(27, 0, [0, 1, 5]), (27, 999, [4]), (27, 1000, [1]), (27, 1001, [0, 1, 5])]) (ts := []) (ws := []) (is := []) (ls := [(27, 0, l27_0)]) (lvl := 0) mixed k27 Try.func27 (by kernel_rfl) (loops_cons ok27_0 noLoop) allT_nil allM_nil noI fun w xs us r hl hv h => ?_
  unfold m27 at h
  split at h
  · rename_i g0 a0 a1
    obtain ⟨hg, h⟩ := bif_pair h
    have q0 := hg
    obtain rfl := ctsEq_eq _ _ q0
    obtain ⟨h1, rfl⟩ := pair_inj h
    exact r27 a0 a1 h1
  · cases h

/-! ### 15 loop.example/g01984/laws.heldCracker -/
noncomputable def c15 : Cfg := cfg Try.prog [(15, 999, [4])] [(26, m26), (27, m27)] [] [] []
def q15 (xa : List AV) (xb : List AV) (xc : List AV) (a1 : Int) : Bool := (q26 xa a1 && (bif decide ((v26_0 xa a1) < 0) then true else (q26 xb (v26_0 xa a1) && (bif decide ((v26_0 xb (v26_0 xa a1)) < 0) then true else q27 xc (v26_0 xb (v26_0 xa a1))))))
def v15_0 (xa : List AV) (xb : List AV) (xc : List AV) (a1 : Int) : Int := (bif decide ((v26_0 xa a1) < 0) then (-1) else (bif decide ((v26_0 xb (v26_0 xa a1)) < 0) then (-1) else (bif decide ((v27_0 xc (v26_0 xb (v26_0 xa a1))) < 0) then (-1) else (v27_0 xc (v26_0 xb (v26_0 xa a1))))))
theorem e15 (xa : List AV) (xb : List AV) (xc : List AV) (a1 : Int) : funA c15 0 15 [AV.agg [AV.sl [.int .i64] xa, AV.sl [.int .i64] xb, AV.sl [.int .i64, .int .i64] xc], AV.int .i64 a1] = (bif q26 xa a1 then (bif decide ((v26_0 xa a1) < 0) then some (AV.int .i64 (-1))
  else (bif q26 xb (v26_0 xa a1) then (bif decide ((v26_0 xb (v26_0 xa a1)) < 0) then some (AV.int .i64 (-1))
  else (bif q27 xc (v26_0 xb (v26_0 xa a1)) then (bif decide ((v27_0 xc (v26_0 xb (v26_0 xa a1))) < 0) then some (AV.int .i64 (-1))
  else some (AV.int .i64 (v27_0 xc (v26_0 xb (v26_0 xa a1)))))
  else none))
  else none))
  else none) := by kernel_rfl
theorem r15 (xa : List AV) (xb : List AV) (xc : List AV) (a1 : Int) (h : q15 xa xb xc a1 = true) : funA c15 0 15 [AV.agg [AV.sl [.int .i64] xa, AV.sl [.int .i64] xb, AV.sl [.int .i64, .int .i64] xc], AV.int .i64 a1] = some (AV.int .i64 (v15_0 xa xb xc a1)) := (e15 xa xb xc a1).trans ((brL (br (fun b => some (AV.int .i64 (bif b then (-1) else (bif decide ((v26_0 xb (v26_0 xa a1)) < 0) then (-1) else (bif decide ((v27_0 xc (v26_0 xb (v26_0 xa a1))) < 0) then (-1) else (v27_0 xc (v26_0 xb (v26_0 xa a1)))))))) (fun _ => rfl) (brL (br (fun b => some (AV.int .i64 (bif b then (-1) else (bif decide ((v27_0 xc (v26_0 xb (v26_0 xa a1))) < 0) then (-1) else (v27_0 xc (v26_0 xb (v26_0 xa a1))))))) (fun _ => rfl) (brL1 (brT (fun b => some (AV.int .i64 (bif b then (-1) else (v27_0 xc (v26_0 xb (v26_0 xa a1)))))) (fun _ => rfl) (fun _ => rfl))))))) h)
def m15 : TModel
  | [.agg [.sl g0 xa, .sl g1 xb, .sl g2 xc], .int .i64 a1] => bif ctsEq g0 ([.int .i64]) && ctsEq g1 ([.int .i64]) && ctsEq g2 ([.int .i64, .int .i64]) then some (q15 xa xb xc a1, AV.int .i64 (v15_0 xa xb xc a1)) else none
  | _ => none
theorem k15 : Known Try.prog 15 := ⟨Try.f15, Try.func15, by kernel_rfl, by kernel_rfl⟩
theorem meets15 : Meets Try.prog 15 m15 := by
  refine meet (f := Try.f15) (l := []) (hs := [(15, 999, [4])]) (ts := [(26, m26), (27, m27)]) (ws := []) (is := []) (ls := []) (lvl := 0) mixed k15 Try.func15 (by kernel_rfl) noLoop (allT_cons meets26 (allT_cons meets27 allT_nil)) allM_nil noI fun w xs us r hl hv h => ?_
  unfold m15 at h
  split at h
  · rename_i g0 xa g1 xb g2 xc a1
    obtain ⟨hg, h⟩ := bif_pair h
    simp only [Bool.and_eq_true] at hg
    obtain ⟨⟨q0, q1⟩, q2⟩ := hg
    obtain rfl := ctsEq_eq _ _ q0
    obtain rfl := ctsEq_eq _ _ q1
    obtain rfl := ctsEq_eq _ _ q2
    obtain ⟨h1, rfl⟩ := pair_inj h
    exact r15 xa xb xc a1 h1
  · cases h

/-! ### 3 loop.example/g01984/laws.FnExactResumeWork -/
noncomputable def c3 : Cfg := cfg Try.prog [(3, 999, [8])] [(4, m4), (5, m5), (6, m6), (7, m7), (8, m8), (9, m9), (10, m10), (11, m11), (15, m15)] [(12, m12), (13, m13), (14, m14)] [] []
def raw3 (a0 : List AV) (a1 : List AV) (a2 : Int) (a3 : List AV) : Option AV := (bif decide ((a0.length : Int) > 1048576) then some (AV.bool true)
  else (bif decide ((a3.length : Int) > 1048576) then some (AV.bool true)
  else (bif decide ((v4_0 a1 1048576) < 0) then some (AV.bool true)
  else (bif q6 a0 then (bif q7 a1 then (bif q6 a3 then (bif q5 (v6_0 a0) (v7_0 a1) a2 (v6_0 a3) then (bif q6 a0 then (bif q7 a1 then (bif q6 a3 then (bif q8 (v6_0 a0) (v7_0 a1) a2 (v6_0 a3) then (bif q9 (v8_0 (v6_0 a0) (v7_0 a1) a2 (v6_0 a3)) (v8_1 (v6_0 a0) (v7_0 a1) a2 (v6_0 a3)) (v8_2 (v6_0 a0) (v7_0 a1) a2 (v6_0 a3)) (v5_0 (v6_0 a0) (v7_0 a1) a2 (v6_0 a3)) (v5_1 (v6_0 a0) (v7_0 a1) a2 (v6_0 a3)) (v5_2 (v6_0 a0) (v7_0 a1) a2 (v6_0 a3)) then (bif !(v9_0 (v8_0 (v6_0 a0) (v7_0 a1) a2 (v6_0 a3)) (v8_1 (v6_0 a0) (v7_0 a1) a2 (v6_0 a3)) (v8_2 (v6_0 a0) (v7_0 a1) a2 (v6_0 a3)) (v5_0 (v6_0 a0) (v7_0 a1) a2 (v6_0 a3)) (v5_1 (v6_0 a0) (v7_0 a1) a2 (v6_0 a3)) (v5_2 (v6_0 a0) (v7_0 a1) a2 (v6_0 a3))) then some (AV.bool false)
  else (bif !((v8_3 (v6_0 a0) (v7_0 a1) a2 (v6_0 a3)) == (v5_3 (v6_0 a0) (v7_0 a1) a2 (v6_0 a3))) then some (AV.bool false)
  else (bif q6 a0 then (bif q10 (v6_0 a0) (v6_0 a0) then (bif !(v10_0 (v6_0 a0) (v6_0 a0)) then some (AV.bool false)
  else (bif q7 a1 then (bif q11 (v7_0 a1) (v7_0 a1) then (bif !(v11_0 (v7_0 a1) (v7_0 a1)) then some (AV.bool false)
  else (bif q6 a3 then (bif q10 (v6_0 a3) (v6_0 a3) then (bif !(v10_0 (v6_0 a3) (v6_0 a3)) then some (AV.bool false)
  else (bif q12 1 (v6_0 a0) then (bif q13 (v12_0 1 (v6_0 a0)) (v7_0 a1) then (bif q12 (v13_0 (v12_0 1 (v6_0 a0)) (v7_0 a1)) (v6_0 a3) then (bif decide ((v12_0 (v13_0 (v12_0 1 (v6_0 a0)) (v7_0 a1)) (v6_0 a3)) < 0) then some (AV.bool false)
  else (bif q9 (v8_0 (v6_0 a0) (v7_0 a1) a2 (v6_0 a3)) (v8_1 (v6_0 a0) (v7_0 a1) a2 (v6_0 a3)) (v8_2 (v6_0 a0) (v7_0 a1) a2 (v6_0 a3)) (v5_0 (v6_0 a0) (v7_0 a1) a2 (v6_0 a3)) (v5_1 (v6_0 a0) (v7_0 a1) a2 (v6_0 a3)) (v5_2 (v6_0 a0) (v7_0 a1) a2 (v6_0 a3)) then (bif !(v9_0 (v8_0 (v6_0 a0) (v7_0 a1) a2 (v6_0 a3)) (v8_1 (v6_0 a0) (v7_0 a1) a2 (v6_0 a3)) (v8_2 (v6_0 a0) (v7_0 a1) a2 (v6_0 a3)) (v5_0 (v6_0 a0) (v7_0 a1) a2 (v6_0 a3)) (v5_1 (v6_0 a0) (v7_0 a1) a2 (v6_0 a3)) (v5_2 (v6_0 a0) (v7_0 a1) a2 (v6_0 a3))) then some (AV.bool false)
  else (bif !((v8_3 (v6_0 a0) (v7_0 a1) a2 (v6_0 a3)) == (v5_3 (v6_0 a0) (v7_0 a1) a2 (v6_0 a3))) then some (AV.bool false)
  else (bif q14 1 (v8_0 (v6_0 a0) (v7_0 a1) a2 (v6_0 a3)) (v8_1 (v6_0 a0) (v7_0 a1) a2 (v6_0 a3)) (v8_2 (v6_0 a0) (v7_0 a1) a2 (v6_0 a3)) then (bif q15 (v14_1 1 (v8_0 (v6_0 a0) (v7_0 a1) a2 (v6_0 a3)) (v8_1 (v6_0 a0) (v7_0 a1) a2 (v6_0 a3)) (v8_2 (v6_0 a0) (v7_0 a1) a2 (v6_0 a3))) (v14_2 1 (v8_0 (v6_0 a0) (v7_0 a1) a2 (v6_0 a3)) (v8_1 (v6_0 a0) (v7_0 a1) a2 (v6_0 a3)) (v8_2 (v6_0 a0) (v7_0 a1) a2 (v6_0 a3))) (v14_3 1 (v8_0 (v6_0 a0) (v7_0 a1) a2 (v6_0 a3)) (v8_1 (v6_0 a0) (v7_0 a1) a2 (v6_0 a3)) (v8_2 (v6_0 a0) (v7_0 a1) a2 (v6_0 a3))) 1 then (bif decide ((v15_0 (v14_1 1 (v8_0 (v6_0 a0) (v7_0 a1) a2 (v6_0 a3)) (v8_1 (v6_0 a0) (v7_0 a1) a2 (v6_0 a3)) (v8_2 (v6_0 a0) (v7_0 a1) a2 (v6_0 a3))) (v14_2 1 (v8_0 (v6_0 a0) (v7_0 a1) a2 (v6_0 a3)) (v8_1 (v6_0 a0) (v7_0 a1) a2 (v6_0 a3)) (v8_2 (v6_0 a0) (v7_0 a1) a2 (v6_0 a3))) (v14_3 1 (v8_0 (v6_0 a0) (v7_0 a1) a2 (v6_0 a3)) (v8_1 (v6_0 a0) (v7_0 a1) a2 (v6_0 a3)) (v8_2 (v6_0 a0) (v7_0 a1) a2 (v6_0 a3))) 1) < 0) then some (AV.bool false)
  else (bif !decide ((v15_0 (v14_1 1 (v8_0 (v6_0 a0) (v7_0 a1) a2 (v6_0 a3)) (v8_1 (v6_0 a0) (v7_0 a1) a2 (v6_0 a3)) (v8_2 (v6_0 a0) (v7_0 a1) a2 (v6_0 a3))) (v14_2 1 (v8_0 (v6_0 a0) (v7_0 a1) a2 (v6_0 a3)) (v8_1 (v6_0 a0) (v7_0 a1) a2 (v6_0 a3)) (v8_2 (v6_0 a0) (v7_0 a1) a2 (v6_0 a3))) (v14_3 1 (v8_0 (v6_0 a0) (v7_0 a1) a2 (v6_0 a3)) (v8_1 (v6_0 a0) (v7_0 a1) a2 (v6_0 a3)) (v8_2 (v6_0 a0) (v7_0 a1) a2 (v6_0 a3))) 1) = (v14_0 1 (v8_0 (v6_0 a0) (v7_0 a1) a2 (v6_0 a3)) (v8_1 (v6_0 a0) (v7_0 a1) a2 (v6_0 a3)) (v8_2 (v6_0 a0) (v7_0 a1) a2 (v6_0 a3)))) then some (AV.bool false)
  else (bif q6 a0 then (bif q7 a1 then (bif q6 a3 then (bif q8 (v6_0 a0) (v7_0 a1) a2 (v6_0 a3) then (bif q9 (v8_0 (v6_0 a0) (v7_0 a1) a2 (v6_0 a3)) (v8_1 (v6_0 a0) (v7_0 a1) a2 (v6_0 a3)) (v8_2 (v6_0 a0) (v7_0 a1) a2 (v6_0 a3)) (v5_0 (v6_0 a0) (v7_0 a1) a2 (v6_0 a3)) (v5_1 (v6_0 a0) (v7_0 a1) a2 (v6_0 a3)) (v5_2 (v6_0 a0) (v7_0 a1) a2 (v6_0 a3)) then (bif !(v9_0 (v8_0 (v6_0 a0) (v7_0 a1) a2 (v6_0 a3)) (v8_1 (v6_0 a0) (v7_0 a1) a2 (v6_0 a3)) (v8_2 (v6_0 a0) (v7_0 a1) a2 (v6_0 a3)) (v5_0 (v6_0 a0) (v7_0 a1) a2 (v6_0 a3)) (v5_1 (v6_0 a0) (v7_0 a1) a2 (v6_0 a3)) (v5_2 (v6_0 a0) (v7_0 a1) a2 (v6_0 a3))) then some (AV.bool false)
  else (bif !((v8_3 (v6_0 a0) (v7_0 a1) a2 (v6_0 a3)) == (v5_3 (v6_0 a0) (v7_0 a1) a2 (v6_0 a3))) then some (AV.bool false)
  else (bif q15 (v14_1 1 (v8_0 (v6_0 a0) (v7_0 a1) a2 (v6_0 a3)) (v8_1 (v6_0 a0) (v7_0 a1) a2 (v6_0 a3)) (v8_2 (v6_0 a0) (v7_0 a1) a2 (v6_0 a3))) (v14_2 1 (v8_0 (v6_0 a0) (v7_0 a1) a2 (v6_0 a3)) (v8_1 (v6_0 a0) (v7_0 a1) a2 (v6_0 a3)) (v8_2 (v6_0 a0) (v7_0 a1) a2 (v6_0 a3))) (v14_3 1 (v8_0 (v6_0 a0) (v7_0 a1) a2 (v6_0 a3)) (v8_1 (v6_0 a0) (v7_0 a1) a2 (v6_0 a3)) (v8_2 (v6_0 a0) (v7_0 a1) a2 (v6_0 a3))) 1 then (bif decide ((v15_0 (v14_1 1 (v8_0 (v6_0 a0) (v7_0 a1) a2 (v6_0 a3)) (v8_1 (v6_0 a0) (v7_0 a1) a2 (v6_0 a3)) (v8_2 (v6_0 a0) (v7_0 a1) a2 (v6_0 a3))) (v14_2 1 (v8_0 (v6_0 a0) (v7_0 a1) a2 (v6_0 a3)) (v8_1 (v6_0 a0) (v7_0 a1) a2 (v6_0 a3)) (v8_2 (v6_0 a0) (v7_0 a1) a2 (v6_0 a3))) (v14_3 1 (v8_0 (v6_0 a0) (v7_0 a1) a2 (v6_0 a3)) (v8_1 (v6_0 a0) (v7_0 a1) a2 (v6_0 a3)) (v8_2 (v6_0 a0) (v7_0 a1) a2 (v6_0 a3))) 1) < 0) then some (AV.bool false)
  else (bif !decide ((v15_0 (v14_1 1 (v8_0 (v6_0 a0) (v7_0 a1) a2 (v6_0 a3)) (v8_1 (v6_0 a0) (v7_0 a1) a2 (v6_0 a3)) (v8_2 (v6_0 a0) (v7_0 a1) a2 (v6_0 a3))) (v14_2 1 (v8_0 (v6_0 a0) (v7_0 a1) a2 (v6_0 a3)) (v8_1 (v6_0 a0) (v7_0 a1) a2 (v6_0 a3)) (v8_2 (v6_0 a0) (v7_0 a1) a2 (v6_0 a3))) (v14_3 1 (v8_0 (v6_0 a0) (v7_0 a1) a2 (v6_0 a3)) (v8_1 (v6_0 a0) (v7_0 a1) a2 (v6_0 a3)) (v8_2 (v6_0 a0) (v7_0 a1) a2 (v6_0 a3))) 1) = (v14_0 1 (v8_0 (v6_0 a0) (v7_0 a1) a2 (v6_0 a3)) (v8_1 (v6_0 a0) (v7_0 a1) a2 (v6_0 a3)) (v8_2 (v6_0 a0) (v7_0 a1) a2 (v6_0 a3)))) then some (AV.bool false)
  else some (AV.bool true)))
  else none)))
  else none)
  else none)
  else none)
  else none)
  else none)))
  else none)
  else none)))
  else none))
  else none)
  else none)
  else none))
  else none)
  else none))
  else none)
  else none))
  else none)
  else none)))
  else none)
  else none)
  else none)
  else none)
  else none)
  else none)
  else none)
  else none)
  else none))))
theorem e3 (a0 : List AV) (a1 : List AV) (a2 : Int) (a3 : List AV) : funA c3 0 3 [AV.sl [.int .i64] a0, AV.sl [.int .i64, .int .i64, .int .i64, .int .i64] a1, AV.int .i64 a2, AV.sl [.int .i64] a3] = raw3 a0 a1 a2 a3 := by kernel_rfl
def m3 : TModel
  | [.sl g0 a0, .sl g1 a1, .int .i64 a2, .sl g2 a3] => bif ctsEq g0 ([.int .i64]) && ctsEq g1 ([.int .i64, .int .i64, .int .i64, .int .i64]) && ctsEq g2 ([.int .i64]) then (raw3 a0 a1 a2 a3).map fun r => (true, r) else none
  | _ => none
theorem k3 : Known Try.prog 3 := ⟨Try.f3, Try.func3, by kernel_rfl, by kernel_rfl⟩
theorem meets3 : Meets Try.prog 3 m3 := by
  refine meet (f := Try.f3) (l := []) (hs := [(3, 999, [8])]) (ts := [(4, m4), (5, m5), (6, m6), (7, m7), (8, m8), (9, m9), (10, m10), (11, m11), (15, m15)]) (ws := [(12, m12), (13, m13), (14, m14)]) (is := []) (ls := []) (lvl := 0) mixed k3 Try.func3 (by kernel_rfl) noLoop (allT_cons meets4 (allT_cons meets5 (allT_cons meets6 (allT_cons meets7 (allT_cons meets8 (allT_cons meets9 (allT_cons meets10 (allT_cons meets11 (allT_cons meets15 allT_nil))))))))) (allM_cons meets12 (allM_cons meets13 (allM_cons meets14 allM_nil))) noI fun w xs us r hl hv h => ?_
  unfold m3 at h
  split at h
  · rename_i g0 a0 g1 a1 a2 g2 a3
    obtain ⟨hg, h⟩ := bif_pair h
    simp only [Bool.and_eq_true] at hg
    obtain ⟨⟨q0, q1⟩, q2⟩ := hg
    obtain rfl := ctsEq_eq _ _ q0
    obtain rfl := ctsEq_eq _ _ q1
    obtain rfl := ctsEq_eq _ _ q2
    obtain ⟨r', h1, h2⟩ := Option.map_eq_some_iff.1 h
    obtain ⟨_, rfl⟩ := Prod.mk.inj h2
    exact (e3 a0 a1 a2 a3).trans h1
  · cases h
end Go.Proofs.Ytmlhhemflhiinaa
