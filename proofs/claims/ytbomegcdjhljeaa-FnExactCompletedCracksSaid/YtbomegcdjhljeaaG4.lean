/- The walk of what this claim reaches: printed by a program, each equation checked by the kernel. -/
import Derived.Test.YtbomegcdjhljeaaVEy
import Derived.Test.YtbomegcdjhljeaaProg
import Derived.KernelRfl
namespace Go.Proofs.Ytbomegcdjhljeaa
open Go Go.Proofs.VE
set_option maxRecDepth 100000
theorem mixed : Try.prog.follows .mixedOrders = true := by kernel_rfl
/-! ### 18 loop.example/g01984/laws.szEntryS -/
noncomputable def c18 : Cfg := cfg Try.prog [(18, 999, [4])] [] [] [] []
def q18 (a0 : List AV) (a1 : Int) : Bool := true
def v18_0 (a0 : List AV) (a1 : Int) : Int := (bif decide (IntKind.i64.wrap (a1 - (a0.length : Int)) < 0) then (-1) else IntKind.i64.wrap (a1 - (a0.length : Int)))
theorem e18 (a0 : List AV) (a1 : Int) : funA c18 0 18 [AV.sl [.int .i64, .int .i64, .int .i64, .int .i64] a0, AV.int .i64 a1] = (bif decide (IntKind.i64.wrap (a1 - (a0.length : Int)) < 0) then some (AV.int .i64 (-1))
  else some (AV.int .i64 (IntKind.i64.wrap (a1 - (a0.length : Int))))) := by kernel_rfl
theorem r18 (a0 : List AV) (a1 : Int) : funA c18 0 18 [AV.sl [.int .i64, .int .i64, .int .i64, .int .i64] a0, AV.int .i64 a1] = some (AV.int .i64 (v18_0 a0 a1)) := (e18 a0 a1).trans (of_tt (brT (fun b => some (AV.int .i64 (bif b then (-1) else IntKind.i64.wrap (a1 - (a0.length : Int))))) (fun _ => rfl) (fun _ => rfl)))
def m18 : TModel
  | [.sl g0 a0, .int .i64 a1] => bif ctsEq g0 ([.int .i64, .int .i64, .int .i64, .int .i64]) then some (true, AV.int .i64 (v18_0 a0 a1)) else none
  | _ => none
theorem k18 : Known Try.prog 18 := ⟨Try.f18, Try.func18, by kernel_rfl, by kernel_rfl⟩
theorem meets18 : Meets Try.prog 18 m18 := by
  refine meet (f := Try.f18) (l := []) (hs := [(18, 999, [4])]) (ts := []) (ws := []) (is := []) (ls := []) (lvl := 0) mixed k18 Try.func18 (by kernel_rfl) noLoop allT_nil allM_nil noI fun w xs us r hl hv h => ?_
  unfold m18 at h
  split at h
  · rename_i g0 a0 a1
    obtain ⟨hg, h⟩ := bif_pair h
    have q0 := hg
    obtain rfl := ctsEq_eq _ _ q0
    obtain ⟨h1, rfl⟩ := pair_inj h
    exact r18 a0 a1
  · cases h

/-! ### 64 loop.example/g01984/laws.toEntry -/
noncomputable def c64 : Cfg := cfg Try.prog [(64, 999, [2])] [] [] [] []
def q64 (a0_0 : Int) (a0_1 : Int) (a0_2 : Int) (a0_3 : Int) : Bool := true
def v64_0 (a0_0 : Int) (a0_1 : Int) (a0_2 : Int) (a0_3 : Int) : Int := a0_0
def v64_1 (a0_0 : Int) (a0_1 : Int) (a0_2 : Int) (a0_3 : Int) : Int := a0_1
def v64_2 (a0_0 : Int) (a0_1 : Int) (a0_2 : Int) (a0_3 : Int) : Int := a0_2
def v64_3 (a0_0 : Int) (a0_1 : Int) (a0_2 : Int) (a0_3 : Int) : Int := a0_3
theorem e64 (a0_0 : Int) (a0_1 : Int) (a0_2 : Int) (a0_3 : Int) : funA c64 0 64 [AV.agg [AV.int .i64 a0_0, AV.int .i64 a0_1, AV.int .i64 a0_2, AV.int .i64 a0_3]] = some (AV.agg [AV.int .i64 a0_0, AV.int .i64 a0_1, AV.int .i64 a0_2, AV.int .i64 a0_3]) := by kernel_rfl
theorem r64 (a0_0 : Int) (a0_1 : Int) (a0_2 : Int) (a0_3 : Int) : funA c64 0 64 [AV.agg [AV.int .i64 a0_0, AV.int .i64 a0_1, AV.int .i64 a0_2, AV.int .i64 a0_3]] = some (AV.agg [AV.int .i64 (v64_0 a0_0 a0_1 a0_2 a0_3), AV.int .i64 (v64_1 a0_0 a0_1 a0_2 a0_3), AV.int .i64 (v64_2 a0_0 a0_1 a0_2 a0_3), AV.int .i64 (v64_3 a0_0 a0_1 a0_2 a0_3)]) := (e64 a0_0 a0_1 a0_2 a0_3).trans (of_tt (fun _ => rfl))
def m64 : TModel
  | [.agg [.int .i64 a0_0, .int .i64 a0_1, .int .i64 a0_2, .int .i64 a0_3]] => some (true, AV.agg [AV.int .i64 (v64_0 a0_0 a0_1 a0_2 a0_3), AV.int .i64 (v64_1 a0_0 a0_1 a0_2 a0_3), AV.int .i64 (v64_2 a0_0 a0_1 a0_2 a0_3), AV.int .i64 (v64_3 a0_0 a0_1 a0_2 a0_3)])
  | _ => none
theorem k64 : Known Try.prog 64 := ⟨Try.f64, Try.func64, by kernel_rfl, by kernel_rfl⟩
theorem meets64 : Meets Try.prog 64 m64 := by
  refine meet (f := Try.f64) (l := []) (hs := [(64, 999, [2])]) (ts := []) (ws := []) (is := []) (ls := []) (lvl := 0) mixed k64 Try.func64 (by kernel_rfl) noLoop allT_nil allM_nil noI fun w xs us r hl hv h => ?_
  unfold m64 at h
  split at h
  · rename_i a0_0 a0_1 a0_2 a0_3
    obtain ⟨h1, rfl⟩ := pair_inj h
    exact r64 a0_0 a0_1 a0_2 a0_3
  · cases h

/-! ### 20 loop.example/g01984/laws.toEntryS -/
def F20_0 (t0 : List AV) (t4 : Int) (h0 : List AV) : Out ((Int × (List AV))) (((List AV))) := (bif decide (t4 < (t0.length : Int)) then (bif (decide (0 ≤ t4) && decide (t4 < (t0.length : Int))) then (bif (decide (0 ≤ t4) && decide (t4 < (h0.length : Int))) then .next (IntKind.i64.wrap (t4 + 1), h0.set t4.toNat (AV.agg [AV.int .i64 (v64_0 (fI (t0.getD t4.toNat AV.undef) 0) (fI (t0.getD t4.toNat AV.undef) 1) (fI (t0.getD t4.toNat AV.undef) 2) (fI (t0.getD t4.toNat AV.undef) 3)), AV.int .i64 (v64_1 (fI (t0.getD t4.toNat AV.undef) 0) (fI (t0.getD t4.toNat AV.undef) 1) (fI (t0.getD t4.toNat AV.undef) 2) (fI (t0.getD t4.toNat AV.undef) 3)), AV.int .i64 (v64_2 (fI (t0.getD t4.toNat AV.undef) 0) (fI (t0.getD t4.toNat AV.undef) 1) (fI (t0.getD t4.toNat AV.undef) 2) (fI (t0.getD t4.toNat AV.undef) 3)), AV.int .i64 (v64_3 (fI (t0.getD t4.toNat AV.undef) 0) (fI (t0.getD t4.toNat AV.undef) 1) (fI (t0.getD t4.toNat AV.undef) 2) (fI (t0.getD t4.toNat AV.undef) 3))]))
    else .fail)
   else .fail)
  else .stop h0)
def R20_0 (t0 : List AV) : ((Int × (List AV))) → Out ((Int × (List AV))) (((List AV))) := fun s : Int × (List AV) => F20_0 t0 s.1 s.2
def l20_0 : LModel := fun _ _ st k => match st with
  | ⟨[(0, .sl g0 t0), (3, .own g1), (4, .int .i64 t4)], [(g2, ⟨false, g3, h0⟩)]⟩ => bif ctsEq g0 ([.int .i64, .int .i64, .int .i64, .int .i64]) && nmEq g1 ([0, 3]) && nmEq g2 ([0, 3]) && ctsEq g3 ([.int .i64, .int .i64, .int .i64, .int .i64]) then ro (runW (R20_0 t0) (((t0.length : Int) - t4).toNat + 1) (t4, h0)) none (fun p : (List AV) => k (.exit 0) ⟨[(3, AV.own [0, 3])], [([0, 3], ⟨false, [.int .i64, .int .i64, .int .i64, .int .i64], p⟩)]⟩) else none
  | _ => none
noncomputable def c20 : Cfg := cfg Try.prog [(20, 0, [0, 3, 4]), (20, 999, [2]), (20, 1000, [3]), (20, 1001, [0, 3, 4])] [(64, m64)] [] [] [(20, 0, l20_0)]
theorem s20_0 (ce : CallE) (t0 : List AV) (t4 : Int) (h0 : List AV) (next : St → Option AV) (k : Kont) : stepA (codeA c20 ce [] 20 0 (sub [1, 1, 0, 1, 0, 0] (body Try.f20))) (normA [] [0, 3, 4]) next ⟨[(0, AV.sl [.int .i64, .int .i64, .int .i64, .int .i64] t0), (3, AV.own [0, 3]), (4, AV.int .i64 t4)], [([0, 3], ⟨false, [.int .i64, .int .i64, .int .i64, .int .i64], h0⟩)]⟩ k = (bif decide (t4 < (t0.length : Int)) then (bif (decide (0 ≤ t4) && decide (t4 < (t0.length : Int))) then (bif (decide (0 ≤ t4) && decide (t4 < (h0.length : Int))) then next ⟨[(0, AV.sl [.int .i64, .int .i64, .int .i64, .int .i64] t0), (3, AV.own [0, 3]), (4, AV.int .i64 (IntKind.i64.wrap (t4 + 1)))], [([0, 3], ⟨false, [.int .i64, .int .i64, .int .i64, .int .i64], h0.set t4.toNat (AV.agg [AV.int .i64 (v64_0 (fI (t0.getD t4.toNat AV.undef) 0) (fI (t0.getD t4.toNat AV.undef) 1) (fI (t0.getD t4.toNat AV.undef) 2) (fI (t0.getD t4.toNat AV.undef) 3)), AV.int .i64 (v64_1 (fI (t0.getD t4.toNat AV.undef) 0) (fI (t0.getD t4.toNat AV.undef) 1) (fI (t0.getD t4.toNat AV.undef) 2) (fI (t0.getD t4.toNat AV.undef) 3)), AV.int .i64 (v64_2 (fI (t0.getD t4.toNat AV.undef) 0) (fI (t0.getD t4.toNat AV.undef) 1) (fI (t0.getD t4.toNat AV.undef) 2) (fI (t0.getD t4.toNat AV.undef) 3)), AV.int .i64 (v64_3 (fI (t0.getD t4.toNat AV.undef) 0) (fI (t0.getD t4.toNat AV.undef) 1) (fI (t0.getD t4.toNat AV.undef) 2) (fI (t0.getD t4.toNat AV.undef) 3))])⟩)]⟩
    else none)
   else none)
  else k (.exit 0) ⟨[(3, AV.own [0, 3])], [([0, 3], ⟨false, [.int .i64, .int .i64, .int .i64, .int .i64], h0⟩)]⟩) := by kernel_rfl
theorem st20_0 (t0 : List AV) (ce : CallE) (k : Kont) (s : (Int × (List AV))) (next : St → Option AV) : stepA (codeA c20 ce [] 20 0 (sub [1, 1, 0, 1, 0, 0] (body Try.f20))) (normA [] [0, 3, 4]) next ((fun s : Int × (List AV) => ⟨[(0, AV.sl [.int .i64, .int .i64, .int .i64, .int .i64] t0), (3, AV.own [0, 3]), (4, AV.int .i64 s.1)], [([0, 3], ⟨false, [.int .i64, .int .i64, .int .i64, .int .i64], s.2⟩)]⟩) s) k = (R20_0 t0 s).el none (fun s => next ((fun s : Int × (List AV) => ⟨[(0, AV.sl [.int .i64, .int .i64, .int .i64, .int .i64] t0), (3, AV.own [0, 3]), (4, AV.int .i64 s.1)], [([0, 3], ⟨false, [.int .i64, .int .i64, .int .i64, .int .i64], s.2⟩)]⟩) s)) (fun p : (List AV) => k (.exit 0) ⟨[(3, AV.own [0, 3])], [([0, 3], ⟨false, [.int .i64, .int .i64, .int .i64, .int .i64], p⟩)]⟩) := (s20_0 ce t0 s.1 s.2 next k).trans (by unfold R20_0; unfold F20_0; simp only [el_cond, el_ro, el_sum, el_fail, el_next, el_stop] <;> rfl)
theorem ok20_0 : LoopOK c20 [] 20 0 (sub [1, 1, 0, 1, 0, 0] (body Try.f20)) := by
  intro m hm ce st k r h
  obtain rfl : l20_0 = m := Option.some.inj hm
  unfold l20_0 at h
  split at h
  · rename_i g0 t0 g1 t4 g2 g3 h0
    obtain ⟨hg, h⟩ := bif_some h
    simp only [Bool.and_eq_true] at hg
    obtain ⟨⟨⟨q0, q1⟩, q2⟩, q3⟩ := hg
    obtain rfl := ctsEq_eq _ _ q0
    obtain rfl := (nmEq_iff _ _).1 q1
    obtain rfl := (nmEq_iff _ _).1 q2
    obtain rfl := ctsEq_eq _ _ q3
    refine ⟨(((t0.length : Int) - t4).toNat + 1), ?_⟩
    rw [← h]
    exact loop_run (fun s : Int × (List AV) => ⟨[(0, AV.sl [.int .i64, .int .i64, .int .i64, .int .i64] t0), (3, AV.own [0, 3]), (4, AV.int .i64 s.1)], [([0, 3], ⟨false, [.int .i64, .int .i64, .int .i64, .int .i64], s.2⟩)]⟩) (fun p : (List AV) => k (.exit 0) ⟨[(3, AV.own [0, 3])], [([0, 3], ⟨false, [.int .i64, .int .i64, .int .i64, .int .i64], p⟩)]⟩) (st20_0 t0 ce k) _ (t4, h0)
  · cases h
def q20 (a0 : List AV) : Bool := ((decide (0 ≤ (a0.length : Int)) && decide ((a0.length : Int) ≤ (a0.length : Int)) && decide ((a0.length : Int) * 32 ≤ 140737488355328) && decide ((a0.length : Int) ≤ 140737488355328)) && (ro (runW (R20_0 a0) (((a0.length : Int) - 0).toNat + 1) (0, List.replicate (Int.toNat (a0.length : Int)) (AV.agg [AV.int .i64 0, AV.int .i64 0, AV.int .i64 0, AV.int .i64 0]))) false (fun p1 => true)))
def v20_0 (a0 : List AV) : List AV := (ro (runW (R20_0 a0) (((a0.length : Int) - 0).toNat + 1) (0, List.replicate (Int.toNat (a0.length : Int)) (AV.agg [AV.int .i64 0, AV.int .i64 0, AV.int .i64 0, AV.int .i64 0]))) [] (fun p1 => p1))
theorem e20 (a0 : List AV) : funA c20 0 20 [AV.sl [.int .i64, .int .i64, .int .i64, .int .i64] a0] = (bif (decide (0 ≤ (a0.length : Int)) && decide ((a0.length : Int) ≤ (a0.length : Int)) && decide ((a0.length : Int) * 32 ≤ 140737488355328) && decide ((a0.length : Int) ≤ 140737488355328)) then (ro (runW (R20_0 a0) (((a0.length : Int) - 0).toNat + 1) (0, List.replicate (Int.toNat (a0.length : Int)) (AV.agg [AV.int .i64 0, AV.int .i64 0, AV.int .i64 0, AV.int .i64 0]))) none (fun p1 => some (AV.fl [.int .i64, .int .i64, .int .i64, .int .i64] p1)))
  else none) := by kernel_rfl
theorem r20 (a0 : List AV) (h : q20 a0 = true) : funA c20 0 20 [AV.sl [.int .i64, .int .i64, .int .i64, .int .i64] a0] = some (AV.fl [.int .i64, .int .i64, .int .i64, .int .i64] (v20_0 a0)) := (e20 a0).trans ((brL (brO (fun o : Option (((List AV))) => some (AV.fl [.int .i64, .int .i64, .int .i64, .int .i64] (ro o [] (fun p1 => p1)))) (fun p1 => (fun _ => rfl)))) h)
def m20 : TModel
  | [.sl g0 a0] => bif ctsEq g0 ([.int .i64, .int .i64, .int .i64, .int .i64]) then some (q20 a0, AV.fl [.int .i64, .int .i64, .int .i64, .int .i64] (v20_0 a0)) else none
  | _ => none
theorem k20 : Known Try.prog 20 := ⟨Try.f20, Try.func20, by kernel_rfl, by kernel_rfl⟩
theorem meets20 : Meets Try.prog 20 m20 := by
  refine meet (f := Try.f20) (l := [(0, sub [1, 1, 0, 1, 0, 0] (body Try.f20))]) (hs := [(20, 0, [0, 3, 4]), (20, 999, [2]), (20, 1000, [3]), (20, 1001, [0, 3, 4])]) (ts := [(64, m64)]) (ws := []) (is := []) (ls := [(20, 0, l20_0)]) (lvl := 0) mixed k20 Try.func20 (by kernel_rfl) (loops_cons ok20_0 noLoop) (allT_cons meets64 allT_nil) allM_nil noI fun w xs us r hl hv h => ?_
  unfold m20 at h
  split at h
  · rename_i g0 a0
    obtain ⟨hg, h⟩ := bif_pair h
    have q0 := hg
    obtain rfl := ctsEq_eq _ _ q0
    obtain ⟨h1, rfl⟩ := pair_inj h
    exact r20 a0 h1
  · cases h

/-! ### 19 loop.example/g01984/spec.CompletedCracks -/
def F19_0 (t0 : List AV) (t4 : Int) (h0 : List AV) : Out ((Int × (List AV))) (((List AV))) := (bif decide (t4 < (t0.length : Int)) then (bif (decide (0 ≤ t4) && decide (t4 < (t0.length : Int))) then (bif decide (fI (t0.getD t4.toNat AV.undef) 0 = 3) then (bif (decide (0 ≤ t4) && decide (t4 < (t0.length : Int))) then (bif (decide ((h0.length + ([AV.int .i64 (fI (t0.getD t4.toNat AV.undef) 1)]).length) * 8 ≤ 140737488355328) && decide ((h0.length + ([AV.int .i64 (fI (t0.getD t4.toNat AV.undef) 1)]).length) ≤ 140737488355328)) then .next (IntKind.i64.wrap (t4 + 1), h0 ++ ([AV.int .i64 (fI (t0.getD t4.toNat AV.undef) 1)]))
      else .fail)
     else .fail)
    else .next (IntKind.i64.wrap (t4 + 1), h0))
   else .fail)
  else .stop h0)
def R19_0 (t0 : List AV) : ((Int × (List AV))) → Out ((Int × (List AV))) (((List AV))) := fun s : Int × (List AV) => F19_0 t0 s.1 s.2
def l19_0 : LModel := fun _ _ st k => match st with
  | ⟨[(0, .sl g0 t0), (3, .own g1), (4, .int .i64 t4)], [(g2, ⟨false, g3, h0⟩)]⟩ => bif ctsEq g0 ([.int .i64, .int .i64, .int .i64, .int .i64]) && nmEq g1 ([0, 3]) && nmEq g2 ([0, 3]) && ctsEq g3 ([.int .i64]) then ro (runW (R19_0 t0) (((t0.length : Int) - t4).toNat + 1) (t4, h0)) none (fun p : (List AV) => k (.exit 0) ⟨[(3, AV.own [0, 3])], [([0, 3], ⟨false, [.int .i64], p⟩)]⟩) else none
  | _ => none
noncomputable def c19 : Cfg := cfg Try.prog [(19, 0, [0, 3, 4]), (19, 999, [2]), (19, 1000, [3]), (19, 1001, [0, 3, 4])] [] [] [] [(19, 0, l19_0)]
theorem s19_0 (ce : CallE) (t0 : List AV) (t4 : Int) (h0 : List AV) (next : St → Option AV) (k : Kont) : stepA (codeA c19 ce [] 19 0 (sub [1, 1, 0, 1, 0, 0] (body Try.f19))) (normA [] [0, 3, 4]) next ⟨[(0, AV.sl [.int .i64, .int .i64, .int .i64, .int .i64] t0), (3, AV.own [0, 3]), (4, AV.int .i64 t4)], [([0, 3], ⟨false, [.int .i64], h0⟩)]⟩ k = (bif decide (t4 < (t0.length : Int)) then (bif (decide (0 ≤ t4) && decide (t4 < (t0.length : Int))) then (bif decide (fI (t0.getD t4.toNat AV.undef) 0 = 3) then (bif (decide (0 ≤ t4) && decide (t4 < (t0.length : Int))) then (bif (decide ((h0.length + ([AV.int .i64 (fI (t0.getD t4.toNat AV.undef) 1)]).length) * 8 ≤ 140737488355328) && decide ((h0.length + ([AV.int .i64 (fI (t0.getD t4.toNat AV.undef) 1)]).length) ≤ 140737488355328)) then next ⟨[(0, AV.sl [.int .i64, .int .i64, .int .i64, .int .i64] t0), (3, AV.own [0, 3]), (4, AV.int .i64 (IntKind.i64.wrap (t4 + 1)))], [([0, 3], ⟨false, [.int .i64], h0 ++ ([AV.int .i64 (fI (t0.getD t4.toNat AV.undef) 1)])⟩)]⟩
      else none)
     else none)
    else next ⟨[(0, AV.sl [.int .i64, .int .i64, .int .i64, .int .i64] t0), (3, AV.own [0, 3]), (4, AV.int .i64 (IntKind.i64.wrap (t4 + 1)))], [([0, 3], ⟨false, [.int .i64], h0⟩)]⟩)
   else none)
  else k (.exit 0) ⟨[(3, AV.own [0, 3])], [([0, 3], ⟨false, [.int .i64], h0⟩)]⟩) := by kernel_rfl
theorem st19_0 (t0 : List AV) (ce : CallE) (k : Kont) (s : (Int × (List AV))) (next : St → Option AV) : stepA (codeA c19 ce [] 19 0 (sub [1, 1, 0, 1, 0, 0] (body Try.f19))) (normA [] [0, 3, 4]) next ((fun s : Int × (List AV) => ⟨[(0, AV.sl [.int .i64, .int .i64, .int .i64, .int .i64] t0), (3, AV.own [0, 3]), (4, AV.int .i64 s.1)], [([0, 3], ⟨false, [.int .i64], s.2⟩)]⟩) s) k = (R19_0 t0 s).el none (fun s => next ((fun s : Int × (List AV) => ⟨[(0, AV.sl [.int .i64, .int .i64, .int .i64, .int .i64] t0), (3, AV.own [0, 3]), (4, AV.int .i64 s.1)], [([0, 3], ⟨false, [.int .i64], s.2⟩)]⟩) s)) (fun p : (List AV) => k (.exit 0) ⟨[(3, AV.own [0, 3])], [([0, 3], ⟨false, [.int .i64], p⟩)]⟩) := (s19_0 ce t0 s.1 s.2 next k).trans (by unfold R19_0; unfold F19_0; simp only [el_cond, el_ro, el_sum, el_fail, el_next, el_stop] <;> rfl)
theorem ok19_0 : LoopOK c19 [] 19 0 (sub [1, 1, 0, 1, 0, 0] (body Try.f19)) := by
  intro m hm ce st k r h
  obtain rfl : l19_0 = m := Option.some.inj hm
  unfold l19_0 at h
  split at h
  · rename_i g0 t0 g1 t4 g2 g3 h0
    obtain ⟨hg, h⟩ := bif_some h
    simp only [Bool.and_eq_true] at hg
    obtain ⟨⟨⟨q0, q1⟩, q2⟩, q3⟩ := hg
    obtain rfl := ctsEq_eq _ _ q0
    obtain rfl := (nmEq_iff _ _).1 q1
    obtain rfl := (nmEq_iff _ _).1 q2
    obtain rfl := ctsEq_eq _ _ q3
    refine ⟨(((t0.length : Int) - t4).toNat + 1), ?_⟩
    rw [← h]
    exact loop_run (fun s : Int × (List AV) => ⟨[(0, AV.sl [.int .i64, .int .i64, .int .i64, .int .i64] t0), (3, AV.own [0, 3]), (4, AV.int .i64 s.1)], [([0, 3], ⟨false, [.int .i64], s.2⟩)]⟩) (fun p : (List AV) => k (.exit 0) ⟨[(3, AV.own [0, 3])], [([0, 3], ⟨false, [.int .i64], p⟩)]⟩) (st19_0 t0 ce k) _ (t4, h0)
  · cases h
def q19 (a0 : List AV) : Bool := (ro (runW (R19_0 a0) (((a0.length : Int) - 0).toNat + 1) (0, ([] : List AV))) false (fun p2 => true))
def v19_0 (a0 : List AV) : List AV := (ro (runW (R19_0 a0) (((a0.length : Int) - 0).toNat + 1) (0, ([] : List AV))) [] (fun p2 => p2))
theorem e19 (a0 : List AV) : funA c19 0 19 [AV.sl [.int .i64, .int .i64, .int .i64, .int .i64] a0] = (ro (runW (R19_0 a0) (((a0.length : Int) - 0).toNat + 1) (0, ([] : List AV))) none (fun p2 => some (AV.fl [.int .i64] p2))) := by kernel_rfl
theorem r19 (a0 : List AV) (h : q19 a0 = true) : funA c19 0 19 [AV.sl [.int .i64, .int .i64, .int .i64, .int .i64] a0] = some (AV.fl [.int .i64] (v19_0 a0)) := (e19 a0).trans ((brO (fun o : Option (((List AV))) => some (AV.fl [.int .i64] (ro o [] (fun p2 => p2)))) (fun p2 => (fun _ => rfl))) h)
def m19 : TModel
  | [.sl g0 a0] => bif ctsEq g0 ([.int .i64, .int .i64, .int .i64, .int .i64]) then some (q19 a0, AV.fl [.int .i64] (v19_0 a0)) else none
  | _ => none
theorem k19 : Known Try.prog 19 := ⟨Try.f19, Try.func19, by kernel_rfl, by kernel_rfl⟩
theorem meets19 : Meets Try.prog 19 m19 := by
  refine meet (f := Try.f19) (l := [(0, sub [1, 1, 0, 1, 0, 0] (body Try.f19))]) (hs := [(19, 0, [0, 3, 4]), (19, 999, [2]), (19, 1000, [3]), (19, 1001, [0, 3, 4])]) (ts := []) (ws := []) (is := []) (ls := [(19, 0, l19_0)]) (lvl := 0) mixed k19 Try.func19 (by kernel_rfl) (loops_cons ok19_0 noLoop) allT_nil allM_nil noI fun w xs us r hl hv h => ?_
  unfold m19 at h
  split at h
  · rename_i g0 a0
    obtain ⟨hg, h⟩ := bif_pair h
    have q0 := hg
    obtain rfl := ctsEq_eq _ _ q0
    obtain ⟨h1, rfl⟩ := pair_inj h
    exact r19 a0 h1
  · cases h

/-! ### 21 loop.example/g01984/impl.CompletedCracks -/
def F21_0 (t7 : List AV) (t8 : Int) (t9 : Int) (h0 : List AV) : Out ((Int × (List AV))) (((List AV))) := (bif decide (t9 < t8) then (bif (decide (0 ≤ t9) && decide (t9 < (t7.length : Int))) then (bif decide (fI (t7.getD t9.toNat AV.undef) 0 = 3) then (bif (decide ((h0.length + ([AV.int .i64 (fI (t7.getD t9.toNat AV.undef) 1)]).length) * 8 ≤ 140737488355328) && decide ((h0.length + ([AV.int .i64 (fI (t7.getD t9.toNat AV.undef) 1)]).length) ≤ 140737488355328)) then .next (IntKind.i64.wrap (t9 + 1), h0 ++ ([AV.int .i64 (fI (t7.getD t9.toNat AV.undef) 1)]))
     else .fail)
    else .next (IntKind.i64.wrap (t9 + 1), h0))
   else .fail)
  else .stop h0)
def R21_0 (t7 : List AV) (t8 : Int) : ((Int × (List AV))) → Out ((Int × (List AV))) (((List AV))) := fun s : Int × (List AV) => F21_0 t7 t8 s.1 s.2
def l21_0 : LModel := fun _ _ st k => match st with
  | ⟨[(3, .own g0), (7, .sl g1 t7), (8, .int .i64 t8), (9, .int .i64 t9)], [(g2, ⟨false, g3, h0⟩)]⟩ => bif nmEq g0 ([0, 3]) && ctsEq g1 ([.int .i64, .int .i64, .int .i64, .int .i64]) && nmEq g2 ([0, 3]) && ctsEq g3 ([.int .i64]) then ro (runW (R21_0 t7 t8) ((t8 - t9).toNat + 1) (t9, h0)) none (fun p : (List AV) => k (.exit 0) ⟨[(3, AV.own [0, 3])], [([0, 3], ⟨false, [.int .i64], p⟩)]⟩) else none
  | _ => none
noncomputable def c21 : Cfg := cfg Try.prog [(21, 0, [3, 7, 8, 9]), (21, 999, [2]), (21, 1000, [3]), (21, 1001, [3, 7, 8, 9])] [] [] [] [(21, 0, l21_0)]
theorem s21_0 (ce : CallE) (t7 : List AV) (t8 : Int) (t9 : Int) (h0 : List AV) (next : St → Option AV) (k : Kont) : stepA (codeA c21 ce [] 21 0 (sub [1, 1, 0, 1, 0, 0] (body Try.f21))) (normA [] [3, 7, 8, 9]) next ⟨[(3, AV.own [0, 3]), (7, AV.sl [.int .i64, .int .i64, .int .i64, .int .i64] t7), (8, AV.int .i64 t8), (9, AV.int .i64 t9)], [([0, 3], ⟨false, [.int .i64], h0⟩)]⟩ k = (bif decide (t9 < t8) then (bif (decide (0 ≤ t9) && decide (t9 < (t7.length : Int))) then (bif decide (fI (t7.getD t9.toNat AV.undef) 0 = 3) then (bif (decide ((h0.length + ([AV.int .i64 (fI (t7.getD t9.toNat AV.undef) 1)]).length) * 8 ≤ 140737488355328) && decide ((h0.length + ([AV.int .i64 (fI (t7.getD t9.toNat AV.undef) 1)]).length) ≤ 140737488355328)) then next ⟨[(3, AV.own [0, 3]), (7, AV.sl [.int .i64, .int .i64, .int .i64, .int .i64] t7), (8, AV.int .i64 t8), (9, AV.int .i64 (IntKind.i64.wrap (t9 + 1)))], [([0, 3], ⟨false, [.int .i64], h0 ++ ([AV.int .i64 (fI (t7.getD t9.toNat AV.undef) 1)])⟩)]⟩
     else none)
    else next ⟨[(3, AV.own [0, 3]), (7, AV.sl [.int .i64, .int .i64, .int .i64, .int .i64] t7), (8, AV.int .i64 t8), (9, AV.int .i64 (IntKind.i64.wrap (t9 + 1)))], [([0, 3], ⟨false, [.int .i64], h0⟩)]⟩)
   else none)
  else k (.exit 0) ⟨[(3, AV.own [0, 3])], [([0, 3], ⟨false, [.int .i64], h0⟩)]⟩) := by kernel_rfl
theorem st21_0 (t7 : List AV) (t8 : Int) (ce : CallE) (k : Kont) (s : (Int × (List AV))) (next : St → Option AV) : stepA (codeA c21 ce [] 21 0 (sub [1, 1, 0, 1, 0, 0] (body Try.f21))) (normA [] [3, 7, 8, 9]) next ((fun s : Int × (List AV) => ⟨[(3, AV.own [0, 3]), (7, AV.sl [.int .i64, .int .i64, .int .i64, .int .i64] t7), (8, AV.int .i64 t8), (9, AV.int .i64 s.1)], [([0, 3], ⟨false, [.int .i64], s.2⟩)]⟩) s) k = (R21_0 t7 t8 s).el none (fun s => next ((fun s : Int × (List AV) => ⟨[(3, AV.own [0, 3]), (7, AV.sl [.int .i64, .int .i64, .int .i64, .int .i64] t7), (8, AV.int .i64 t8), (9, AV.int .i64 s.1)], [([0, 3], ⟨false, [.int .i64], s.2⟩)]⟩) s)) (fun p : (List AV) => k (.exit 0) ⟨[(3, AV.own [0, 3])], [([0, 3], ⟨false, [.int .i64], p⟩)]⟩) := (s21_0 ce t7 t8 s.1 s.2 next k).trans (by unfold R21_0; unfold F21_0; simp only [el_cond, el_ro, el_sum, el_fail, el_next, el_stop] <;> rfl)
theorem ok21_0 : LoopOK c21 [] 21 0 (sub [1, 1, 0, 1, 0, 0] (body Try.f21)) := by
  intro m hm ce st k r h
  obtain rfl : l21_0 = m := Option.some.inj hm
  unfold l21_0 at h
  split at h
  · rename_i g0 g1 t7 t8 t9 g2 g3 h0
    obtain ⟨hg, h⟩ := bif_some h
    simp only [Bool.and_eq_true] at hg
    obtain ⟨⟨⟨q0, q1⟩, q2⟩, q3⟩ := hg
    obtain rfl := (nmEq_iff _ _).1 q0
    obtain rfl := ctsEq_eq _ _ q1
    obtain rfl := (nmEq_iff _ _).1 q2
    obtain rfl := ctsEq_eq _ _ q3
    refine ⟨((t8 - t9).toNat + 1), ?_⟩
    rw [← h]
    exact loop_run (fun s : Int × (List AV) => ⟨[(3, AV.own [0, 3]), (7, AV.sl [.int .i64, .int .i64, .int .i64, .int .i64] t7), (8, AV.int .i64 t8), (9, AV.int .i64 s.1)], [([0, 3], ⟨false, [.int .i64], s.2⟩)]⟩) (fun p : (List AV) => k (.exit 0) ⟨[(3, AV.own [0, 3])], [([0, 3], ⟨false, [.int .i64], p⟩)]⟩) (st21_0 t7 t8 ce k) _ (t9, h0)
  · cases h
def q21 (a0 : List AV) : Bool := (ro (runW (R21_0 a0 (a0.length : Int)) (((a0.length : Int) - 0).toNat + 1) (0, ([] : List AV))) false (fun p3 => true))
def v21_0 (a0 : List AV) : List AV := (ro (runW (R21_0 a0 (a0.length : Int)) (((a0.length : Int) - 0).toNat + 1) (0, ([] : List AV))) [] (fun p3 => p3))
theorem e21 (a0 : List AV) : funA c21 0 21 [AV.sl [.int .i64, .int .i64, .int .i64, .int .i64] a0] = (ro (runW (R21_0 a0 (a0.length : Int)) (((a0.length : Int) - 0).toNat + 1) (0, ([] : List AV))) none (fun p3 => some (AV.fl [.int .i64] p3))) := by kernel_rfl
theorem r21 (a0 : List AV) (h : q21 a0 = true) : funA c21 0 21 [AV.sl [.int .i64, .int .i64, .int .i64, .int .i64] a0] = some (AV.fl [.int .i64] (v21_0 a0)) := (e21 a0).trans ((brO (fun o : Option (((List AV))) => some (AV.fl [.int .i64] (ro o [] (fun p3 => p3)))) (fun p3 => (fun _ => rfl))) h)
def m21 : TModel
  | [.sl g0 a0] => bif ctsEq g0 ([.int .i64, .int .i64, .int .i64, .int .i64]) then some (q21 a0, AV.fl [.int .i64] (v21_0 a0)) else none
  | _ => none
theorem k21 : Known Try.prog 21 := ⟨Try.f21, Try.func21, by kernel_rfl, by kernel_rfl⟩
theorem meets21 : Meets Try.prog 21 m21 := by
  refine meet (f := Try.f21) (l := [(0, sub [1, 1, 0, 1, 0, 0] (body Try.f21))]) (hs := [(21, 0, [3, 7, 8, 9]), (21, 999, [2]), (21, 1000, [3]), (21, 1001, [3, 7, 8, 9])]) (ts := []) (ws := []) (is := []) (ls := [(21, 0, l21_0)]) (lvl := 0) mixed k21 Try.func21 (by kernel_rfl) (loops_cons ok21_0 noLoop) allT_nil allM_nil noI fun w xs us r hl hv h => ?_
  unfold m21 at h
  split at h
  · rename_i g0 a0
    obtain ⟨hg, h⟩ := bif_pair h
    have q0 := hg
    obtain rfl := ctsEq_eq _ _ q0
    obtain ⟨h1, rfl⟩ := pair_inj h
    exact r21 a0 h1
  · cases h

/-! ### 22 loop.example/g01984/laws.eqIntS -/
def F22_0 (t0 : List AV) (t1 : List AV) (t5 : Int) : Out (Int) (Unit ⊕ Unit) := (bif decide (t5 < (t0.length : Int)) then (bif (decide (0 ≤ t5) && decide (t5 < (t0.length : Int))) then (bif (decide (0 ≤ t5) && decide (t5 < (t1.length : Int))) then (bif !decide (fI (t0.getD t5.toNat AV.undef) 0 = fI (t1.getD t5.toNat AV.undef) 0) then .stop (.inr ())
     else .next (IntKind.i64.wrap (t5 + 1)))
    else .fail)
   else .fail)
  else .stop (.inl ()))
def R22_0 (t0 : List AV) (t1 : List AV) : (Int) → Out (Int) (Unit ⊕ Unit) := fun s : Int => F22_0 t0 t1 s
def l22_0 : LModel := fun _ _ st k => match st with
  | ⟨[(0, .sl g0 t0), (1, .sl g1 t1), (5, .int .i64 t5)], []⟩ => bif ctsEq g0 ([.int .i64]) && ctsEq g1 ([.int .i64]) then ro (runW (R22_0 t0 t1) (((t0.length : Int) - t5).toNat + 1) t5) none (sumE (fun _ : Unit => k (.exit 0) ⟨[], []⟩) (fun _ : Unit => k .ret ⟨[(4, AV.bool false)], []⟩)) else none
  | _ => none
noncomputable def c22 : Cfg := cfg Try.prog [(22, 0, [0, 1, 5]), (22, 999, [4]), (22, 1000, []), (22, 1001, [0, 1, 5])] [] [] [] [(22, 0, l22_0)]
theorem s22_0 (ce : CallE) (t0 : List AV) (t1 : List AV) (t5 : Int) (next : St → Option AV) (k : Kont) : stepA (codeA c22 ce [] 22 0 (sub [1, 1, 0, 1, 0, 0] (body Try.f22))) (normA [] [0, 1, 5]) next ⟨[(0, AV.sl [.int .i64] t0), (1, AV.sl [.int .i64] t1), (5, AV.int .i64 t5)], []⟩ k = (bif decide (t5 < (t0.length : Int)) then (bif (decide (0 ≤ t5) && decide (t5 < (t0.length : Int))) then (bif (decide (0 ≤ t5) && decide (t5 < (t1.length : Int))) then (bif !decide (fI (t0.getD t5.toNat AV.undef) 0 = fI (t1.getD t5.toNat AV.undef) 0) then k .ret ⟨[(4, AV.bool false)], []⟩
     else next ⟨[(0, AV.sl [.int .i64] t0), (1, AV.sl [.int .i64] t1), (5, AV.int .i64 (IntKind.i64.wrap (t5 + 1)))], []⟩)
    else none)
   else none)
  else k (.exit 0) ⟨[], []⟩) := by kernel_rfl
theorem st22_0 (t0 : List AV) (t1 : List AV) (ce : CallE) (k : Kont) (s : Int) (next : St → Option AV) : stepA (codeA c22 ce [] 22 0 (sub [1, 1, 0, 1, 0, 0] (body Try.f22))) (normA [] [0, 1, 5]) next ((fun s : Int => ⟨[(0, AV.sl [.int .i64] t0), (1, AV.sl [.int .i64] t1), (5, AV.int .i64 s)], []⟩) s) k = (R22_0 t0 t1 s).el none (fun s => next ((fun s : Int => ⟨[(0, AV.sl [.int .i64] t0), (1, AV.sl [.int .i64] t1), (5, AV.int .i64 s)], []⟩) s)) (sumE (fun _ : Unit => k (.exit 0) ⟨[], []⟩) (fun _ : Unit => k .ret ⟨[(4, AV.bool false)], []⟩)) := (s22_0 ce t0 t1 s next k).trans (by unfold R22_0; unfold F22_0; simp only [el_cond, el_ro, el_sum, el_fail, el_next, el_stop] <;> rfl)
theorem ok22_0 : LoopOK c22 [] 22 0 (sub [1, 1, 0, 1, 0, 0] (body Try.f22)) := by
  intro m hm ce st k r h
  obtain rfl : l22_0 = m := Option.some.inj hm
  unfold l22_0 at h
  split at h
  · rename_i g0 t0 g1 t1 t5
    obtain ⟨hg, h⟩ := bif_some h
    simp only [Bool.and_eq_true] at hg
    obtain ⟨q0, q1⟩ := hg
    obtain rfl := ctsEq_eq _ _ q0
    obtain rfl := ctsEq_eq _ _ q1
    refine ⟨(((t0.length : Int) - t5).toNat + 1), ?_⟩
    rw [← h]
    exact loop_run (fun s : Int => ⟨[(0, AV.sl [.int .i64] t0), (1, AV.sl [.int .i64] t1), (5, AV.int .i64 s)], []⟩) (sumE (fun _ : Unit => k (.exit 0) ⟨[], []⟩) (fun _ : Unit => k .ret ⟨[(4, AV.bool false)], []⟩)) (st22_0 t0 t1 ce k) _ t5
  · cases h
def q22 (a0 : List AV) (a1 : List AV) : Bool := (bif !decide ((a0.length : Int) = (a1.length : Int)) then true else (ro (runW (R22_0 a0 a1) (((a0.length : Int) - 0).toNat + 1) 0) false (sumE (fun _ => true) (fun _ => true))))
def v22_0 (a0 : List AV) (a1 : List AV) : Bool := (bif !decide ((a0.length : Int) = (a1.length : Int)) then false else (ro (runW (R22_0 a0 a1) (((a0.length : Int) - 0).toNat + 1) 0) false (sumE (fun _ => true) (fun _ => false))))
theorem e22 (a0 : List AV) (a1 : List AV) : funA c22 0 22 [AV.sl [.int .i64] a0, AV.sl [.int .i64] a1] = (bif !decide ((a0.length : Int) = (a1.length : Int)) then some (AV.bool false)
  else (ro (runW (R22_0 a0 a1) (((a0.length : Int) - 0).toNat + 1) 0) none (sumE (fun _ => some (AV.bool true)) (fun _ => some (AV.bool false))))) := by kernel_rfl
theorem r22 (a0 : List AV) (a1 : List AV) (h : q22 a0 a1 = true) : funA c22 0 22 [AV.sl [.int .i64] a0, AV.sl [.int .i64] a1] = some (AV.bool (v22_0 a0 a1)) := (e22 a0 a1).trans ((br (fun b => some (AV.bool (bif b then false else (ro (runW (R22_0 a0 a1) (((a0.length : Int) - 0).toNat + 1) 0) false (sumE (fun _ => true) (fun _ => false)))))) (fun _ => rfl) (brO (fun o : Option (Unit ⊕ Unit) => some (AV.bool (ro o false (sumE (fun _ => true) (fun _ => false))))) (brS (fun o : Unit ⊕ Unit => some (AV.bool ((sumE (fun _ => true) (fun _ => false)) o))) (fun _ => (fun _ => rfl)) (fun _ => (fun _ => rfl))))) h)
def m22 : TModel
  | [.sl g0 a0, .sl g1 a1] => bif ctsEq g0 ([.int .i64]) && ctsEq g1 ([.int .i64]) then some (q22 a0 a1, AV.bool (v22_0 a0 a1)) else none
  | _ => none
theorem k22 : Known Try.prog 22 := ⟨Try.f22, Try.func22, by kernel_rfl, by kernel_rfl⟩
theorem meets22 : Meets Try.prog 22 m22 := by
  refine meet (f := Try.f22) (l := [(0, sub [1, 1, 0, 1, 0, 0] (body Try.f22))]) (hs := [(22, 0, [0, 1, 5]), (22, 999, [4]), (22, 1000, []), (22, 1001, [0, 1, 5])]) (ts := []) (ws := []) (is := []) (ls := [(22, 0, l22_0)]) (lvl := 0) mixed k22 Try.func22 (by kernel_rfl) (loops_cons ok22_0 noLoop) allT_nil allM_nil noI fun w xs us r hl hv h => ?_
  unfold m22 at h
  split at h
  · rename_i g0 a0 g1 a1
    obtain ⟨hg, h⟩ := bif_pair h
    simp only [Bool.and_eq_true] at hg
    obtain ⟨q0, q1⟩ := hg
    obtain rfl := ctsEq_eq _ _ q0
    obtain rfl := ctsEq_eq _ _ q1
    obtain ⟨h1, rfl⟩ := pair_inj h
    exact r22 a0 a1 h1
  · cases h

/-! ### 65 loop.example/g01984/laws.eqEntry -/
noncomputable def c65 : Cfg := cfg Try.prog [(65, 999, [4])] [] [] [] []
def q65 (a0_0 : Int) (a0_1 : Int) (a0_2 : Int) (a0_3 : Int) (a1_0 : Int) (a1_1 : Int) (a1_2 : Int) (a1_3 : Int) : Bool := true
def v65_0 (a0_0 : Int) (a0_1 : Int) (a0_2 : Int) (a0_3 : Int) (a1_0 : Int) (a1_1 : Int) (a1_2 : Int) (a1_3 : Int) : Bool := (bif !decide (a0_0 = a1_0) then false else (bif !decide (a0_1 = a1_1) then false else (bif !decide (a0_2 = a1_2) then false else (bif !decide (a0_3 = a1_3) then false else true))))
theorem e65 (a0_0 : Int) (a0_1 : Int) (a0_2 : Int) (a0_3 : Int) (a1_0 : Int) (a1_1 : Int) (a1_2 : Int) (a1_3 : Int) : funA c65 0 65 [AV.agg [AV.int .i64 a0_0, AV.int .i64 a0_1, AV.int .i64 a0_2, AV.int .i64 a0_3], AV.agg [AV.int .i64 a1_0, AV.int .i64 a1_1, AV.int .i64 a1_2, AV.int .i64 a1_3]] = (bif !decide (a0_0 = a1_0) then some (AV.bool false)
  else (bif !decide (a0_1 = a1_1) then some (AV.bool false)
   else (bif !decide (a0_2 = a1_2) then some (AV.bool false)
    else (bif !decide (a0_3 = a1_3) then some (AV.bool false)
     else some (AV.bool true))))) := by kernel_rfl
theorem r65 (a0_0 : Int) (a0_1 : Int) (a0_2 : Int) (a0_3 : Int) (a1_0 : Int) (a1_1 : Int) (a1_2 : Int) (a1_3 : Int) : funA c65 0 65 [AV.agg [AV.int .i64 a0_0, AV.int .i64 a0_1, AV.int .i64 a0_2, AV.int .i64 a0_3], AV.agg [AV.int .i64 a1_0, AV.int .i64 a1_1, AV.int .i64 a1_2, AV.int .i64 a1_3]] = some (AV.bool (v65_0 a0_0 a0_1 a0_2 a0_3 a1_0 a1_1 a1_2 a1_3)) := (e65 a0_0 a0_1 a0_2 a0_3 a1_0 a1_1 a1_2 a1_3).trans (of_tt (brT (fun b => some (AV.bool (bif b then false else (bif !decide (a0_1 = a1_1) then false else (bif !decide (a0_2 = a1_2) then false else (bif !decide (a0_3 = a1_3) then false else true)))))) (fun _ => rfl) (brT (fun b => some (AV.bool (bif b then false else (bif !decide (a0_2 = a1_2) then false else (bif !decide (a0_3 = a1_3) then false else true))))) (fun _ => rfl) (brT (fun b => some (AV.bool (bif b then false else (bif !decide (a0_3 = a1_3) then false else true)))) (fun _ => rfl) (brT (fun b => some (AV.bool (bif b then false else true))) (fun _ => rfl) (fun _ => rfl))))))
def m65 : TModel
  | [.agg [.int .i64 a0_0, .int .i64 a0_1, .int .i64 a0_2, .int .i64 a0_3], .agg [.int .i64 a1_0, .int .i64 a1_1, .int .i64 a1_2, .int .i64 a1_3]] => some (true, AV.bool (v65_0 a0_0 a0_1 a0_2 a0_3 a1_0 a1_1 a1_2 a1_3))
  | _ => none
theorem k65 : Known Try.prog 65 := ⟨Try.f65, Try.func65, by kernel_rfl, by kernel_rfl⟩
theorem meets65 : Meets Try.prog 65 m65 := by
  refine meet (f := Try.f65) (l := []) (hs := [(65, 999, [4])]) (ts := []) (ws := []) (is := []) (ls := []) (lvl := 0) mixed k65 Try.func65 (by kernel_rfl) noLoop allT_nil allM_nil noI fun w xs us r hl hv h => ?_
  unfold m65 at h
  split at h
  · rename_i a0_0 a0_1 a0_2 a0_3 a1_0 a1_1 a1_2 a1_3
    obtain ⟨h1, rfl⟩ := pair_inj h
    exact r65 a0_0 a0_1 a0_2 a0_3 a1_0 a1_1 a1_2 a1_3
  · cases h

/-! ### 23 loop.example/g01984/laws.eqEntryS -/
def F23_0 (t0 : List AV) (t1 : List AV) (t5 : Int) : Out (Int) (Unit ⊕ Unit) := (bif decide (t5 < (t0.length : Int)) then (bif (decide (0 ≤ t5) && decide (t5 < (t0.length : Int))) then (bif (decide (0 ≤ t5) && decide (t5 < (t1.length : Int))) then (bif !(v65_0 (fI (t0.getD t5.toNat AV.undef) 0) (fI (t0.getD t5.toNat AV.undef) 1) (fI (t0.getD t5.toNat AV.undef) 2) (fI (t0.getD t5.toNat AV.undef) 3) (fI (t1.getD t5.toNat AV.undef) 0) (fI (t1.getD t5.toNat AV.undef) 1) (fI (t1.getD t5.toNat AV.undef) 2) (fI (t1.getD t5.toNat AV.undef) 3)) then .stop (.inr ())
     else .next (IntKind.i64.wrap (t5 + 1)))
    else .fail)
   else .fail)
  else .stop (.inl ()))
def R23_0 (t0 : List AV) (t1 : List AV) : (Int) → Out (Int) (Unit ⊕ Unit) := fun s : Int => F23_0 t0 t1 s
def l23_0 : LModel := fun _ _ st k => match st with
  | ⟨[(0, .sl g0 t0), (1, .sl g1 t1), (5, .int .i64 t5)], []⟩ => bif ctsEq g0 ([.int .i64, .int .i64, .int .i64, .int .i64]) && ctsEq g1 ([.int .i64, .int .i64, .int .i64, .int .i64]) then ro (runW (R23_0 t0 t1) (((t0.length : Int) - t5).toNat + 1) t5) none (sumE (fun _ : Unit => k (.exit 0) ⟨[], []⟩) (fun _ : Unit => k .ret ⟨[(4, AV.bool false)], []⟩)) else none
  | _ => none
noncomputable def c23 : Cfg := cfg Try.prog [(23, 0, [0, 1, 5]), (23, 999, [4]), (23, 1000, []), (23, 1001, [0, 1, 5])] [(65, m65)] [] [] [(23, 0, l23_0)]
theorem s23_0 (ce : CallE) (t0 : List AV) (t1 : List AV) (t5 : Int) (next : St → Option AV) (k : Kont) : stepA (codeA c23 ce [] 23 0 (sub [1, 1, 0, 1, 0, 0] (body Try.f23))) (normA [] [0, 1, 5]) next ⟨[(0, AV.sl [.int .i64, .int .i64, .int .i64, .int .i64] t0), (1, AV.sl [.int .i64, .int .i64, .int .i64, .int .i64] t1), (5, AV.int .i64 t5)], []⟩ k = (bif decide (t5 < (t0.length : Int)) then (bif (decide (0 ≤ t5) && decide (t5 < (t0.length : Int))) then (bif (decide (0 ≤ t5) && decide (t5 < (t1.length : Int))) then (bif !(v65_0 (fI (t0.getD t5.toNat AV.undef) 0) (fI (t0.getD t5.toNat AV.undef) 1) (fI (t0.getD t5.toNat AV.undef) 2) (fI (t0.getD t5.toNat AV.undef) 3) (fI (t1.getD t5.toNat AV.undef) 0) (fI (t1.getD t5.toNat AV.undef) 1) (fI (t1.getD t5.toNat AV.undef) 2) (fI (t1.getD t5.toNat AV.undef) 3)) then k .ret ⟨[(4, AV.bool false)], []⟩
     else next ⟨[(0, AV.sl [.int .i64, .int .i64, .int .i64, .int .i64] t0), (1, AV.sl [.int .i64, .int .i64, .int .i64, .int .i64] t1), (5, AV.int .i64 (IntKind.i64.wrap (t5 + 1)))], []⟩)
    else none)
   else none)
  else k (.exit 0) ⟨[], []⟩) := by kernel_rfl
theorem st23_0 (t0 : List AV) (t1 : List AV) (ce : CallE) (k : Kont) (s : Int) (next : St → Option AV) : stepA (codeA c23 ce [] 23 0 (sub [1, 1, 0, 1, 0, 0] (body Try.f23))) (normA [] [0, 1, 5]) next ((fun s : Int => ⟨[(0, AV.sl [.int .i64, .int .i64, .int .i64, .int .i64] t0), (1, AV.sl [.int .i64, .int .i64, .int .i64, .int .i64] t1), (5, AV.int .i64 s)], []⟩) s) k = (R23_0 t0 t1 s).el none (fun s => next ((fun s : Int => ⟨[(0, AV.sl [.int .i64, .int .i64, .int .i64, .int .i64] t0), (1, AV.sl [.int .i64, .int .i64, .int .i64, .int .i64] t1), (5, AV.int .i64 s)], []⟩) s)) (sumE (fun _ : Unit => k (.exit 0) ⟨[], []⟩) (fun _ : Unit => k .ret ⟨[(4, AV.bool false)], []⟩)) := (s23_0 ce t0 t1 s next k).trans (by unfold R23_0; unfold F23_0; simp only [el_cond, el_ro, el_sum, el_fail, el_next, el_stop] <;> rfl)
theorem ok23_0 : LoopOK c23 [] 23 0 (sub [1, 1, 0, 1, 0, 0] (body Try.f23)) := by
  intro m hm ce st k r h
  obtain rfl : l23_0 = m := Option.some.inj hm
  unfold l23_0 at h
  split at h
  · rename_i g0 t0 g1 t1 t5
    obtain ⟨hg, h⟩ := bif_some h
    simp only [Bool.and_eq_true] at hg
    obtain ⟨q0, q1⟩ := hg
    obtain rfl := ctsEq_eq _ _ q0
    obtain rfl := ctsEq_eq _ _ q1
    refine ⟨(((t0.length : Int) - t5).toNat + 1), ?_⟩
    rw [← h]
    exact loop_run (fun s : Int => ⟨[(0, AV.sl [.int .i64, .int .i64, .int .i64, .int .i64] t0), (1, AV.sl [.int .i64, .int .i64, .int .i64, .int .i64] t1), (5, AV.int .i64 s)], []⟩) (sumE (fun _ : Unit => k (.exit 0) ⟨[], []⟩) (fun _ : Unit => k .ret ⟨[(4, AV.bool false)], []⟩)) (st23_0 t0 t1 ce k) _ t5
  · cases h
def q23 (a0 : List AV) (a1 : List AV) : Bool := (bif !decide ((a0.length : Int) = (a1.length : Int)) then true else (ro (runW (R23_0 a0 a1) (((a0.length : Int) - 0).toNat + 1) 0) false (sumE (fun _ => true) (fun _ => true))))
def v23_0 (a0 : List AV) (a1 : List AV) : Bool := (bif !decide ((a0.length : Int) = (a1.length : Int)) then false else (ro (runW (R23_0 a0 a1) (((a0.length : Int) - 0).toNat + 1) 0) false (sumE (fun _ => true) (fun _ => false))))
theorem e23 (a0 : List AV) (a1 : List AV) : funA c23 0 23 [AV.sl [.int .i64, .int .i64, .int .i64, .int .i64] a0, AV.sl [.int .i64, .int .i64, .int .i64, .int .i64] a1] = (bif !decide ((a0.length : Int) = (a1.length : Int)) then some (AV.bool false)
  else (ro (runW (R23_0 a0 a1) (((a0.length : Int) - 0).toNat + 1) 0) none (sumE (fun _ => some (AV.bool true)) (fun _ => some (AV.bool false))))) := by kernel_rfl
theorem r23 (a0 : List AV) (a1 : List AV) (h : q23 a0 a1 = true) : funA c23 0 23 [AV.sl [.int .i64, .int .i64, .int .i64, .int .i64] a0, AV.sl [.int .i64, .int .i64, .int .i64, .int .i64] a1] = some (AV.bool (v23_0 a0 a1)) := (e23 a0 a1).trans ((br (fun b => some (AV.bool (bif b then false else (ro (runW (R23_0 a0 a1) (((a0.length : Int) - 0).toNat + 1) 0) false (sumE (fun _ => true) (fun _ => false)))))) (fun _ => rfl) (brO (fun o : Option (Unit ⊕ Unit) => some (AV.bool (ro o false (sumE (fun _ => true) (fun _ => false))))) (brS (fun o : Unit ⊕ Unit => some (AV.bool ((sumE (fun _ => true) (fun _ => false)) o))) (fun _ => (fun _ => rfl)) (fun _ => (fun _ => rfl))))) h)
def m23 : TModel
  | [.sl g0 a0, .sl g1 a1] => bif ctsEq g0 ([.int .i64, .int .i64, .int .i64, .int .i64]) && ctsEq g1 ([.int .i64, .int .i64, .int .i64, .int .i64]) then some (q23 a0 a1, AV.bool (v23_0 a0 a1)) else none
  | _ => none
theorem k23 : Known Try.prog 23 := ⟨Try.f23, Try.func23, by kernel_rfl, by kernel_rfl⟩
theorem meets23 : Meets Try.prog 23 m23 := by
  refine meet (f := Try.f23) (l := [(0, sub [1, 1, 0, 1, 0, 0] (body Try.f23))]) (hs := [(23, 0, [0, 1, 5]), (23, 999, [4]), (23, 1000, []), (23, 1001, [0, 1, 5])]) (ts := [(65, m65)]) (ws := []) (is := []) (ls := [(23, 0, l23_0)]) (lvl := 0) mixed k23 Try.func23 (by kernel_rfl) (loops_cons ok23_0 noLoop) (allT_cons meets65 allT_nil) allM_nil noI fun w xs us r hl hv h => ?_
  unfold m23 at h
  split at h
  · rename_i g0 a0 g1 a1
    obtain ⟨hg, h⟩ := bif_pair h
    simp only [Bool.and_eq_true] at hg
    obtain ⟨q0, q1⟩ := hg
    obtain rfl := ctsEq_eq _ _ q0
    obtain rfl := ctsEq_eq _ _ q1
    obtain ⟨h1, rfl⟩ := pair_inj h
    exact r23 a0 a1 h1
  · cases h

/-! ### 24 loop.example/g01984/laws.markEntryS -/
def F24_0 (t1 : Int) (t5 : Int) (h0 : List AV) : Out ((Int × Int × (List AV))) ((Int × (List AV))) := (bif decide (t5 < (h0.length : Int)) then (bif (decide (0 ≤ t5) && decide (t5 < (h0.length : Int))) then (bif (decide (0 ≤ t5) && decide (t5 < ((h0.set t5.toNat (AV.agg [AV.int .i64 t1, AV.int .i64 (fI (h0.getD t5.toNat AV.undef) 1), AV.int .i64 (fI (h0.getD t5.toNat AV.undef) 2), AV.int .i64 (fI (h0.getD t5.toNat AV.undef) 3)])).length : Int))) then (bif (decide (0 ≤ t5) && decide (t5 < (((h0.set t5.toNat (AV.agg [AV.int .i64 t1, AV.int .i64 (fI (h0.getD t5.toNat AV.undef) 1), AV.int .i64 (fI (h0.getD t5.toNat AV.undef) 2), AV.int .i64 (fI (h0.getD t5.toNat AV.undef) 3)])).set t5.toNat (AV.agg [AV.int .i64 (fI ((h0.set t5.toNat (AV.agg [AV.int .i64 t1, AV.int .i64 (fI (h0.getD t5.toNat AV.undef) 1), AV.int .i64 (fI (h0.getD t5.toNat AV.undef) 2), AV.int .i64 (fI (h0.getD t5.toNat AV.undef) 3)])).getD t5.toNat AV.undef) 0), AV.int .i64 (IntKind.i64.wrap (t1 + 1)), AV.int .i64 (fI ((h0.set t5.toNat (AV.agg [AV.int .i64 t1, AV.int .i64 (fI (h0.getD t5.toNat AV.undef) 1), AV.int .i64 (fI (h0.getD t5.toNat AV.undef) 2), AV.int .i64 (fI (h0.getD t5.toNat AV.undef) 3)])).getD t5.toNat AV.undef) 2), AV.int .i64 (fI ((h0.set t5.toNat (AV.agg [AV.int .i64 t1, AV.int .i64 (fI (h0.getD t5.toNat AV.undef) 1), AV.int .i64 (fI (h0.getD t5.toNat AV.undef) 2), AV.int .i64 (fI (h0.getD t5.toNat AV.undef) 3)])).getD t5.toNat AV.undef) 3)])).length : Int))) then (bif (decide (0 ≤ t5) && decide (t5 < ((((h0.set t5.toNat (AV.agg [AV.int .i64 t1, AV.int .i64 (fI (h0.getD t5.toNat AV.undef) 1), AV.int .i64 (fI (h0.getD t5.toNat AV.undef) 2), AV.int .i64 (fI (h0.getD t5.toNat AV.undef) 3)])).set t5.toNat (AV.agg [AV.int .i64 (fI ((h0.set t5.toNat (AV.agg [AV.int .i64 t1, AV.int .i64 (fI (h0.getD t5.toNat AV.undef) 1), AV.int .i64 (fI (h0.getD t5.toNat AV.undef) 2), AV.int .i64 (fI (h0.getD t5.toNat AV.undef) 3)])).getD t5.toNat AV.undef) 0), AV.int .i64 (IntKind.i64.wrap (t1 + 1)), AV.int .i64 (fI ((h0.set t5.toNat (AV.agg [AV.int .i64 t1, AV.int .i64 (fI (h0.getD t5.toNat AV.undef) 1), AV.int .i64 (fI (h0.getD t5.toNat AV.undef) 2), AV.int .i64 (fI (h0.getD t5.toNat AV.undef) 3)])).getD t5.toNat AV.undef) 2), AV.int .i64 (fI ((h0.set t5.toNat (AV.agg [AV.int .i64 t1, AV.int .i64 (fI (h0.getD t5.toNat AV.undef) 1), AV.int .i64 (fI (h0.getD t5.toNat AV.undef) 2), AV.int .i64 (fI (h0.getD t5.toNat AV.undef) 3)])).getD t5.toNat AV.undef) 3)])).set t5.toNat (AV.agg [AV.int .i64 (fI (((h0.set t5.toNat (AV.agg [AV.int .i64 t1, AV.int .i64 (fI (h0.getD t5.toNat AV.undef) 1), AV.int .i64 (fI (h0.getD t5.toNat AV.undef) 2), AV.int .i64 (fI (h0.getD t5.toNat AV.undef) 3)])).set t5.toNat (AV.agg [AV.int .i64 (fI ((h0.set t5.toNat (AV.agg [AV.int .i64 t1, AV.int .i64 (fI (h0.getD t5.toNat AV.undef) 1), AV.int .i64 (fI (h0.getD t5.toNat AV.undef) 2), AV.int .i64 (fI (h0.getD t5.toNat AV.undef) 3)])).getD t5.toNat AV.undef) 0), AV.int .i64 (IntKind.i64.wrap (t1 + 1)), AV.int .i64 (fI ((h0.set t5.toNat (AV.agg [AV.int .i64 t1, AV.int .i64 (fI (h0.getD t5.toNat AV.undef) 1), AV.int .i64 (fI (h0.getD t5.toNat AV.undef) 2), AV.int .i64 (fI (h0.getD t5.toNat AV.undef) 3)])).getD t5.toNat AV.undef) 2), AV.int .i64 (fI ((h0.set t5.toNat (AV.agg [AV.int .i64 t1, AV.int .i64 (fI (h0.getD t5.toNat AV.undef) 1), AV.int .i64 (fI (h0.getD t5.toNat AV.undef) 2), AV.int .i64 (fI (h0.getD t5.toNat AV.undef) 3)])).getD t5.toNat AV.undef) 3)])).getD t5.toNat AV.undef) 0), AV.int .i64 (fI (((h0.set t5.toNat (AV.agg [AV.int .i64 t1, AV.int .i64 (fI (h0.getD t5.toNat AV.undef) 1), AV.int .i64 (fI (h0.getD t5.toNat AV.undef) 2), AV.int .i64 (fI (h0.getD t5.toNat AV.undef) 3)])).set t5.toNat (AV.agg [AV.int .i64 (fI ((h0.set t5.toNat (AV.agg [AV.int .i64 t1, AV.int .i64 (fI (h0.getD t5.toNat AV.undef) 1), AV.int .i64 (fI (h0.getD t5.toNat AV.undef) 2), AV.int .i64 (fI (h0.getD t5.toNat AV.undef) 3)])).getD t5.toNat AV.undef) 0), AV.int .i64 (IntKind.i64.wrap (t1 + 1)), AV.int .i64 (fI ((h0.set t5.toNat (AV.agg [AV.int .i64 t1, AV.int .i64 (fI (h0.getD t5.toNat AV.undef) 1), AV.int .i64 (fI (h0.getD t5.toNat AV.undef) 2), AV.int .i64 (fI (h0.getD t5.toNat AV.undef) 3)])).getD t5.toNat AV.undef) 2), AV.int .i64 (fI ((h0.set t5.toNat (AV.agg [AV.int .i64 t1, AV.int .i64 (fI (h0.getD t5.toNat AV.undef) 1), AV.int .i64 (fI (h0.getD t5.toNat AV.undef) 2), AV.int .i64 (fI (h0.getD t5.toNat AV.undef) 3)])).getD t5.toNat AV.undef) 3)])).getD t5.toNat AV.undef) 1), AV.int .i64 (IntKind.i64.wrap (IntKind.i64.wrap (t1 + 1) + 1)), AV.int .i64 (fI (((h0.set t5.toNat (AV.agg [AV.int .i64 t1, AV.int .i64 (fI (h0.getD t5.toNat AV.undef) 1), AV.int .i64 (fI (h0.getD t5.toNat AV.undef) 2), AV.int .i64 (fI (h0.getD t5.toNat AV.undef) 3)])).set t5.toNat (AV.agg [AV.int .i64 (fI ((h0.set t5.toNat (AV.agg [AV.int .i64 t1, AV.int .i64 (fI (h0.getD t5.toNat AV.undef) 1), AV.int .i64 (fI (h0.getD t5.toNat AV.undef) 2), AV.int .i64 (fI (h0.getD t5.toNat AV.undef) 3)])).getD t5.toNat AV.undef) 0), AV.int .i64 (IntKind.i64.wrap (t1 + 1)), AV.int .i64 (fI ((h0.set t5.toNat (AV.agg [AV.int .i64 t1, AV.int .i64 (fI (h0.getD t5.toNat AV.undef) 1), AV.int .i64 (fI (h0.getD t5.toNat AV.undef) 2), AV.int .i64 (fI (h0.getD t5.toNat AV.undef) 3)])).getD t5.toNat AV.undef) 2), AV.int .i64 (fI ((h0.set t5.toNat (AV.agg [AV.int .i64 t1, AV.int .i64 (fI (h0.getD t5.toNat AV.undef) 1), AV.int .i64 (fI (h0.getD t5.toNat AV.undef) 2), AV.int .i64 (fI (h0.getD t5.toNat AV.undef) 3)])).getD t5.toNat AV.undef) 3)])).getD t5.toNat AV.undef) 3)])).length : Int))) then .next (IntKind.i64.wrap (IntKind.i64.wrap (IntKind.i64.wrap (IntKind.i64.wrap (t1 + 1) + 1) + 1) + 1), IntKind.i64.wrap (t5 + 1), (((h0.set t5.toNat (AV.agg [AV.int .i64 t1, AV.int .i64 (fI (h0.getD t5.toNat AV.undef) 1), AV.int .i64 (fI (h0.getD t5.toNat AV.undef) 2), AV.int .i64 (fI (h0.getD t5.toNat AV.undef) 3)])).set t5.toNat (AV.agg [AV.int .i64 (fI ((h0.set t5.toNat (AV.agg [AV.int .i64 t1, AV.int .i64 (fI (h0.getD t5.toNat AV.undef) 1), AV.int .i64 (fI (h0.getD t5.toNat AV.undef) 2), AV.int .i64 (fI (h0.getD t5.toNat AV.undef) 3)])).getD t5.toNat AV.undef) 0), AV.int .i64 (IntKind.i64.wrap (t1 + 1)), AV.int .i64 (fI ((h0.set t5.toNat (AV.agg [AV.int .i64 t1, AV.int .i64 (fI (h0.getD t5.toNat AV.undef) 1), AV.int .i64 (fI (h0.getD t5.toNat AV.undef) 2), AV.int .i64 (fI (h0.getD t5.toNat AV.undef) 3)])).getD t5.toNat AV.undef) 2), AV.int .i64 (fI ((h0.set t5.toNat (AV.agg [AV.int .i64 t1, AV.int .i64 (fI (h0.getD t5.toNat AV.undef) 1), AV.int .i64 (fI (h0.getD t5.toNat AV.undef) 2), AV.int .i64 (fI (h0.getD t5.toNat AV.undef) 3)])).getD t5.toNat AV.undef) 3)])).set t5.toNat (AV.agg [AV.int .i64 (fI (((h0.set t5.toNat (AV.agg [AV.int .i64 t1, AV.int .i64 (fI (h0.getD t5.toNat AV.undef) 1), AV.int .i64 (fI (h0.getD t5.toNat AV.undef) 2), AV.int .i64 (fI (h0.getD t5.toNat AV.undef) 3)])).set t5.toNat (AV.agg [AV.int .i64 (fI ((h0.set t5.toNat (AV.agg [AV.int .i64 t1, AV.int .i64 (fI (h0.getD t5.toNat AV.undef) 1), AV.int .i64 (fI (h0.getD t5.toNat AV.undef) 2), AV.int .i64 (fI (h0.getD t5.toNat AV.undef) 3)])).getD t5.toNat AV.undef) 0), AV.int .i64 (IntKind.i64.wrap (t1 + 1)), AV.int .i64 (fI ((h0.set t5.toNat (AV.agg [AV.int .i64 t1, AV.int .i64 (fI (h0.getD t5.toNat AV.undef) 1), AV.int .i64 (fI (h0.getD t5.toNat AV.undef) 2), AV.int .i64 (fI (h0.getD t5.toNat AV.undef) 3)])).getD t5.toNat AV.undef) 2), AV.int .i64 (fI ((h0.set t5.toNat (AV.agg [AV.int .i64 t1, AV.int .i64 (fI (h0.getD t5.toNat AV.undef) 1), AV.int .i64 (fI (h0.getD t5.toNat AV.undef) 2), AV.int .i64 (fI (h0.getD t5.toNat AV.undef) 3)])).getD t5.toNat AV.undef) 3)])).getD t5.toNat AV.undef) 0), AV.int .i64 (fI (((h0.set t5.toNat (AV.agg [AV.int .i64 t1, AV.int .i64 (fI (h0.getD t5.toNat AV.undef) 1), AV.int .i64 (fI (h0.getD t5.toNat AV.undef) 2), AV.int .i64 (fI (h0.getD t5.toNat AV.undef) 3)])).set t5.toNat (AV.agg [AV.int .i64 (fI ((h0.set t5.toNat (AV.agg [AV.int .i64 t1, AV.int .i64 (fI (h0.getD t5.toNat AV.undef) 1), AV.int .i64 (fI (h0.getD t5.toNat AV.undef) 2), AV.int .i64 (fI (h0.getD t5.toNat AV.undef) 3)])).getD t5.toNat AV.undef) 0), AV.int .i64 (IntKind.i64.wrap (t1 + 1)), AV.int .i64 (fI ((h0.set t5.toNat (AV.agg [AV.int .i64 t1, AV.int .i64 (fI (h0.getD t5.toNat AV.undef) 1), AV.int .i64 (fI (h0.getD t5.toNat AV.undef) 2), AV.int .i64 (fI (h0.getD t5.toNat AV.undef) 3)])).getD t5.toNat AV.undef) 2), AV.int .i64 (fI ((h0.set t5.toNat (AV.agg [AV.int .i64 t1, AV.int .i64 (fI (h0.getD t5.toNat AV.undef) 1), AV.int .i64 (fI (h0.getD t5.toNat AV.undef) 2), AV.int .i64 (fI (h0.getD t5.toNat AV.undef) 3)])).getD t5.toNat AV.undef) 3)])).getD t5.toNat AV.undef) 1), AV.int .i64 (IntKind.i64.wrap (IntKind.i64.wrap (t1 + 1) + 1)), AV.int .i64 (fI (((h0.set t5.toNat (AV.agg [AV.int .i64 t1, AV.int .i64 (fI (h0.getD t5.toNat AV.undef) 1), AV.int .i64 (fI (h0.getD t5.toNat AV.undef) 2), AV.int .i64 (fI (h0.getD t5.toNat AV.undef) 3)])).set t5.toNat (AV.agg [AV.int .i64 (fI ((h0.set t5.toNat (AV.agg [AV.int .i64 t1, AV.int .i64 (fI (h0.getD t5.toNat AV.undef) 1), AV.int .i64 (fI (h0.getD t5.toNat AV.undef) 2), AV.int .i64 (fI (h0.getD t5.toNat AV.undef) 3)])).getD t5.toNat AV.undef) 0), AV.int .i64 (IntKind.i64.wrap (t1 + 1)), AV.int .i64 (fI ((h0.set t5.toNat (AV.agg [AV.int .i64 t1, AV.int .i64 (fI (h0.getD t5.toNat AV.undef) 1), AV.int .i64 (fI (h0.getD t5.toNat AV.undef) 2), AV.int .i64 (fI (h0.getD t5.toNat AV.undef) 3)])).getD t5.toNat AV.undef) 2), AV.int .i64 (fI ((h0.set t5.toNat (AV.agg [AV.int .i64 t1, AV.int .i64 (fI (h0.getD t5.toNat AV.undef) 1), AV.int .i64 (fI (h0.getD t5.toNat AV.undef) 2), AV.int .i64 (fI (h0.getD t5.toNat AV.undef) 3)])).getD t5.toNat AV.undef) 3)])).getD t5.toNat AV.undef) 3)])).set t5.toNat (AV.agg [AV.int .i64 (fI ((((h0.set t5.toNat (AV.agg [AV.int .i64 t1, AV.int .i64 (fI (h0.getD t5.toNat AV.undef) 1), AV.int .i64 (fI (h0.getD t5.toNat AV.undef) 2), AV.int .i64 (fI (h0.getD t5.toNat AV.undef) 3)])).set t5.toNat (AV.agg [AV.int .i64 (fI ((h0.set t5.toNat (AV.agg [AV.int .i64 t1, AV.int .i64 (fI (h0.getD t5.toNat AV.undef) 1), AV.int .i64 (fI (h0.getD t5.toNat AV.undef) 2), AV.int .i64 (fI (h0.getD t5.toNat AV.undef) 3)])).getD t5.toNat AV.undef) 0), AV.int .i64 (IntKind.i64.wrap (t1 + 1)), AV.int .i64 (fI ((h0.set t5.toNat (AV.agg [AV.int .i64 t1, AV.int .i64 (fI (h0.getD t5.toNat AV.undef) 1), AV.int .i64 (fI (h0.getD t5.toNat AV.undef) 2), AV.int .i64 (fI (h0.getD t5.toNat AV.undef) 3)])).getD t5.toNat AV.undef) 2), AV.int .i64 (fI ((h0.set t5.toNat (AV.agg [AV.int .i64 t1, AV.int .i64 (fI (h0.getD t5.toNat AV.undef) 1), AV.int .i64 (fI (h0.getD t5.toNat AV.undef) 2), AV.int .i64 (fI (h0.getD t5.toNat AV.undef) 3)])).getD t5.toNat AV.undef) 3)])).set t5.toNat (AV.agg [AV.int .i64 (fI (((h0.set t5.toNat (AV.agg [AV.int .i64 t1, AV.int .i64 (fI (h0.getD t5.toNat AV.undef) 1), AV.int .i64 (fI (h0.getD t5.toNat AV.undef) 2), AV.int .i64 (fI (h0.getD t5.toNat AV.undef) 3)])).set t5.toNat (AV.agg [AV.int .i64 (fI ((h0.set t5.toNat (AV.agg [AV.int .i64 t1, AV.int .i64 (fI (h0.getD t5.toNat AV.undef) 1), AV.int .i64 (fI (h0.getD t5.toNat AV.undef) 2), AV.int .i64 (fI (h0.getD t5.toNat AV.undef) 3)])).getD t5.toNat AV.undef) 0), AV.int .i64 (IntKind.i64.wrap (t1 + 1)), AV.int .i64 (fI ((h0.set t5.toNat (AV.agg [AV.int .i64 t1, AV.int .i64 (fI (h0.getD t5.toNat AV.undef) 1), AV.int .i64 (fI (h0.getD t5.toNat AV.undef) 2), AV.int .i64 (fI (h0.getD t5.toNat AV.undef) 3)])).getD t5.toNat AV.undef) 2), AV.int .i64 (fI ((h0.set t5.toNat (AV.agg [AV.int .i64 t1, AV.int .i64 (fI (h0.getD t5.toNat AV.undef) 1), AV.int .i64 (fI (h0.getD t5.toNat AV.undef) 2), AV.int .i64 (fI (h0.getD t5.toNat AV.undef) 3)])).getD t5.toNat AV.undef) 3)])).getD t5.toNat AV.undef) 0), AV.int .i64 (fI (((h0.set t5.toNat (AV.agg [AV.int .i64 t1, AV.int .i64 (fI (h0.getD t5.toNat AV.undef) 1), AV.int .i64 (fI (h0.getD t5.toNat AV.undef) 2), AV.int .i64 (fI (h0.getD t5.toNat AV.undef) 3)])).set t5.toNat (AV.agg [AV.int .i64 (fI ((h0.set t5.toNat (AV.agg [AV.int .i64 t1, AV.int .i64 (fI (h0.getD t5.toNat AV.undef) 1), AV.int .i64 (fI (h0.getD t5.toNat AV.undef) 2), AV.int .i64 (fI (h0.getD t5.toNat AV.undef) 3)])).getD t5.toNat AV.undef) 0), AV.int .i64 (IntKind.i64.wrap (t1 + 1)), AV.int .i64 (fI ((h0.set t5.toNat (AV.agg [AV.int .i64 t1, AV.int .i64 (fI (h0.getD t5.toNat AV.undef) 1), AV.int .i64 (fI (h0.getD t5.toNat AV.undef) 2), AV.int .i64 (fI (h0.getD t5.toNat AV.undef) 3)])).getD t5.toNat AV.undef) 2), AV.int .i64 (fI ((h0.set t5.toNat (AV.agg [AV.int .i64 t1, AV.int .i64 (fI (h0.getD t5.toNat AV.undef) 1), AV.int .i64 (fI (h0.getD t5.toNat AV.undef) 2), AV.int .i64 (fI (h0.getD t5.toNat AV.undef) 3)])).getD t5.toNat AV.undef) 3)])).getD t5.toNat AV.undef) 1), AV.int .i64 (IntKind.i64.wrap (IntKind.i64.wrap (t1 + 1) + 1)), AV.int .i64 (fI (((h0.set t5.toNat (AV.agg [AV.int .i64 t1, AV.int .i64 (fI (h0.getD t5.toNat AV.undef) 1), AV.int .i64 (fI (h0.getD t5.toNat AV.undef) 2), AV.int .i64 (fI (h0.getD t5.toNat AV.undef) 3)])).set t5.toNat (AV.agg [AV.int .i64 (fI ((h0.set t5.toNat (AV.agg [AV.int .i64 t1, AV.int .i64 (fI (h0.getD t5.toNat AV.undef) 1), AV.int .i64 (fI (h0.getD t5.toNat AV.undef) 2), AV.int .i64 (fI (h0.getD t5.toNat AV.undef) 3)])).getD t5.toNat AV.undef) 0), AV.int .i64 (IntKind.i64.wrap (t1 + 1)), AV.int .i64 (fI ((h0.set t5.toNat (AV.agg [AV.int .i64 t1, AV.int .i64 (fI (h0.getD t5.toNat AV.undef) 1), AV.int .i64 (fI (h0.getD t5.toNat AV.undef) 2), AV.int .i64 (fI (h0.getD t5.toNat AV.undef) 3)])).getD t5.toNat AV.undef) 2), AV.int .i64 (fI ((h0.set t5.toNat (AV.agg [AV.int .i64 t1, AV.int .i64 (fI (h0.getD t5.toNat AV.undef) 1), AV.int .i64 (fI (h0.getD t5.toNat AV.undef) 2), AV.int .i64 (fI (h0.getD t5.toNat AV.undef) 3)])).getD t5.toNat AV.undef) 3)])).getD t5.toNat AV.undef) 3)])).getD t5.toNat AV.undef) 0), AV.int .i64 (fI ((((h0.set t5.toNat (AV.agg [AV.int .i64 t1, AV.int .i64 (fI (h0.getD t5.toNat AV.undef) 1), AV.int .i64 (fI (h0.getD t5.toNat AV.undef) 2), AV.int .i64 (fI (h0.getD t5.toNat AV.undef) 3)])).set t5.toNat (AV.agg [AV.int .i64 (fI ((h0.set t5.toNat (AV.agg [AV.int .i64 t1, AV.int .i64 (fI (h0.getD t5.toNat AV.undef) 1), AV.int .i64 (fI (h0.getD t5.toNat AV.undef) 2), AV.int .i64 (fI (h0.getD t5.toNat AV.undef) 3)])).getD t5.toNat AV.undef) 0), AV.int .i64 (IntKind.i64.wrap (t1 + 1)), AV.int .i64 (fI ((h0.set t5.toNat (AV.agg [AV.int .i64 t1, AV.int .i64 (fI (h0.getD t5.toNat AV.undef) 1), AV.int .i64 (fI (h0.getD t5.toNat AV.undef) 2), AV.int .i64 (fI (h0.getD t5.toNat AV.undef) 3)])).getD t5.toNat AV.undef) 2), AV.int .i64 (fI ((h0.set t5.toNat (AV.agg [AV.int .i64 t1, AV.int .i64 (fI (h0.getD t5.toNat AV.undef) 1), AV.int .i64 (fI (h0.getD t5.toNat AV.undef) 2), AV.int .i64 (fI (h0.getD t5.toNat AV.undef) 3)])).getD t5.toNat AV.undef) 3)])).set t5.toNat (AV.agg [AV.int .i64 (fI (((h0.set t5.toNat (AV.agg [AV.int .i64 t1, AV.int .i64 (fI (h0.getD t5.toNat AV.undef) 1), AV.int .i64 (fI (h0.getD t5.toNat AV.undef) 2), AV.int .i64 (fI (h0.getD t5.toNat AV.undef) 3)])).set t5.toNat (AV.agg [AV.int .i64 (fI ((h0.set t5.toNat (AV.agg [AV.int .i64 t1, AV.int .i64 (fI (h0.getD t5.toNat AV.undef) 1), AV.int .i64 (fI (h0.getD t5.toNat AV.undef) 2), AV.int .i64 (fI (h0.getD t5.toNat AV.undef) 3)])).getD t5.toNat AV.undef) 0), AV.int .i64 (IntKind.i64.wrap (t1 + 1)), AV.int .i64 (fI ((h0.set t5.toNat (AV.agg [AV.int .i64 t1, AV.int .i64 (fI (h0.getD t5.toNat AV.undef) 1), AV.int .i64 (fI (h0.getD t5.toNat AV.undef) 2), AV.int .i64 (fI (h0.getD t5.toNat AV.undef) 3)])).getD t5.toNat AV.undef) 2), AV.int .i64 (fI ((h0.set t5.toNat (AV.agg [AV.int .i64 t1, AV.int .i64 (fI (h0.getD t5.toNat AV.undef) 1), AV.int .i64 (fI (h0.getD t5.toNat AV.undef) 2), AV.int .i64 (fI (h0.getD t5.toNat AV.undef) 3)])).getD t5.toNat AV.undef) 3)])).getD t5.toNat AV.undef) 0), AV.int .i64 (fI (((h0.set t5.toNat (AV.agg [AV.int .i64 t1, AV.int .i64 (fI (h0.getD t5.toNat AV.undef) 1), AV.int .i64 (fI (h0.getD t5.toNat AV.undef) 2), AV.int .i64 (fI (h0.getD t5.toNat AV.undef) 3)])).set t5.toNat (AV.agg [AV.int .i64 (fI ((h0.set t5.toNat (AV.agg [AV.int .i64 t1, AV.int .i64 (fI (h0.getD t5.toNat AV.undef) 1), AV.int .i64 (fI (h0.getD t5.toNat AV.undef) 2), AV.int .i64 (fI (h0.getD t5.toNat AV.undef) 3)])).getD t5.toNat AV.undef) 0), AV.int .i64 (IntKind.i64.wrap (t1 + 1)), AV.int .i64 (fI ((h0.set t5.toNat (AV.agg [AV.int .i64 t1, AV.int .i64 (fI (h0.getD t5.toNat AV.undef) 1), AV.int .i64 (fI (h0.getD t5.toNat AV.undef) 2), AV.int .i64 (fI (h0.getD t5.toNat AV.undef) 3)])).getD t5.toNat AV.undef) 2), AV.int .i64 (fI ((h0.set t5.toNat (AV.agg [AV.int .i64 t1, AV.int .i64 (fI (h0.getD t5.toNat AV.undef) 1), AV.int .i64 (fI (h0.getD t5.toNat AV.undef) 2), AV.int .i64 (fI (h0.getD t5.toNat AV.undef) 3)])).getD t5.toNat AV.undef) 3)])).getD t5.toNat AV.undef) 1), AV.int .i64 (IntKind.i64.wrap (IntKind.i64.wrap (t1 + 1) + 1)), AV.int .i64 (fI (((h0.set t5.toNat (AV.agg [AV.int .i64 t1, AV.int .i64 (fI (h0.getD t5.toNat AV.undef) 1), AV.int .i64 (fI (h0.getD t5.toNat AV.undef) 2), AV.int .i64 (fI (h0.getD t5.toNat AV.undef) 3)])).set t5.toNat (AV.agg [AV.int .i64 (fI ((h0.set t5.toNat (AV.agg [AV.int .i64 t1, AV.int .i64 (fI (h0.getD t5.toNat AV.undef) 1), AV.int .i64 (fI (h0.getD t5.toNat AV.undef) 2), AV.int .i64 (fI (h0.getD t5.toNat AV.undef) 3)])).getD t5.toNat AV.undef) 0), AV.int .i64 (IntKind.i64.wrap (t1 + 1)), AV.int .i64 (fI ((h0.set t5.toNat (AV.agg [AV.int .i64 t1, AV.int .i64 (fI (h0.getD t5.toNat AV.undef) 1), AV.int .i64 (fI (h0.getD t5.toNat AV.undef) 2), AV.int .i64 (fI (h0.getD t5.toNat AV.undef) 3)])).getD t5.toNat AV.undef) 2), AV.int .i64 (fI ((h0.set t5.toNat (AV.agg [AV.int .i64 t1, AV.int .i64 (fI (h0.getD t5.toNat AV.undef) 1), AV.int .i64 (fI (h0.getD t5.toNat AV.undef) 2), AV.int .i64 (fI (h0.getD t5.toNat AV.undef) 3)])).getD t5.toNat AV.undef) 3)])).getD t5.toNat AV.undef) 3)])).getD t5.toNat AV.undef) 1), AV.int .i64 (fI ((((h0.set t5.toNat (AV.agg [AV.int .i64 t1, AV.int .i64 (fI (h0.getD t5.toNat AV.undef) 1), AV.int .i64 (fI (h0.getD t5.toNat AV.undef) 2), AV.int .i64 (fI (h0.getD t5.toNat AV.undef) 3)])).set t5.toNat (AV.agg [AV.int .i64 (fI ((h0.set t5.toNat (AV.agg [AV.int .i64 t1, AV.int .i64 (fI (h0.getD t5.toNat AV.undef) 1), AV.int .i64 (fI (h0.getD t5.toNat AV.undef) 2), AV.int .i64 (fI (h0.getD t5.toNat AV.undef) 3)])).getD t5.toNat AV.undef) 0), AV.int .i64 (IntKind.i64.wrap (t1 + 1)), AV.int .i64 (fI ((h0.set t5.toNat (AV.agg [AV.int .i64 t1, AV.int .i64 (fI (h0.getD t5.toNat AV.undef) 1), AV.int .i64 (fI (h0.getD t5.toNat AV.undef) 2), AV.int .i64 (fI (h0.getD t5.toNat AV.undef) 3)])).getD t5.toNat AV.undef) 2), AV.int .i64 (fI ((h0.set t5.toNat (AV.agg [AV.int .i64 t1, AV.int .i64 (fI (h0.getD t5.toNat AV.undef) 1), AV.int .i64 (fI (h0.getD t5.toNat AV.undef) 2), AV.int .i64 (fI (h0.getD t5.toNat AV.undef) 3)])).getD t5.toNat AV.undef) 3)])).set t5.toNat (AV.agg [AV.int .i64 (fI (((h0.set t5.toNat (AV.agg [AV.int .i64 t1, AV.int .i64 (fI (h0.getD t5.toNat AV.undef) 1), AV.int .i64 (fI (h0.getD t5.toNat AV.undef) 2), AV.int .i64 (fI (h0.getD t5.toNat AV.undef) 3)])).set t5.toNat (AV.agg [AV.int .i64 (fI ((h0.set t5.toNat (AV.agg [AV.int .i64 t1, AV.int .i64 (fI (h0.getD t5.toNat AV.undef) 1), AV.int .i64 (fI (h0.getD t5.toNat AV.undef) 2), AV.int .i64 (fI (h0.getD t5.toNat AV.undef) 3)])).getD t5.toNat AV.undef) 0), AV.int .i64 (IntKind.i64.wrap (t1 + 1)), AV.int .i64 (fI ((h0.set t5.toNat (AV.agg [AV.int .i64 t1, AV.int .i64 (fI (h0.getD t5.toNat AV.undef) 1), AV.int .i64 (fI (h0.getD t5.toNat AV.undef) 2), AV.int .i64 (fI (h0.getD t5.toNat AV.undef) 3)])).getD t5.toNat AV.undef) 2), AV.int .i64 (fI ((h0.set t5.toNat (AV.agg [AV.int .i64 t1, AV.int .i64 (fI (h0.getD t5.toNat AV.undef) 1), AV.int .i64 (fI (h0.getD t5.toNat AV.undef) 2), AV.int .i64 (fI (h0.getD t5.toNat AV.undef) 3)])).getD t5.toNat AV.undef) 3)])).getD t5.toNat AV.undef) 0), AV.int .i64 (fI (((h0.set t5.toNat (AV.agg [AV.int .i64 t1, AV.int .i64 (fI (h0.getD t5.toNat AV.undef) 1), AV.int .i64 (fI (h0.getD t5.toNat AV.undef) 2), AV.int .i64 (fI (h0.getD t5.toNat AV.undef) 3)])).set t5.toNat (AV.agg [AV.int .i64 (fI ((h0.set t5.toNat (AV.agg [AV.int .i64 t1, AV.int .i64 (fI (h0.getD t5.toNat AV.undef) 1), AV.int .i64 (fI (h0.getD t5.toNat AV.undef) 2), AV.int .i64 (fI (h0.getD t5.toNat AV.undef) 3)])).getD t5.toNat AV.undef) 0), AV.int .i64 (IntKind.i64.wrap (t1 + 1)), AV.int .i64 (fI ((h0.set t5.toNat (AV.agg [AV.int .i64 t1, AV.int .i64 (fI (h0.getD t5.toNat AV.undef) 1), AV.int .i64 (fI (h0.getD t5.toNat AV.undef) 2), AV.int .i64 (fI (h0.getD t5.toNat AV.undef) 3)])).getD t5.toNat AV.undef) 2), AV.int .i64 (fI ((h0.set t5.toNat (AV.agg [AV.int .i64 t1, AV.int .i64 (fI (h0.getD t5.toNat AV.undef) 1), AV.int .i64 (fI (h0.getD t5.toNat AV.undef) 2), AV.int .i64 (fI (h0.getD t5.toNat AV.undef) 3)])).getD t5.toNat AV.undef) 3)])).getD t5.toNat AV.undef) 1), AV.int .i64 (IntKind.i64.wrap (IntKind.i64.wrap (t1 + 1) + 1)), AV.int .i64 (fI (((h0.set t5.toNat (AV.agg [AV.int .i64 t1, AV.int .i64 (fI (h0.getD t5.toNat AV.undef) 1), AV.int .i64 (fI (h0.getD t5.toNat AV.undef) 2), AV.int .i64 (fI (h0.getD t5.toNat AV.undef) 3)])).set t5.toNat (AV.agg [AV.int .i64 (fI ((h0.set t5.toNat (AV.agg [AV.int .i64 t1, AV.int .i64 (fI (h0.getD t5.toNat AV.undef) 1), AV.int .i64 (fI (h0.getD t5.toNat AV.undef) 2), AV.int .i64 (fI (h0.getD t5.toNat AV.undef) 3)])).getD t5.toNat AV.undef) 0), AV.int .i64 (IntKind.i64.wrap (t1 + 1)), AV.int .i64 (fI ((h0.set t5.toNat (AV.agg [AV.int .i64 t1, AV.int .i64 (fI (h0.getD t5.toNat AV.undef) 1), AV.int .i64 (fI (h0.getD t5.toNat AV.undef) 2), AV.int .i64 (fI (h0.getD t5.toNat AV.undef) 3)])).getD t5.toNat AV.undef) 2), AV.int .i64 (fI ((h0.set t5.toNat (AV.agg [AV.int .i64 t1, AV.int .i64 (fI (h0.getD t5.toNat AV.undef) 1), AV.int .i64 (fI (h0.getD t5.toNat AV.undef) 2), AV.int .i64 (fI (h0.getD t5.toNat AV.undef) 3)])).getD t5.toNat AV.undef) 3)])).getD t5.toNat AV.undef) 3)])).getD t5.toNat AV.undef) 2), AV.int .i64 (IntKind.i64.wrap (IntKind.i64.wrap (IntKind.i64.wrap (t1 + 1) + 1) + 1))]))
      else .fail)
     else .fail)
    else .fail)
   else .fail)
  else .stop (t1, h0))
def R24_0 : ((Int × Int × (List AV))) → Out ((Int × Int × (List AV))) ((Int × (List AV))) := fun s : Int × Int × (List AV) => F24_0 s.1 s.2.1 s.2.2
def l24_0 : LModel := fun _ _ st k => match st with
  | ⟨[(0, .own g0), (1, .int .i64 t1), (5, .int .i64 t5)], [(g1, ⟨false, g2, h0⟩)]⟩ => bif nmEq g0 ([1]) && nmEq g1 ([1]) && ctsEq g2 ([.int .i64, .int .i64, .int .i64, .int .i64]) then ro (runW (R24_0) (((h0.length : Int) - t5).toNat + 1) (t1, t5, h0)) none (fun p : Int × (List AV) => k (.exit 0) ⟨[(1, AV.int .i64 p.1)], [([1], ⟨false, [.int .i64, .int .i64, .int .i64, .int .i64], p.2⟩)]⟩) else none
  | _ => none
noncomputable def c24 : Cfg := cfg Try.prog [(24, 0, [0, 1, 5]), (24, 999, [4]), (24, 1000, [1]), (24, 1001, [0, 1, 5])] [] [] [] [(24, 0, l24_0)]
theorem s24_0 (ce : CallE) (t1 : Int) (t5 : Int) (h0 : List AV) (next : St → Option AV) (k : Kont) : stepA (codeA c24 ce [0] 24 0 (sub [1, 0, 1, 0, 0] (body Try.f24))) (normA [0] [0, 1, 5]) next ⟨[(0, AV.own [1]), (1, AV.int .i64 t1), (5, AV.int .i64 t5)], [([1], ⟨false, [.int .i64, .int .i64, .int .i64, .int .i64], h0⟩)]⟩ k = (bif decide (t5 < (h0.length : Int)) then (bif (decide (0 ≤ t5) && decide (t5 < (h0.length : Int))) then (bif (decide (0 ≤ t5) && decide (t5 < ((h0.set t5.toNat (AV.agg [AV.int .i64 t1, AV.int .i64 (fI (h0.getD t5.toNat AV.undef) 1), AV.int .i64 (fI (h0.getD t5.toNat AV.undef) 2), AV.int .i64 (fI (h0.getD t5.toNat AV.undef) 3)])).length : Int))) then (bif (decide (0 ≤ t5) && decide (t5 < (((h0.set t5.toNat (AV.agg [AV.int .i64 t1, AV.int .i64 (fI (h0.getD t5.toNat AV.undef) 1), AV.int .i64 (fI (h0.getD t5.toNat AV.undef) 2), AV.int .i64 (fI (h0.getD t5.toNat AV.undef) 3)])).set t5.toNat (AV.agg [AV.int .i64 (fI ((h0.set t5.toNat (AV.agg [AV.int .i64 t1, AV.int .i64 (fI (h0.getD t5.toNat AV.undef) 1), AV.int .i64 (fI (h0.getD t5.toNat AV.undef) 2), AV.int .i64 (fI (h0.getD t5.toNat AV.undef) 3)])).getD t5.toNat AV.undef) 0), AV.int .i64 (IntKind.i64.wrap (t1 + 1)), AV.int .i64 (fI ((h0.set t5.toNat (AV.agg [AV.int .i64 t1, AV.int .i64 (fI (h0.getD t5.toNat AV.undef) 1), AV.int .i64 (fI (h0.getD t5.toNat AV.undef) 2), AV.int .i64 (fI (h0.getD t5.toNat AV.undef) 3)])).getD t5.toNat AV.undef) 2), AV.int .i64 (fI ((h0.set t5.toNat (AV.agg [AV.int .i64 t1, AV.int .i64 (fI (h0.getD t5.toNat AV.undef) 1), AV.int .i64 (fI (h0.getD t5.toNat AV.undef) 2), AV.int .i64 (fI (h0.getD t5.toNat AV.undef) 3)])).getD t5.toNat AV.undef) 3)])).length : Int))) then (bif (decide (0 ≤ t5) && decide (t5 < ((((h0.set t5.toNat (AV.agg [AV.int .i64 t1, AV.int .i64 (fI (h0.getD t5.toNat AV.undef) 1), AV.int .i64 (fI (h0.getD t5.toNat AV.undef) 2), AV.int .i64 (fI (h0.getD t5.toNat AV.undef) 3)])).set t5.toNat (AV.agg [AV.int .i64 (fI ((h0.set t5.toNat (AV.agg [AV.int .i64 t1, AV.int .i64 (fI (h0.getD t5.toNat AV.undef) 1), AV.int .i64 (fI (h0.getD t5.toNat AV.undef) 2), AV.int .i64 (fI (h0.getD t5.toNat AV.undef) 3)])).getD t5.toNat AV.undef) 0), AV.int .i64 (IntKind.i64.wrap (t1 + 1)), AV.int .i64 (fI ((h0.set t5.toNat (AV.agg [AV.int .i64 t1, AV.int .i64 (fI (h0.getD t5.toNat AV.undef) 1), AV.int .i64 (fI (h0.getD t5.toNat AV.undef) 2), AV.int .i64 (fI (h0.getD t5.toNat AV.undef) 3)])).getD t5.toNat AV.undef) 2), AV.int .i64 (fI ((h0.set t5.toNat (AV.agg [AV.int .i64 t1, AV.int .i64 (fI (h0.getD t5.toNat AV.undef) 1), AV.int .i64 (fI (h0.getD t5.toNat AV.undef) 2), AV.int .i64 (fI (h0.getD t5.toNat AV.undef) 3)])).getD t5.toNat AV.undef) 3)])).set t5.toNat (AV.agg [AV.int .i64 (fI (((h0.set t5.toNat (AV.agg [AV.int .i64 t1, AV.int .i64 (fI (h0.getD t5.toNat AV.undef) 1), AV.int .i64 (fI (h0.getD t5.toNat AV.undef) 2), AV.int .i64 (fI (h0.getD t5.toNat AV.undef) 3)])).set t5.toNat (AV.agg [AV.int .i64 (fI ((h0.set t5.toNat (AV.agg [AV.int .i64 t1, AV.int .i64 (fI (h0.getD t5.toNat AV.undef) 1), AV.int .i64 (fI (h0.getD t5.toNat AV.undef) 2), AV.int .i64 (fI (h0.getD t5.toNat AV.undef) 3)])).getD t5.toNat AV.undef) 0), AV.int .i64 (IntKind.i64.wrap (t1 + 1)), AV.int .i64 (fI ((h0.set t5.toNat (AV.agg [AV.int .i64 t1, AV.int .i64 (fI (h0.getD t5.toNat AV.undef) 1), AV.int .i64 (fI (h0.getD t5.toNat AV.undef) 2), AV.int .i64 (fI (h0.getD t5.toNat AV.undef) 3)])).getD t5.toNat AV.undef) 2), AV.int .i64 (fI ((h0.set t5.toNat (AV.agg [AV.int .i64 t1, AV.int .i64 (fI (h0.getD t5.toNat AV.undef) 1), AV.int .i64 (fI (h0.getD t5.toNat AV.undef) 2), AV.int .i64 (fI (h0.getD t5.toNat AV.undef) 3)])).getD t5.toNat AV.undef) 3)])).getD t5.toNat AV.undef) 0), AV.int .i64 (fI (((h0.set t5.toNat (AV.agg [AV.int .i64 t1, AV.int .i64 (fI (h0.getD t5.toNat AV.undef) 1), AV.int .i64 (fI (h0.getD t5.toNat AV.undef) 2), AV.int .i64 (fI (h0.getD t5.toNat AV.undef) 3)])).set t5.toNat (AV.agg [AV.int .i64 (fI ((h0.set t5.toNat (AV.agg [AV.int .i64 t1, AV.int .i64 (fI (h0.getD t5.toNat AV.undef) 1), AV.int .i64 (fI (h0.getD t5.toNat AV.undef) 2), AV.int .i64 (fI (h0.getD t5.toNat AV.undef) 3)])).getD t5.toNat AV.undef) 0), AV.int .i64 (IntKind.i64.wrap (t1 + 1)), AV.int .i64 (fI ((h0.set t5.toNat (AV.agg [AV.int .i64 t1, AV.int .i64 (fI (h0.getD t5.toNat AV.undef) 1), AV.int .i64 (fI (h0.getD t5.toNat AV.undef) 2), AV.int .i64 (fI (h0.getD t5.toNat AV.undef) 3)])).getD t5.toNat AV.undef) 2), AV.int .i64 (fI ((h0.set t5.toNat (AV.agg [AV.int .i64 t1, AV.int .i64 (fI (h0.getD t5.toNat AV.undef) 1), AV.int .i64 (fI (h0.getD t5.toNat AV.undef) 2), AV.int .i64 (fI (h0.getD t5.toNat AV.undef) 3)])).getD t5.toNat AV.undef) 3)])).getD t5.toNat AV.undef) 1), AV.int .i64 (IntKind.i64.wrap (IntKind.i64.wrap (t1 + 1) + 1)), AV.int .i64 (fI (((h0.set t5.toNat (AV.agg [AV.int .i64 t1, AV.int .i64 (fI (h0.getD t5.toNat AV.undef) 1), AV.int .i64 (fI (h0.getD t5.toNat AV.undef) 2), AV.int .i64 (fI (h0.getD t5.toNat AV.undef) 3)])).set t5.toNat (AV.agg [AV.int .i64 (fI ((h0.set t5.toNat (AV.agg [AV.int .i64 t1, AV.int .i64 (fI (h0.getD t5.toNat AV.undef) 1), AV.int .i64 (fI (h0.getD t5.toNat AV.undef) 2), AV.int .i64 (fI (h0.getD t5.toNat AV.undef) 3)])).getD t5.toNat AV.undef) 0), AV.int .i64 (IntKind.i64.wrap (t1 + 1)), AV.int .i64 (fI ((h0.set t5.toNat (AV.agg [AV.int .i64 t1, AV.int .i64 (fI (h0.getD t5.toNat AV.undef) 1), AV.int .i64 (fI (h0.getD t5.toNat AV.undef) 2), AV.int .i64 (fI (h0.getD t5.toNat AV.undef) 3)])).getD t5.toNat AV.undef) 2), AV.int .i64 (fI ((h0.set t5.toNat (AV.agg [AV.int .i64 t1, AV.int .i64 (fI (h0.getD t5.toNat AV.undef) 1), AV.int .i64 (fI (h0.getD t5.toNat AV.undef) 2), AV.int .i64 (fI (h0.getD t5.toNat AV.undef) 3)])).getD t5.toNat AV.undef) 3)])).getD t5.toNat AV.undef) 3)])).length : Int))) then next ⟨[(0, AV.own [1]), (1, AV.int .i64 (IntKind.i64.wrap (IntKind.i64.wrap (IntKind.i64.wrap (IntKind.i64.wrap (t1 + 1) + 1) + 1) + 1))), (5, AV.int .i64 (IntKind.i64.wrap (t5 + 1)))], [([1], ⟨false, [.int .i64, .int .i64, .int .i64, .int .i64], (((h0.set t5.toNat (AV.agg [AV.int .i64 t1, AV.int .i64 (fI (h0.getD t5.toNat AV.undef) 1), AV.int .i64 (fI (h0.getD t5.toNat AV.undef) 2), AV.int .i64 (fI (h0.getD t5.toNat AV.undef) 3)])).set t5.toNat (AV.agg [AV.int .i64 (fI ((h0.set t5.toNat (AV.agg [AV.int .i64 t1, AV.int .i64 (fI (h0.getD t5.toNat AV.undef) 1), AV.int .i64 (fI (h0.getD t5.toNat AV.undef) 2), AV.int .i64 (fI (h0.getD t5.toNat AV.undef) 3)])).getD t5.toNat AV.undef) 0), AV.int .i64 (IntKind.i64.wrap (t1 + 1)), AV.int .i64 (fI ((h0.set t5.toNat (AV.agg [AV.int .i64 t1, AV.int .i64 (fI (h0.getD t5.toNat AV.undef) 1), AV.int .i64 (fI (h0.getD t5.toNat AV.undef) 2), AV.int .i64 (fI (h0.getD t5.toNat AV.undef) 3)])).getD t5.toNat AV.undef) 2), AV.int .i64 (fI ((h0.set t5.toNat (AV.agg [AV.int .i64 t1, AV.int .i64 (fI (h0.getD t5.toNat AV.undef) 1), AV.int .i64 (fI (h0.getD t5.toNat AV.undef) 2), AV.int .i64 (fI (h0.getD t5.toNat AV.undef) 3)])).getD t5.toNat AV.undef) 3)])).set t5.toNat (AV.agg [AV.int .i64 (fI (((h0.set t5.toNat (AV.agg [AV.int .i64 t1, AV.int .i64 (fI (h0.getD t5.toNat AV.undef) 1), AV.int .i64 (fI (h0.getD t5.toNat AV.undef) 2), AV.int .i64 (fI (h0.getD t5.toNat AV.undef) 3)])).set t5.toNat (AV.agg [AV.int .i64 (fI ((h0.set t5.toNat (AV.agg [AV.int .i64 t1, AV.int .i64 (fI (h0.getD t5.toNat AV.undef) 1), AV.int .i64 (fI (h0.getD t5.toNat AV.undef) 2), AV.int .i64 (fI (h0.getD t5.toNat AV.undef) 3)])).getD t5.toNat AV.undef) 0), AV.int .i64 (IntKind.i64.wrap (t1 + 1)), AV.int .i64 (fI ((h0.set t5.toNat (AV.agg [AV.int .i64 t1, AV.int .i64 (fI (h0.getD t5.toNat AV.undef) 1), AV.int .i64 (fI (h0.getD t5.toNat AV.undef) 2), AV.int .i64 (fI (h0.getD t5.toNat AV.undef) 3)])).getD t5.toNat AV.undef) 2), AV.int .i64 (fI ((h0.set t5.toNat (AV.agg [AV.int .i64 t1, AV.int .i64 (fI (h0.getD t5.toNat AV.undef) 1), AV.int .i64 (fI (h0.getD t5.toNat AV.undef) 2), AV.int .i64 (fI (h0.getD t5.toNat AV.undef) 3)])).getD t5.toNat AV.undef) 3)])).getD t5.toNat AV.undef) 0), AV.int .i64 (fI (((h0.set t5.toNat (AV.agg [AV.int .i64 t1, AV.int .i64 (fI (h0.getD t5.toNat AV.undef) 1), AV.int .i64 (fI (h0.getD t5.toNat AV.undef) 2), AV.int .i64 (fI (h0.getD t5.toNat AV.undef) 3)])).set t5.toNat (AV.agg [AV.int .i64 (fI ((h0.set t5.toNat (AV.agg [AV.int .i64 t1, AV.int .i64 (fI (h0.getD t5.toNat AV.undef) 1), AV.int .i64 (fI (h0.getD t5.toNat AV.undef) 2), AV.int .i64 (fI (h0.getD t5.toNat AV.undef) 3)])).getD t5.toNat AV.undef) 0), AV.int .i64 (IntKind.i64.wrap (t1 + 1)), AV.int .i64 (fI ((h0.set t5.toNat (AV.agg [AV.int .i64 t1, AV.int .i64 (fI (h0.getD t5.toNat AV.undef) 1), AV.int .i64 (fI (h0.getD t5.toNat AV.undef) 2), AV.int .i64 (fI (h0.getD t5.toNat AV.undef) 3)])).getD t5.toNat AV.undef) 2), AV.int .i64 (fI ((h0.set t5.toNat (AV.agg [AV.int .i64 t1, AV.int .i64 (fI (h0.getD t5.toNat AV.undef) 1), AV.int .i64 (fI (h0.getD t5.toNat AV.undef) 2), AV.int .i64 (fI (h0.getD t5.toNat AV.undef) 3)])).getD t5.toNat AV.undef) 3)])).getD t5.toNat AV.undef) 1), AV.int .i64 (IntKind.i64.wrap (IntKind.i64.wrap (t1 + 1) + 1)), AV.int .i64 (fI (((h0.set t5.toNat (AV.agg [AV.int .i64 t1, AV.int .i64 (fI (h0.getD t5.toNat AV.undef) 1), AV.int .i64 (fI (h0.getD t5.toNat AV.undef) 2), AV.int .i64 (fI (h0.getD t5.toNat AV.undef) 3)])).set t5.toNat (AV.agg [AV.int .i64 (fI ((h0.set t5.toNat (AV.agg [AV.int .i64 t1, AV.int .i64 (fI (h0.getD t5.toNat AV.undef) 1), AV.int .i64 (fI (h0.getD t5.toNat AV.undef) 2), AV.int .i64 (fI (h0.getD t5.toNat AV.undef) 3)])).getD t5.toNat AV.undef) 0), AV.int .i64 (IntKind.i64.wrap (t1 + 1)), AV.int .i64 (fI ((h0.set t5.toNat (AV.agg [AV.int .i64 t1, AV.int .i64 (fI (h0.getD t5.toNat AV.undef) 1), AV.int .i64 (fI (h0.getD t5.toNat AV.undef) 2), AV.int .i64 (fI (h0.getD t5.toNat AV.undef) 3)])).getD t5.toNat AV.undef) 2), AV.int .i64 (fI ((h0.set t5.toNat (AV.agg [AV.int .i64 t1, AV.int .i64 (fI (h0.getD t5.toNat AV.undef) 1), AV.int .i64 (fI (h0.getD t5.toNat AV.undef) 2), AV.int .i64 (fI (h0.getD t5.toNat AV.undef) 3)])).getD t5.toNat AV.undef) 3)])).getD t5.toNat AV.undef) 3)])).set t5.toNat (AV.agg [AV.int .i64 (fI ((((h0.set t5.toNat (AV.agg [AV.int .i64 t1, AV.int .i64 (fI (h0.getD t5.toNat AV.undef) 1), AV.int .i64 (fI (h0.getD t5.toNat AV.undef) 2), AV.int .i64 (fI (h0.getD t5.toNat AV.undef) 3)])).set t5.toNat (AV.agg [AV.int .i64 (fI ((h0.set t5.toNat (AV.agg [AV.int .i64 t1, AV.int .i64 (fI (h0.getD t5.toNat AV.undef) 1), AV.int .i64 (fI (h0.getD t5.toNat AV.undef) 2), AV.int .i64 (fI (h0.getD t5.toNat AV.undef) 3)])).getD t5.toNat AV.undef) 0), AV.int .i64 (IntKind.i64.wrap (t1 + 1)), AV.int .i64 (fI ((h0.set t5.toNat (AV.agg [AV.int .i64 t1, AV.int .i64 (fI (h0.getD t5.toNat AV.undef) 1), AV.int .i64 (fI (h0.getD t5.toNat AV.undef) 2), AV.int .i64 (fI (h0.getD t5.toNat AV.undef) 3)])).getD t5.toNat AV.undef) 2), AV.int .i64 (fI ((h0.set t5.toNat (AV.agg [AV.int .i64 t1, AV.int .i64 (fI (h0.getD t5.toNat AV.undef) 1), AV.int .i64 (fI (h0.getD t5.toNat AV.undef) 2), AV.int .i64 (fI (h0.getD t5.toNat AV.undef) 3)])).getD t5.toNat AV.undef) 3)])).set t5.toNat (AV.agg [AV.int .i64 (fI (((h0.set t5.toNat (AV.agg [AV.int .i64 t1, AV.int .i64 (fI (h0.getD t5.toNat AV.undef) 1), AV.int .i64 (fI (h0.getD t5.toNat AV.undef) 2), AV.int .i64 (fI (h0.getD t5.toNat AV.undef) 3)])).set t5.toNat (AV.agg [AV.int .i64 (fI ((h0.set t5.toNat (AV.agg [AV.int .i64 t1, AV.int .i64 (fI (h0.getD t5.toNat AV.undef) 1), AV.int .i64 (fI (h0.getD t5.toNat AV.undef) 2), AV.int .i64 (fI (h0.getD t5.toNat AV.undef) 3)])).getD t5.toNat AV.undef) 0), AV.int .i64 (IntKind.i64.wrap (t1 + 1)), AV.int .i64 (fI ((h0.set t5.toNat (AV.agg [AV.int .i64 t1, AV.int .i64 (fI (h0.getD t5.toNat AV.undef) 1), AV.int .i64 (fI (h0.getD t5.toNat AV.undef) 2), AV.int .i64 (fI (h0.getD t5.toNat AV.undef) 3)])).getD t5.toNat AV.undef) 2), AV.int .i64 (fI ((h0.set t5.toNat (AV.agg [AV.int .i64 t1, AV.int .i64 (fI (h0.getD t5.toNat AV.undef) 1), AV.int .i64 (fI (h0.getD t5.toNat AV.undef) 2), AV.int .i64 (fI (h0.getD t5.toNat AV.undef) 3)])).getD t5.toNat AV.undef) 3)])).getD t5.toNat AV.undef) 0), AV.int .i64 (fI (((h0.set t5.toNat (AV.agg [AV.int .i64 t1, AV.int .i64 (fI (h0.getD t5.toNat AV.undef) 1), AV.int .i64 (fI (h0.getD t5.toNat AV.undef) 2), AV.int .i64 (fI (h0.getD t5.toNat AV.undef) 3)])).set t5.toNat (AV.agg [AV.int .i64 (fI ((h0.set t5.toNat (AV.agg [AV.int .i64 t1, AV.int .i64 (fI (h0.getD t5.toNat AV.undef) 1), AV.int .i64 (fI (h0.getD t5.toNat AV.undef) 2), AV.int .i64 (fI (h0.getD t5.toNat AV.undef) 3)])).getD t5.toNat AV.undef) 0), AV.int .i64 (IntKind.i64.wrap (t1 + 1)), AV.int .i64 (fI ((h0.set t5.toNat (AV.agg [AV.int .i64 t1, AV.int .i64 (fI (h0.getD t5.toNat AV.undef) 1), AV.int .i64 (fI (h0.getD t5.toNat AV.undef) 2), AV.int .i64 (fI (h0.getD t5.toNat AV.undef) 3)])).getD t5.toNat AV.undef) 2), AV.int .i64 (fI ((h0.set t5.toNat (AV.agg [AV.int .i64 t1, AV.int .i64 (fI (h0.getD t5.toNat AV.undef) 1), AV.int .i64 (fI (h0.getD t5.toNat AV.undef) 2), AV.int .i64 (fI (h0.getD t5.toNat AV.undef) 3)])).getD t5.toNat AV.undef) 3)])).getD t5.toNat AV.undef) 1), AV.int .i64 (IntKind.i64.wrap (IntKind.i64.wrap (t1 + 1) + 1)), AV.int .i64 (fI (((h0.set t5.toNat (AV.agg [AV.int .i64 t1, AV.int .i64 (fI (h0.getD t5.toNat AV.undef) 1), AV.int .i64 (fI (h0.getD t5.toNat AV.undef) 2), AV.int .i64 (fI (h0.getD t5.toNat AV.undef) 3)])).set t5.toNat (AV.agg [AV.int .i64 (fI ((h0.set t5.toNat (AV.agg [AV.int .i64 t1, AV.int .i64 (fI (h0.getD t5.toNat AV.undef) 1), AV.int .i64 (fI (h0.getD t5.toNat AV.undef) 2), AV.int .i64 (fI (h0.getD t5.toNat AV.undef) 3)])).getD t5.toNat AV.undef) 0), AV.int .i64 (IntKind.i64.wrap (t1 + 1)), AV.int .i64 (fI ((h0.set t5.toNat (AV.agg [AV.int .i64 t1, AV.int .i64 (fI (h0.getD t5.toNat AV.undef) 1), AV.int .i64 (fI (h0.getD t5.toNat AV.undef) 2), AV.int .i64 (fI (h0.getD t5.toNat AV.undef) 3)])).getD t5.toNat AV.undef) 2), AV.int .i64 (fI ((h0.set t5.toNat (AV.agg [AV.int .i64 t1, AV.int .i64 (fI (h0.getD t5.toNat AV.undef) 1), AV.int .i64 (fI (h0.getD t5.toNat AV.undef) 2), AV.int .i64 (fI (h0.getD t5.toNat AV.undef) 3)])).getD t5.toNat AV.undef) 3)])).getD t5.toNat AV.undef) 3)])).getD t5.toNat AV.undef) 0), AV.int .i64 (fI ((((h0.set t5.toNat (AV.agg [AV.int .i64 t1, AV.int .i64 (fI (h0.getD t5.toNat AV.undef) 1), AV.int .i64 (fI (h0.getD t5.toNat AV.undef) 2), AV.int .i64 (fI (h0.getD t5.toNat AV.undef) 3)])).set t5.toNat (AV.agg [AV.int .i64 (fI ((h0.set t5.toNat (AV.agg [AV.int .i64 t1, AV.int .i64 (fI (h0.getD t5.toNat AV.undef) 1), AV.int .i64 (fI (h0.getD t5.toNat AV.undef) 2), AV.int .i64 (fI (h0.getD t5.toNat AV.undef) 3)])).getD t5.toNat AV.undef) 0), AV.int .i64 (IntKind.i64.wrap (t1 + 1)), AV.int .i64 (fI ((h0.set t5.toNat (AV.agg [AV.int .i64 t1, AV.int .i64 (fI (h0.getD t5.toNat AV.undef) 1), AV.int .i64 (fI (h0.getD t5.toNat AV.undef) 2), AV.int .i64 (fI (h0.getD t5.toNat AV.undef) 3)])).getD t5.toNat AV.undef) 2), AV.int .i64 (fI ((h0.set t5.toNat (AV.agg [AV.int .i64 t1, AV.int .i64 (fI (h0.getD t5.toNat AV.undef) 1), AV.int .i64 (fI (h0.getD t5.toNat AV.undef) 2), AV.int .i64 (fI (h0.getD t5.toNat AV.undef) 3)])).getD t5.toNat AV.undef) 3)])).set t5.toNat (AV.agg [AV.int .i64 (fI (((h0.set t5.toNat (AV.agg [AV.int .i64 t1, AV.int .i64 (fI (h0.getD t5.toNat AV.undef) 1), AV.int .i64 (fI (h0.getD t5.toNat AV.undef) 2), AV.int .i64 (fI (h0.getD t5.toNat AV.undef) 3)])).set t5.toNat (AV.agg [AV.int .i64 (fI ((h0.set t5.toNat (AV.agg [AV.int .i64 t1, AV.int .i64 (fI (h0.getD t5.toNat AV.undef) 1), AV.int .i64 (fI (h0.getD t5.toNat AV.undef) 2), AV.int .i64 (fI (h0.getD t5.toNat AV.undef) 3)])).getD t5.toNat AV.undef) 0), AV.int .i64 (IntKind.i64.wrap (t1 + 1)), AV.int .i64 (fI ((h0.set t5.toNat (AV.agg [AV.int .i64 t1, AV.int .i64 (fI (h0.getD t5.toNat AV.undef) 1), AV.int .i64 (fI (h0.getD t5.toNat AV.undef) 2), AV.int .i64 (fI (h0.getD t5.toNat AV.undef) 3)])).getD t5.toNat AV.undef) 2), AV.int .i64 (fI ((h0.set t5.toNat (AV.agg [AV.int .i64 t1, AV.int .i64 (fI (h0.getD t5.toNat AV.undef) 1), AV.int .i64 (fI (h0.getD t5.toNat AV.undef) 2), AV.int .i64 (fI (h0.getD t5.toNat AV.undef) 3)])).getD t5.toNat AV.undef) 3)])).getD t5.toNat AV.undef) 0), AV.int .i64 (fI (((h0.set t5.toNat (AV.agg [AV.int .i64 t1, AV.int .i64 (fI (h0.getD t5.toNat AV.undef) 1), AV.int .i64 (fI (h0.getD t5.toNat AV.undef) 2), AV.int .i64 (fI (h0.getD t5.toNat AV.undef) 3)])).set t5.toNat (AV.agg [AV.int .i64 (fI ((h0.set t5.toNat (AV.agg [AV.int .i64 t1, AV.int .i64 (fI (h0.getD t5.toNat AV.undef) 1), AV.int .i64 (fI (h0.getD t5.toNat AV.undef) 2), AV.int .i64 (fI (h0.getD t5.toNat AV.undef) 3)])).getD t5.toNat AV.undef) 0), AV.int .i64 (IntKind.i64.wrap (t1 + 1)), AV.int .i64 (fI ((h0.set t5.toNat (AV.agg [AV.int .i64 t1, AV.int .i64 (fI (h0.getD t5.toNat AV.undef) 1), AV.int .i64 (fI (h0.getD t5.toNat AV.undef) 2), AV.int .i64 (fI (h0.getD t5.toNat AV.undef) 3)])).getD t5.toNat AV.undef) 2), AV.int .i64 (fI ((h0.set t5.toNat (AV.agg [AV.int .i64 t1, AV.int .i64 (fI (h0.getD t5.toNat AV.undef) 1), AV.int .i64 (fI (h0.getD t5.toNat AV.undef) 2), AV.int .i64 (fI (h0.getD t5.toNat AV.undef) 3)])).getD t5.toNat AV.undef) 3)])).getD t5.toNat AV.undef) 1), AV.int .i64 (IntKind.i64.wrap (IntKind.i64.wrap (t1 + 1) + 1)), AV.int .i64 (fI (((h0.set t5.toNat (AV.agg [AV.int .i64 t1, AV.int .i64 (fI (h0.getD t5.toNat AV.undef) 1), AV.int .i64 (fI (h0.getD t5.toNat AV.undef) 2), AV.int .i64 (fI (h0.getD t5.toNat AV.undef) 3)])).set t5.toNat (AV.agg [AV.int .i64 (fI ((h0.set t5.toNat (AV.agg [AV.int .i64 t1, AV.int .i64 (fI (h0.getD t5.toNat AV.undef) 1), AV.int .i64 (fI (h0.getD t5.toNat AV.undef) 2), AV.int .i64 (fI (h0.getD t5.toNat AV.undef) 3)])).getD t5.toNat AV.undef) 0), AV.int .i64 (IntKind.i64.wrap (t1 + 1)), AV.int .i64 (fI ((h0.set t5.toNat (AV.agg [AV.int .i64 t1, AV.int .i64 (fI (h0.getD t5.toNat AV.undef) 1), AV.int .i64 (fI (h0.getD t5.toNat AV.undef) 2), AV.int .i64 (fI (h0.getD t5.toNat AV.undef) 3)])).getD t5.toNat AV.undef) 2), AV.int .i64 (fI ((h0.set t5.toNat (AV.agg [AV.int .i64 t1, AV.int .i64 (fI (h0.getD t5.toNat AV.undef) 1), AV.int .i64 (fI (h0.getD t5.toNat AV.undef) 2), AV.int .i64 (fI (h0.getD t5.toNat AV.undef) 3)])).getD t5.toNat AV.undef) 3)])).getD t5.toNat AV.undef) 3)])).getD t5.toNat AV.undef) 1), AV.int .i64 (fI ((((h0.set t5.toNat (AV.agg [AV.int .i64 t1, AV.int .i64 (fI (h0.getD t5.toNat AV.undef) 1), AV.int .i64 (fI (h0.getD t5.toNat AV.undef) 2), AV.int .i64 (fI (h0.getD t5.toNat AV.undef) 3)])).set t5.toNat (AV.agg [AV.int .i64 (fI ((h0.set t5.toNat (AV.agg [AV.int .i64 t1, AV.int .i64 (fI (h0.getD t5.toNat AV.undef) 1), AV.int .i64 (fI (h0.getD t5.toNat AV.undef) 2), AV.int .i64 (fI (h0.getD t5.toNat AV.undef) 3)])).getD t5.toNat AV.undef) 0), AV.int .i64 (IntKind.i64.wrap (t1 + 1)), AV.int .i64 (fI ((h0.set t5.toNat (AV.agg [AV.int .i64 t1, AV.int .i64 (fI (h0.getD t5.toNat AV.undef) 1), AV.int .i64 (fI (h0.getD t5.toNat AV.undef) 2), AV.int .i64 (fI (h0.getD t5.toNat AV.undef) 3)])).getD t5.toNat AV.undef) 2), AV.int .i64 (fI ((h0.set t5.toNat (AV.agg [AV.int .i64 t1, AV.int .i64 (fI (h0.getD t5.toNat AV.undef) 1), AV.int .i64 (fI (h0.getD t5.toNat AV.undef) 2), AV.int .i64 (fI (h0.getD t5.toNat AV.undef) 3)])).getD t5.toNat AV.undef) 3)])).set t5.toNat (AV.agg [AV.int .i64 (fI (((h0.set t5.toNat (AV.agg [AV.int .i64 t1, AV.int .i64 (fI (h0.getD t5.toNat AV.undef) 1), AV.int .i64 (fI (h0.getD t5.toNat AV.undef) 2), AV.int .i64 (fI (h0.getD t5.toNat AV.undef) 3)])).set t5.toNat (AV.agg [AV.int .i64 (fI ((h0.set t5.toNat (AV.agg [AV.int .i64 t1, AV.int .i64 (fI (h0.getD t5.toNat AV.undef) 1), AV.int .i64 (fI (h0.getD t5.toNat AV.undef) 2), AV.int .i64 (fI (h0.getD t5.toNat AV.undef) 3)])).getD t5.toNat AV.undef) 0), AV.int .i64 (IntKind.i64.wrap (t1 + 1)), AV.int .i64 (fI ((h0.set t5.toNat (AV.agg [AV.int .i64 t1, AV.int .i64 (fI (h0.getD t5.toNat AV.undef) 1), AV.int .i64 (fI (h0.getD t5.toNat AV.undef) 2), AV.int .i64 (fI (h0.getD t5.toNat AV.undef) 3)])).getD t5.toNat AV.undef) 2), AV.int .i64 (fI ((h0.set t5.toNat (AV.agg [AV.int .i64 t1, AV.int .i64 (fI (h0.getD t5.toNat AV.undef) 1), AV.int .i64 (fI (h0.getD t5.toNat AV.undef) 2), AV.int .i64 (fI (h0.getD t5.toNat AV.undef) 3)])).getD t5.toNat AV.undef) 3)])).getD t5.toNat AV.undef) 0), AV.int .i64 (fI (((h0.set t5.toNat (AV.agg [AV.int .i64 t1, AV.int .i64 (fI (h0.getD t5.toNat AV.undef) 1), AV.int .i64 (fI (h0.getD t5.toNat AV.undef) 2), AV.int .i64 (fI (h0.getD t5.toNat AV.undef) 3)])).set t5.toNat (AV.agg [AV.int .i64 (fI ((h0.set t5.toNat (AV.agg [AV.int .i64 t1, AV.int .i64 (fI (h0.getD t5.toNat AV.undef) 1), AV.int .i64 (fI (h0.getD t5.toNat AV.undef) 2), AV.int .i64 (fI (h0.getD t5.toNat AV.undef) 3)])).getD t5.toNat AV.undef) 0), AV.int .i64 (IntKind.i64.wrap (t1 + 1)), AV.int .i64 (fI ((h0.set t5.toNat (AV.agg [AV.int .i64 t1, AV.int .i64 (fI (h0.getD t5.toNat AV.undef) 1), AV.int .i64 (fI (h0.getD t5.toNat AV.undef) 2), AV.int .i64 (fI (h0.getD t5.toNat AV.undef) 3)])).getD t5.toNat AV.undef) 2), AV.int .i64 (fI ((h0.set t5.toNat (AV.agg [AV.int .i64 t1, AV.int .i64 (fI (h0.getD t5.toNat AV.undef) 1), AV.int .i64 (fI (h0.getD t5.toNat AV.undef) 2), AV.int .i64 (fI (h0.getD t5.toNat AV.undef) 3)])).getD t5.toNat AV.undef) 3)])).getD t5.toNat AV.undef) 1), AV.int .i64 (IntKind.i64.wrap (IntKind.i64.wrap (t1 + 1) + 1)), AV.int .i64 (fI (((h0.set t5.toNat (AV.agg [AV.int .i64 t1, AV.int .i64 (fI (h0.getD t5.toNat AV.undef) 1), AV.int .i64 (fI (h0.getD t5.toNat AV.undef) 2), AV.int .i64 (fI (h0.getD t5.toNat AV.undef) 3)])).set t5.toNat (AV.agg [AV.int .i64 (fI ((h0.set t5.toNat (AV.agg [AV.int .i64 t1, AV.int .i64 (fI (h0.getD t5.toNat AV.undef) 1), AV.int .i64 (fI (h0.getD t5.toNat AV.undef) 2), AV.int .i64 (fI (h0.getD t5.toNat AV.undef) 3)])).getD t5.toNat AV.undef) 0), AV.int .i64 (IntKind.i64.wrap (t1 + 1)), AV.int .i64 (fI ((h0.set t5.toNat (AV.agg [AV.int .i64 t1, AV.int .i64 (fI (h0.getD t5.toNat AV.undef) 1), AV.int .i64 (fI (h0.getD t5.toNat AV.undef) 2), AV.int .i64 (fI (h0.getD t5.toNat AV.undef) 3)])).getD t5.toNat AV.undef) 2), AV.int .i64 (fI ((h0.set t5.toNat (AV.agg [AV.int .i64 t1, AV.int .i64 (fI (h0.getD t5.toNat AV.undef) 1), AV.int .i64 (fI (h0.getD t5.toNat AV.undef) 2), AV.int .i64 (fI (h0.getD t5.toNat AV.undef) 3)])).getD t5.toNat AV.undef) 3)])).getD t5.toNat AV.undef) 3)])).getD t5.toNat AV.undef) 2), AV.int .i64 (IntKind.i64.wrap (IntKind.i64.wrap (IntKind.i64.wrap (t1 + 1) + 1) + 1))])⟩)]⟩
      else none)
     else none)
    else none)
   else none)
  else k (.exit 0) ⟨[(1, AV.int .i64 t1)], [([1], ⟨false, [.int .i64, .int .i64, .int .i64, .int .i64], h0⟩)]⟩) := by kernel_rfl
theorem st24_0 (ce : CallE) (k : Kont) (s : (Int × Int × (List AV))) (next : St → Option AV) : stepA (codeA c24 ce [0] 24 0 (sub [1, 0, 1, 0, 0] (body Try.f24))) (normA [0] [0, 1, 5]) next ((fun s : Int × Int × (List AV) => ⟨[(0, AV.own [1]), (1, AV.int .i64 s.1), (5, AV.int .i64 s.2.1)], [([1], ⟨false, [.int .i64, .int .i64, .int .i64, .int .i64], s.2.2⟩)]⟩) s) k = (R24_0 s).el none (fun s => next ((fun s : Int × Int × (List AV) => ⟨[(0, AV.own [1]), (1, AV.int .i64 s.1), (5, AV.int .i64 s.2.1)], [([1], ⟨false, [.int .i64, .int .i64, .int .i64, .int .i64], s.2.2⟩)]⟩) s)) (fun p : Int × (List AV) => k (.exit 0) ⟨[(1, AV.int .i64 p.1)], [([1], ⟨false, [.int .i64, .int .i64, .int .i64, .int .i64], p.2⟩)]⟩) := (s24_0 ce s.1 s.2.1 s.2.2 next k).trans (by unfold R24_0; unfold F24_0; simp only [el_cond, el_ro, el_sum, el_fail, el_next, el_stop] <;> rfl)
theorem ok24_0 : LoopOK c24 [0] 24 0 (sub [1, 0, 1, 0, 0] (body Try.f24)) := by
  intro m hm ce st k r h
  obtain rfl : l24_0 = m := Option.some.inj hm
  unfold l24_0 at h
  split at h
  · rename_i g0 t1 t5 g1 g2 h0
    obtain ⟨hg, h⟩ := bif_some h
    simp only [Bool.and_eq_true] at hg
    obtain ⟨⟨q0, q1⟩, q2⟩ := hg
    obtain rfl := (nmEq_iff _ _).1 q0
    obtain rfl := (nmEq_iff _ _).1 q1
    obtain rfl := ctsEq_eq _ _ q2
    refine ⟨(((h0.length : Int) - t5).toNat + 1), ?_⟩
    rw [← h]
    exact loop_run (fun s : Int × Int × (List AV) => ⟨[(0, AV.own [1]), (1, AV.int .i64 s.1), (5, AV.int .i64 s.2.1)], [([1], ⟨false, [.int .i64, .int .i64, .int .i64, .int .i64], s.2.2⟩)]⟩) (fun p : Int × (List AV) => k (.exit 0) ⟨[(1, AV.int .i64 p.1)], [([1], ⟨false, [.int .i64, .int .i64, .int .i64, .int .i64], p.2⟩)]⟩) (st24_0 ce k) _ (t1, t5, h0)
  · cases h
def q24 (a1 : Int) (b0 : List AV) : Bool := (ro (runW (R24_0) (((b0.length : Int) - 0).toNat + 1) (a1, 0, b0)) false (fun p8 => true))
def v24_0 (a1 : Int) (b0 : List AV) : Int := (ro (runW (R24_0) (((b0.length : Int) - 0).toNat + 1) (a1, 0, b0)) 0 (fun p8 => p8.1))
def v24_1 (a1 : Int) (b0 : List AV) : List AV := (ro (runW (R24_0) (((b0.length : Int) - 0).toNat + 1) (a1, 0, b0)) [] (fun p8 => p8.2))
theorem e24 (a1 : Int) (b0 : List AV) (K : AV → List Blk → Option AV) : inlA c24 1 24 [AV.own [1], AV.int .i64 a1] [0] (canH 1 [⟨false, [.int .i64, .int .i64, .int .i64, .int .i64], b0⟩]) (keepB 1 K) = (ro (runW (R24_0) (((b0.length : Int) - 0).toNat + 1) (a1, 0, b0)) none (fun p8 => K (AV.int .i64 p8.1) [⟨false, [.int .i64, .int .i64, .int .i64, .int .i64], p8.2⟩])) := by kernel_rfl
theorem r24 (a1 : Int) (b0 : List AV) (K : AV → List Blk → Option AV) (h : q24 a1 b0 = true) : inlA c24 1 24 [AV.own [1], AV.int .i64 a1] [0] (canH 1 [⟨false, [.int .i64, .int .i64, .int .i64, .int .i64], b0⟩]) (keepB 1 K) = K (AV.int .i64 (v24_0 a1 b0)) [⟨false, [.int .i64, .int .i64, .int .i64, .int .i64], (v24_1 a1 b0)⟩] := (e24 a1 b0 K).trans ((brO (fun o : Option ((Int × (List AV))) => K (AV.int .i64 (ro o 0 (fun p8 => p8.1))) [⟨false, [.int .i64, .int .i64, .int .i64, .int .i64], (ro o [] (fun p8 => p8.2))⟩]) (fun p8 => (fun _ => rfl))) h)
def m24 : WModel
  | [.own g0, .int .i64 a1], [⟨false, g1, b0⟩] => bif nmEq g0 ([1]) && ctsEq g1 ([.int .i64, .int .i64, .int .i64, .int .i64]) then some (q24 a1 b0, AV.int .i64 (v24_0 a1 b0), [⟨false, [.int .i64, .int .i64, .int .i64, .int .i64], (v24_1 a1 b0)⟩]) else none
  | _, _ => none
theorem k24 : Known Try.prog 24 := ⟨Try.f24, Try.func24, by kernel_rfl, by kernel_rfl⟩
theorem meets24 : MeetsM Try.prog 24 m24 := by
  refine meetM (f := Try.f24) (l := [(0, sub [1, 0, 1, 0, 0] (body Try.f24))]) (hs := [(24, 0, [0, 1, 5]), (24, 999, [4]), (24, 1000, [1]), (24, 1001, [0, 1, 5])]) (ts := []) (ws := []) (is := []) (ls := [(24, 0, l24_0)]) (lvl := 0) mixed k24 Try.func24 (by kernel_rfl) (loops_cons ok24_0 noLoop) allT_nil allM_nil noI fun C w xs us bs r bs' hl hv hh h K => ?_
  unfold m24 at h
  split at h
  · rename_i g0 a1 g1 b0
    obtain ⟨hg, h⟩ := bif_pair h
    simp only [Bool.and_eq_true] at hg
    obtain ⟨q0, q1⟩ := hg
    obtain rfl := (nmEq_iff _ _).1 q0
    obtain rfl := ctsEq_eq _ _ q1
    obtain ⟨h1, rfl, rfl⟩ := trip_inj h
    exact r24 a1 b0 K h1
  · cases h

/-! ### 25 loop.example/g01984/laws.markIntS -/
def F25_0 (t1 : Int) (t5 : Int) (h0 : List AV) : Out ((Int × Int × (List AV))) ((Int × (List AV))) := (bif decide (t5 < (h0.length : Int)) then (bif (decide (0 ≤ t5) && decide (t5 < (h0.length : Int))) then .next (IntKind.i64.wrap (t1 + 1), IntKind.i64.wrap (t5 + 1), h0.set t5.toNat (AV.agg [AV.int .i64 t1]))
   else .fail)
  else .stop (t1, h0))
def R25_0 : ((Int × Int × (List AV))) → Out ((Int × Int × (List AV))) ((Int × (List AV))) := fun s : Int × Int × (List AV) => F25_0 s.1 s.2.1 s.2.2
def l25_0 : LModel := fun _ _ st k => match st with
  | ⟨[(0, .own g0), (1, .int .i64 t1), (5, .int .i64 t5)], [(g1, ⟨false, g2, h0⟩)]⟩ => bif nmEq g0 ([1]) && nmEq g1 ([1]) && ctsEq g2 ([.int .i64]) then ro (runW (R25_0) (((h0.length : Int) - t5).toNat + 1) (t1, t5, h0)) none (fun p : Int × (List AV) => k (.exit 0) ⟨[(1, AV.int .i64 p.1)], [([1], ⟨false, [.int .i64], p.2⟩)]⟩) else none
  | _ => none
noncomputable def c25 : Cfg := cfg Try.prog [(25, 0, [0, 1, 5]), (25, 999, [4]), (25, 1000, [1]), (25, 1001, [0, 1, 5])] [] [] [] [(25, 0, l25_0)]
theorem s25_0 (ce : CallE) (t1 : Int) (t5 : Int) (h0 : List AV) (next : St → Option AV) (k : Kont) : stepA (codeA c25 ce [0] 25 0 (sub [1, 0, 1, 0, 0] (body Try.f25))) (normA [0] [0, 1, 5]) next ⟨[(0, AV.own [1]), (1, AV.int .i64 t1), (5, AV.int .i64 t5)], [([1], ⟨false, [.int .i64], h0⟩)]⟩ k = (bif decide (t5 < (h0.length : Int)) then (bif (decide (0 ≤ t5) && decide (t5 < (h0.length : Int))) then next ⟨[(0, AV.own [1]), (1, AV.int .i64 (IntKind.i64.wrap (t1 + 1))), (5, AV.int .i64 (IntKind.i64.wrap (t5 + 1)))], [([1], ⟨false, [.int .i64], h0.set t5.toNat (AV.agg [AV.int .i64 t1])⟩)]⟩
   else none)
  else k (.exit 0) ⟨[(1, AV.int .i64 t1)], [([1], ⟨false, [.int .i64], h0⟩)]⟩) := by kernel_rfl
theorem st25_0 (ce : CallE) (k : Kont) (s : (Int × Int × (List AV))) (next : St → Option AV) : stepA (codeA c25 ce [0] 25 0 (sub [1, 0, 1, 0, 0] (body Try.f25))) (normA [0] [0, 1, 5]) next ((fun s : Int × Int × (List AV) => ⟨[(0, AV.own [1]), (1, AV.int .i64 s.1), (5, AV.int .i64 s.2.1)], [([1], ⟨false, [.int .i64], s.2.2⟩)]⟩) s) k = (R25_0 s).el none (fun s => next ((fun s : Int × Int × (List AV) => ⟨[(0, AV.own [1]), (1, AV.int .i64 s.1), (5, AV.int .i64 s.2.1)], [([1], ⟨false, [.int .i64], s.2.2⟩)]⟩) s)) (fun p : Int × (List AV) => k (.exit 0) ⟨[(1, AV.int .i64 p.1)], [([1], ⟨false, [.int .i64], p.2⟩)]⟩) := (s25_0 ce s.1 s.2.1 s.2.2 next k).trans (by unfold R25_0; unfold F25_0; simp only [el_cond, el_ro, el_sum, el_fail, el_next, el_stop] <;> rfl)
theorem ok25_0 : LoopOK c25 [0] 25 0 (sub [1, 0, 1, 0, 0] (body Try.f25)) := by
  intro m hm ce st k r h
  obtain rfl : l25_0 = m := Option.some.inj hm
  unfold l25_0 at h
  split at h
  · rename_i g0 t1 t5 g1 g2 h0
    obtain ⟨hg, h⟩ := bif_some h
    simp only [Bool.and_eq_true] at hg
    obtain ⟨⟨q0, q1⟩, q2⟩ := hg
    obtain rfl := (nmEq_iff _ _).1 q0
    obtain rfl := (nmEq_iff _ _).1 q1
    obtain rfl := ctsEq_eq _ _ q2
    refine ⟨(((h0.length : Int) - t5).toNat + 1), ?_⟩
    rw [← h]
    exact loop_run (fun s : Int × Int × (List AV) => ⟨[(0, AV.own [1]), (1, AV.int .i64 s.1), (5, AV.int .i64 s.2.1)], [([1], ⟨false, [.int .i64], s.2.2⟩)]⟩) (fun p : Int × (List AV) => k (.exit 0) ⟨[(1, AV.int .i64 p.1)], [([1], ⟨false, [.int .i64], p.2⟩)]⟩) (st25_0 ce k) _ (t1, t5, h0)
  · cases h
def q25 (a1 : Int) (b0 : List AV) : Bool := (ro (runW (R25_0) (((b0.length : Int) - 0).toNat + 1) (a1, 0, b0)) false (fun p9 => true))
def v25_0 (a1 : Int) (b0 : List AV) : Int := (ro (runW (R25_0) (((b0.length : Int) - 0).toNat + 1) (a1, 0, b0)) 0 (fun p9 => p9.1))
def v25_1 (a1 : Int) (b0 : List AV) : List AV := (ro (runW (R25_0) (((b0.length : Int) - 0).toNat + 1) (a1, 0, b0)) [] (fun p9 => p9.2))
theorem e25 (a1 : Int) (b0 : List AV) (K : AV → List Blk → Option AV) : inlA c25 1 25 [AV.own [1], AV.int .i64 a1] [0] (canH 1 [⟨false, [.int .i64], b0⟩]) (keepB 1 K) = (ro (runW (R25_0) (((b0.length : Int) - 0).toNat + 1) (a1, 0, b0)) none (fun p9 => K (AV.int .i64 p9.1) [⟨false, [.int .i64], p9.2⟩])) := by kernel_rfl
theorem r25 (a1 : Int) (b0 : List AV) (K : AV → List Blk → Option AV) (h : q25 a1 b0 = true) : inlA c25 1 25 [AV.own [1], AV.int .i64 a1] [0] (canH 1 [⟨false, [.int .i64], b0⟩]) (keepB 1 K) = K (AV.int .i64 (v25_0 a1 b0)) [⟨false, [.int .i64], (v25_1 a1 b0)⟩] := (e25 a1 b0 K).trans ((brO (fun o : Option ((Int × (List AV))) => K (AV.int .i64 (ro o 0 (fun p9 => p9.1))) [⟨false, [.int .i64], (ro o [] (fun p9 => p9.2))⟩]) (fun p9 => (fun _ => rfl))) h)
def m25 : WModel
  | [.own g0, .int .i64 a1], [⟨false, g1, b0⟩] => bif nmEq g0 ([1]) && ctsEq g1 ([.int .i64]) then some (q25 a1 b0, AV.int .i64 (v25_0 a1 b0), [⟨false, [.int .i64], (v25_1 a1 b0)⟩]) else none
  | _, _ => none
theorem k25 : Known Try.prog 25 := ⟨Try.f25, Try.func25, by kernel_rfl, by kernel_rfl⟩
theorem meets25 : MeetsM Try.prog 25 m25 := by
  refine meetM (f := Try.f25) (l := [(0, sub [1, 0, 1, 0, 0] (body Try.f25))]) (hs := [(25, 0, [0, 1, 5]), (25, 999, [4]), (25, 1000, [1]), (25, 1001, [0, 1, 5])]) (ts := []) (ws := []) (is := []) (ls := [(25, 0, l25_0)]) (lvl := 0) mixed k25 Try.func25 (by kernel_rfl) (loops_cons ok25_0 noLoop) allT_nil allM_nil noI fun C w xs us bs r bs' hl hv hh h K => ?_
  unfold m25 at h
  split at h
  · rename_i g0 a1 g1 b0
    obtain ⟨hg, h⟩ := bif_pair h
    simp only [Bool.and_eq_true] at hg
    obtain ⟨q0, q1⟩ := hg
    obtain rfl := (nmEq_iff _ _).1 q0
    obtain rfl := ctsEq_eq _ _ q1
    obtain ⟨h1, rfl, rfl⟩ := trip_inj h
    exact r25 a1 b0 K h1
  · cases h

/-! ### 26 loop.example/g01984/laws.heldIntS -/
def F26_0 (t0 : List AV) (t1 : Int) (t5 : Int) : Out ((Int × Int)) (Int ⊕ Unit) := (bif decide (t5 < (t0.length : Int)) then (bif (decide (0 ≤ t5) && decide (t5 < (t0.length : Int))) then (bif !decide (fI (t0.getD t5.toNat AV.undef) 0 = t1) then .stop (.inr ())
    else .next (IntKind.i64.wrap (t1 + 1), IntKind.i64.wrap (t5 + 1)))
   else .fail)
  else .stop (.inl t1))
def R26_0 (t0 : List AV) : ((Int × Int)) → Out ((Int × Int)) (Int ⊕ Unit) := fun s : Int × Int => F26_0 t0 s.1 s.2
def l26_0 : LModel := fun _ _ st k => match st with
  | ⟨[(0, .sl g0 t0), (1, .int .i64 t1), (5, .int .i64 t5)], []⟩ => bif ctsEq g0 ([.int .i64]) then ro (runW (R26_0 t0) (((t0.length : Int) - t5).toNat + 1) (t1, t5)) none (sumE (fun p : Int => k (.exit 0) ⟨[(1, AV.int .i64 p)], []⟩) (fun _ : Unit => k .ret ⟨[(4, AV.int .i64 (-1))], []⟩)) else none
  | _ => none
noncomputable def c26 : Cfg := cfg Try.prog [(26, 0, [0, 1, 5]), (26, 999, [4]), (26, 1000, [1]), (26, 1001, [0, 1, 5])] [] [] [] [(26, 0, l26_0)]
theorem s26_0 (ce : CallE) (t0 : List AV) (t1 : Int) (t5 : Int) (next : St → Option AV) (k : Kont) : stepA (codeA c26 ce [] 26 0 (sub [1, 0, 1, 0, 0] (body Try.f26))) (normA [] [0, 1, 5]) next ⟨[(0, AV.sl [.int .i64] t0), (1, AV.int .i64 t1), (5, AV.int .i64 t5)], []⟩ k = (bif decide (t5 < (t0.length : Int)) then (bif (decide (0 ≤ t5) && decide (t5 < (t0.length : Int))) then (bif !decide (fI (t0.getD t5.toNat AV.undef) 0 = t1) then k .ret ⟨[(4, AV.int .i64 (-1))], []⟩
    else next ⟨[(0, AV.sl [.int .i64] t0), (1, AV.int .i64 (IntKind.i64.wrap (t1 + 1))), (5, AV.int .i64 (IntKind.i64.wrap (t5 + 1)))], []⟩)
   else none)
  else k (.exit 0) ⟨[(1, AV.int .i64 t1)], []⟩) := by kernel_rfl
theorem st26_0 (t0 : List AV) (ce : CallE) (k : Kont) (s : (Int × Int)) (next : St → Option AV) : stepA (codeA c26 ce [] 26 0 (sub [1, 0, 1, 0, 0] (body Try.f26))) (normA [] [0, 1, 5]) next ((fun s : Int × Int => ⟨[(0, AV.sl [.int .i64] t0), (1, AV.int .i64 s.1), (5, AV.int .i64 s.2)], []⟩) s) k = (R26_0 t0 s).el none (fun s => next ((fun s : Int × Int => ⟨[(0, AV.sl [.int .i64] t0), (1, AV.int .i64 s.1), (5, AV.int .i64 s.2)], []⟩) s)) (sumE (fun p : Int => k (.exit 0) ⟨[(1, AV.int .i64 p)], []⟩) (fun _ : Unit => k .ret ⟨[(4, AV.int .i64 (-1))], []⟩)) := (s26_0 ce t0 s.1 s.2 next k).trans (by unfold R26_0; unfold F26_0; simp only [el_cond, el_ro, el_sum, el_fail, el_next, el_stop] <;> rfl)
theorem ok26_0 : LoopOK c26 [] 26 0 (sub [1, 0, 1, 0, 0] (body Try.f26)) := by
  intro m hm ce st k r h
  obtain rfl : l26_0 = m := Option.some.inj hm
  unfold l26_0 at h
  split at h
  · rename_i g0 t0 t1 t5
    obtain ⟨hg, h⟩ := bif_some h
    have q0 := hg
    obtain rfl := ctsEq_eq _ _ q0
    refine ⟨(((t0.length : Int) - t5).toNat + 1), ?_⟩
    rw [← h]
    exact loop_run (fun s : Int × Int => ⟨[(0, AV.sl [.int .i64] t0), (1, AV.int .i64 s.1), (5, AV.int .i64 s.2)], []⟩) (sumE (fun p : Int => k (.exit 0) ⟨[(1, AV.int .i64 p)], []⟩) (fun _ : Unit => k .ret ⟨[(4, AV.int .i64 (-1))], []⟩)) (st26_0 t0 ce k) _ (t1, t5)
  · cases h
def q26 (a0 : List AV) (a1 : Int) : Bool := (ro (runW (R26_0 a0) (((a0.length : Int) - 0).toNat + 1) (a1, 0)) false (sumE (fun p10 => true) (fun _ => true)))
def v26_0 (a0 : List AV) (a1 : Int) : Int := (ro (runW (R26_0 a0) (((a0.length : Int) - 0).toNat + 1) (a1, 0)) 0 (sumE (fun p10 => p10) (fun _ => (-1))))
theorem e26 (a0 : List AV) (a1 : Int) : funA c26 0 26 [AV.sl [.int .i64] a0, AV.int .i64 a1] = (ro (runW (R26_0 a0) (((a0.length : Int) - 0).toNat + 1) (a1, 0)) none (sumE (fun p10 => some (AV.int .i64 p10)) (fun _ => some (AV.int .i64 (-1))))) := by kernel_rfl
theorem r26 (a0 : List AV) (a1 : Int) (h : q26 a0 a1 = true) : funA c26 0 26 [AV.sl [.int .i64] a0, AV.int .i64 a1] = some (AV.int .i64 (v26_0 a0 a1)) := (e26 a0 a1).trans ((brO (fun o : Option (Int ⊕ Unit) => some (AV.int .i64 (ro o 0 (sumE (fun p10 => p10) (fun _ => (-1)))))) (brS (fun o : Int ⊕ Unit => some (AV.int .i64 ((sumE (fun p10 => p10) (fun _ => (-1))) o))) (fun p10 => (fun _ => rfl)) (fun _ => (fun _ => rfl)))) h)
def m26 : TModel
  | [.sl g0 a0, .int .i64 a1] => bif ctsEq g0 ([.int .i64]) then some (q26 a0 a1, AV.int .i64 (v26_0 a0 a1)) else none
  | _ => none
theorem k26 : Known Try.prog 26 := ⟨Try.f26, Try.func26, by kernel_rfl, by kernel_rfl⟩
theorem meets26 : Meets Try.prog 26 m26 := by
  refine meet (f := Try.f26) (l := [(0, sub [1, 0, 1, 0, 0] (body Try.f26))]) (hs := [(26, 0, [0, 1, 5]), (26, 999, [4]), (26, 1000, [1]), (26, 1001, [0, 1, 5])]) (ts := []) (ws := []) (is := []) (ls := [(26, 0, l26_0)]) (lvl := 0) mixed k26 Try.func26 (by kernel_rfl) (loops_cons ok26_0 noLoop) allT_nil allM_nil noI fun w xs us r hl hv h => ?_
  unfold m26 at h
  split at h
  · rename_i g0 a0 a1
    obtain ⟨hg, h⟩ := bif_pair h
    have q0 := hg
    obtain rfl := ctsEq_eq _ _ q0
    obtain ⟨h1, rfl⟩ := pair_inj h
    exact r26 a0 a1 h1
  · cases h

/-! ### 4 loop.example/g01984/laws.FnExactCompletedCracks -/
noncomputable def c4 : Cfg := cfg Try.prog [(4, 999, [2])] [(18, m18), (19, m19), (20, m20), (21, m21), (22, m22), (23, m23), (26, m26)] [(24, m24), (25, m25)] [] []
def q4 (a0 : List AV) : Bool := (bif decide ((v18_0 a0 1048576) < 0) then true else (q20 a0 && (q19 (v20_0 a0) && (q20 a0 && (q21 (v20_0 a0) && (q22 (v21_0 (v20_0 a0)) (v19_0 (v20_0 a0)) && (bif !(v22_0 (v21_0 (v20_0 a0)) (v19_0 (v20_0 a0))) then true else (q20 a0 && (q23 (v20_0 a0) (v20_0 a0) && (bif !(v23_0 (v20_0 a0) (v20_0 a0)) then true else (q24 1 (v20_0 a0) && (bif decide ((v24_0 1 (v20_0 a0)) < 0) then true else (q22 (v21_0 (v20_0 a0)) (v19_0 (v20_0 a0)) && (bif !(v22_0 (v21_0 (v20_0 a0)) (v19_0 (v20_0 a0))) then true else (q25 1 (v21_0 (v20_0 a0)) && (q26 (v25_1 1 (v21_0 (v20_0 a0))) 1 && (bif decide ((v26_0 (v25_1 1 (v21_0 (v20_0 a0))) 1) < 0) then true else (bif !decide ((v26_0 (v25_1 1 (v21_0 (v20_0 a0))) 1) = (v25_0 1 (v21_0 (v20_0 a0)))) then true else (q20 a0 && (q21 (v20_0 a0) && (q22 (v21_0 (v20_0 a0)) (v19_0 (v20_0 a0)) && (bif !(v22_0 (v21_0 (v20_0 a0)) (v19_0 (v20_0 a0))) then true else q26 (v25_1 1 (v21_0 (v20_0 a0))) 1))))))))))))))))))))))
def v4_0 (a0 : List AV) : Bool := (bif decide ((v18_0 a0 1048576) < 0) then true else (bif !(v22_0 (v21_0 (v20_0 a0)) (v19_0 (v20_0 a0))) then false else (bif !(v23_0 (v20_0 a0) (v20_0 a0)) then false else (bif decide ((v24_0 1 (v20_0 a0)) < 0) then false else (bif !(v22_0 (v21_0 (v20_0 a0)) (v19_0 (v20_0 a0))) then false else (bif decide ((v26_0 (v25_1 1 (v21_0 (v20_0 a0))) 1) < 0) then false else (bif !decide ((v26_0 (v25_1 1 (v21_0 (v20_0 a0))) 1) = (v25_0 1 (v21_0 (v20_0 a0)))) then false else (bif !(v22_0 (v21_0 (v20_0 a0)) (v19_0 (v20_0 a0))) then false else (bif decide ((v26_0 (v25_1 1 (v21_0 (v20_0 a0))) 1) < 0) then false else (bif !decide ((v26_0 (v25_1 1 (v21_0 (v20_0 a0))) 1) = (v25_0 1 (v21_0 (v20_0 a0)))) then false else true))))))))))
theorem e4 (a0 : List AV) : funA c4 0 4 [AV.sl [.int .i64, .int .i64, .int .i64, .int .i64] a0] = (bif decide ((v18_0 a0 1048576) < 0) then some (AV.bool true)
  else (bif q20 a0 then (bif q19 (v20_0 a0) then (bif q20 a0 then (bif q21 (v20_0 a0) then (bif q22 (v21_0 (v20_0 a0)) (v19_0 (v20_0 a0)) then (bif !(v22_0 (v21_0 (v20_0 a0)) (v19_0 (v20_0 a0))) then some (AV.bool false)
        else (bif q20 a0 then (bif q23 (v20_0 a0) (v20_0 a0) then (bif !(v23_0 (v20_0 a0) (v20_0 a0)) then some (AV.bool false)
           else (bif q24 1 (v20_0 a0) then (bif decide ((v24_0 1 (v20_0 a0)) < 0) then some (AV.bool false)
             else (bif q22 (v21_0 (v20_0 a0)) (v19_0 (v20_0 a0)) then (bif !(v22_0 (v21_0 (v20_0 a0)) (v19_0 (v20_0 a0))) then some (AV.bool false)
               else (bif q25 1 (v21_0 (v20_0 a0)) then (bif q26 (v25_1 1 (v21_0 (v20_0 a0))) 1 then (bif decide ((v26_0 (v25_1 1 (v21_0 (v20_0 a0))) 1) < 0) then some (AV.bool false)
                  else (bif !decide ((v26_0 (v25_1 1 (v21_0 (v20_0 a0))) 1) = (v25_0 1 (v21_0 (v20_0 a0)))) then some (AV.bool false)
                   else (bif q20 a0 then (bif q21 (v20_0 a0) then (bif q22 (v21_0 (v20_0 a0)) (v19_0 (v20_0 a0)) then (bif !(v22_0 (v21_0 (v20_0 a0)) (v19_0 (v20_0 a0))) then some (AV.bool false)
                       else (bif q26 (v25_1 1 (v21_0 (v20_0 a0))) 1 then (bif decide ((v26_0 (v25_1 1 (v21_0 (v20_0 a0))) 1) < 0) then some (AV.bool false)
                         else (bif !decide ((v26_0 (v25_1 1 (v21_0 (v20_0 a0))) 1) = (v25_0 1 (v21_0 (v20_0 a0)))) then some (AV.bool false)
                          else some (AV.bool true)))
                        else none))
                      else none)
                     else none)
                    else none)))
                 else none)
                else none))
              else none))
            else none))
          else none)
         else none))
       else none)
      else none)
     else none)
    else none)
   else none)) := by kernel_rfl
theorem r4 (a0 : List AV) (h : q4 a0 = true) : funA c4 0 4 [AV.sl [.int .i64, .int .i64, .int .i64, .int .i64] a0] = some (AV.bool (v4_0 a0)) := (e4 a0).trans ((br (fun b => some (AV.bool (bif b then true else (bif !(v22_0 (v21_0 (v20_0 a0)) (v19_0 (v20_0 a0))) then false else (bif !(v23_0 (v20_0 a0) (v20_0 a0)) then false else (bif decide ((v24_0 1 (v20_0 a0)) < 0) then false else (bif !(v22_0 (v21_0 (v20_0 a0)) (v19_0 (v20_0 a0))) then false else (bif decide ((v26_0 (v25_1 1 (v21_0 (v20_0 a0))) 1) < 0) then false else (bif !decide ((v26_0 (v25_1 1 (v21_0 (v20_0 a0))) 1) = (v25_0 1 (v21_0 (v20_0 a0)))) then false else (bif !(v22_0 (v21_0 (v20_0 a0)) (v19_0 (v20_0 a0))) then false else (bif decide ((v26_0 (v25_1 1 (v21_0 (v20_0 a0))) 1) < 0) then false else (bif !decide ((v26_0 (v25_1 1 (v21_0 (v20_0 a0))) 1) = (v25_0 1 (v21_0 (v20_0 a0)))) then false else true)))))))))))) (fun _ => rfl) (brL (brL (brL (brL (brL (br (fun b => some (AV.bool (bif b then false else (bif !(v23_0 (v20_0 a0) (v20_0 a0)) then false else (bif decide ((v24_0 1 (v20_0 a0)) < 0) then false else (bif !(v22_0 (v21_0 (v20_0 a0)) (v19_0 (v20_0 a0))) then false else (bif decide ((v26_0 (v25_1 1 (v21_0 (v20_0 a0))) 1) < 0) then false else (bif !decide ((v26_0 (v25_1 1 (v21_0 (v20_0 a0))) 1) = (v25_0 1 (v21_0 (v20_0 a0)))) then false else (bif !(v22_0 (v21_0 (v20_0 a0)) (v19_0 (v20_0 a0))) then false else (bif decide ((v26_0 (v25_1 1 (v21_0 (v20_0 a0))) 1) < 0) then false else (bif !decide ((v26_0 (v25_1 1 (v21_0 (v20_0 a0))) 1) = (v25_0 1 (v21_0 (v20_0 a0)))) then false else true))))))))))) (fun _ => rfl) (brL (brL (br (fun b => some (AV.bool (bif b then false else (bif decide ((v24_0 1 (v20_0 a0)) < 0) then false else (bif !(v22_0 (v21_0 (v20_0 a0)) (v19_0 (v20_0 a0))) then false else (bif decide ((v26_0 (v25_1 1 (v21_0 (v20_0 a0))) 1) < 0) then false else (bif !decide ((v26_0 (v25_1 1 (v21_0 (v20_0 a0))) 1) = (v25_0 1 (v21_0 (v20_0 a0)))) then false else (bif !(v22_0 (v21_0 (v20_0 a0)) (v19_0 (v20_0 a0))) then false else (bif decide ((v26_0 (v25_1 1 (v21_0 (v20_0 a0))) 1) < 0) then false else (bif !decide ((v26_0 (v25_1 1 (v21_0 (v20_0 a0))) 1) = (v25_0 1 (v21_0 (v20_0 a0)))) then false else true)))))))))) (fun _ => rfl) (brL (br (fun b => some (AV.bool (bif b then false else (bif !(v22_0 (v21_0 (v20_0 a0)) (v19_0 (v20_0 a0))) then false else (bif decide ((v26_0 (v25_1 1 (v21_0 (v20_0 a0))) 1) < 0) then false else (bif !decide ((v26_0 (v25_1 1 (v21_0 (v20_0 a0))) 1) = (v25_0 1 (v21_0 (v20_0 a0)))) then false else (bif !(v22_0 (v21_0 (v20_0 a0)) (v19_0 (v20_0 a0))) then false else (bif decide ((v26_0 (v25_1 1 (v21_0 (v20_0 a0))) 1) < 0) then false else (bif !decide ((v26_0 (v25_1 1 (v21_0 (v20_0 a0))) 1) = (v25_0 1 (v21_0 (v20_0 a0)))) then false else true))))))))) (fun _ => rfl) (brL (br (fun b => some (AV.bool (bif b then false else (bif decide ((v26_0 (v25_1 1 (v21_0 (v20_0 a0))) 1) < 0) then false else (bif !decide ((v26_0 (v25_1 1 (v21_0 (v20_0 a0))) 1) = (v25_0 1 (v21_0 (v20_0 a0)))) then false else (bif !(v22_0 (v21_0 (v20_0 a0)) (v19_0 (v20_0 a0))) then false else (bif decide ((v26_0 (v25_1 1 (v21_0 (v20_0 a0))) 1) < 0) then false else (bif !decide ((v26_0 (v25_1 1 (v21_0 (v20_0 a0))) 1) = (v25_0 1 (v21_0 (v20_0 a0)))) then false else true)))))))) (fun _ => rfl) (brL (brL (br (fun b => some (AV.bool (bif b then false else (bif !decide ((v26_0 (v25_1 1 (v21_0 (v20_0 a0))) 1) = (v25_0 1 (v21_0 (v20_0 a0)))) then false else (bif !(v22_0 (v21_0 (v20_0 a0)) (v19_0 (v20_0 a0))) then false else (bif decide ((v26_0 (v25_1 1 (v21_0 (v20_0 a0))) 1) < 0) then false else (bif !decide ((v26_0 (v25_1 1 (v21_0 (v20_0 a0))) 1) = (v25_0 1 (v21_0 (v20_0 a0)))) then false else true))))))) (fun _ => rfl) (br (fun b => some (AV.bool (bif b then false else (bif !(v22_0 (v21_0 (v20_0 a0)) (v19_0 (v20_0 a0))) then false else (bif decide ((v26_0 (v25_1 1 (v21_0 (v20_0 a0))) 1) < 0) then false else (bif !decide ((v26_0 (v25_1 1 (v21_0 (v20_0 a0))) 1) = (v25_0 1 (v21_0 (v20_0 a0)))) then false else true)))))) (fun _ => rfl) (brL (brL (brL (br (fun b => some (AV.bool (bif b then false else (bif decide ((v26_0 (v25_1 1 (v21_0 (v20_0 a0))) 1) < 0) then false else (bif !decide ((v26_0 (v25_1 1 (v21_0 (v20_0 a0))) 1) = (v25_0 1 (v21_0 (v20_0 a0)))) then false else true))))) (fun _ => rfl) (brL1 (brT (fun b => some (AV.bool (bif b then false else (bif !decide ((v26_0 (v25_1 1 (v21_0 (v20_0 a0))) 1) = (v25_0 1 (v21_0 (v20_0 a0)))) then false else true)))) (fun _ => rfl) (brT (fun b => some (AV.bool (bif b then false else true))) (fun _ => rfl) (fun _ => rfl)))))))))))))))))))))))))) h)
def m4 : TModel
  | [.sl g0 a0] => bif ctsEq g0 ([.int .i64, .int .i64, .int .i64, .int .i64]) then some (q4 a0, AV.bool (v4_0 a0)) else none
  | _ => none
theorem k4 : Known Try.prog 4 := ⟨Try.f4, Try.func4, by kernel_rfl, by kernel_rfl⟩
theorem meets4 : Meets Try.prog 4 m4 := by
  refine meet (f := Try.f4) (l := []) (hs := [(4, 999, [2])]) (ts := [(18, m18), (19, m19), (20, m20), (21, m21), (22, m22), (23, m23), (26, m26)]) (ws := [(24, m24), (25, m25)]) (is := []) (ls := []) (lvl := 0) mixed k4 Try.func4 (by kernel_rfl) noLoop (allT_cons meets18 (allT_cons meets19 (allT_cons meets20 (allT_cons meets21 (allT_cons meets22 (allT_cons meets23 (allT_cons meets26 allT_nil))))))) (allM_cons meets24 (allM_cons meets25 allM_nil)) noI fun w xs us r hl hv h => ?_
  unfold m4 at h
  split at h
  · rename_i g0 a0
    obtain ⟨hg, h⟩ := bif_pair h
    have q0 := hg
    obtain rfl := ctsEq_eq _ _ q0
    obtain ⟨h1, rfl⟩ := pair_inj h
    exact r4 a0 h1
  · cases h
end Go.Proofs.Ytbomegcdjhljeaa
