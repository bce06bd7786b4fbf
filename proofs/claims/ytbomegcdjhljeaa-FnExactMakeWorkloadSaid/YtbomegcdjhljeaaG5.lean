/- The walk of what this claim reaches: printed by a program, each equation checked by the kernel. -/
import Derived.Test.YtbomegcdjhljeaaVEy
import Derived.Test.YtbomegcdjhljeaaProg
import Derived.KernelRfl
namespace Go.Proofs.Ytbomegcdjhljeaa
open Go Go.Proofs.VE
set_option maxRecDepth 100000
theorem mixed : Try.prog.follows .mixedOrders = true := by kernel_rfl
/-! ### 66 loop.example/g01984/spec.l1In -/
noncomputable def c66 : Cfg := cfg Try.prog [(66, 999, [6])] [] [] [] []
def q66 (a0 : Int) (a1 : Int) (a2 : Int) : Bool := true
def v66_0 (a0 : Int) (a1 : Int) (a2 : Int) : Bool := (bif decide (a0 ≥ a1) then decide (a0 ≤ a2) else false)
theorem e66 (a0 : Int) (a1 : Int) (a2 : Int) : funA c66 0 66 [AV.int .i64 a0, AV.int .i64 a1, AV.int .i64 a2] = (bif decide (a0 ≥ a1) then some (AV.bool (decide (a0 ≤ a2)))
  else some (AV.bool false)) := by kernel_rfl
theorem r66 (a0 : Int) (a1 : Int) (a2 : Int) : funA c66 0 66 [AV.int .i64 a0, AV.int .i64 a1, AV.int .i64 a2] = some (AV.bool (v66_0 a0 a1 a2)) := (e66 a0 a1 a2).trans (of_tt (brT (fun b => some (AV.bool (bif b then decide (a0 ≤ a2) else false))) (fun _ => rfl) (fun _ => rfl)))
def m66 : TModel
  | [.int .i64 a0, .int .i64 a1, .int .i64 a2] => some (true, AV.bool (v66_0 a0 a1 a2))
  | _ => none
theorem k66 : Known Try.prog 66 := ⟨Try.f66, Try.func66, by kernel_rfl, by kernel_rfl⟩
theorem meets66 : Meets Try.prog 66 m66 := by
  refine meet (f := Try.f66) (l := []) (hs := [(66, 999, [6])]) (ts := []) (ws := []) (is := []) (ls := []) (lvl := 0) mixed k66 Try.func66 (by kernel_rfl) noLoop allT_nil allM_nil noI fun w xs us r hl hv h => ?_
  unfold m66 at h
  split at h
  · rename_i a0 a1 a2
    obtain ⟨h1, rfl⟩ := pair_inj h
    exact r66 a0 a1 a2
  · cases h

/-! ### 67 loop.example/g01984/spec.NextSeed -/
noncomputable def c67 : Cfg := cfg Try.prog [(67, 999, [2])] [] [] [] []
def q67 (a0 : Int) : Bool := (!decide (10007 = 0) && (!decide (10007 = 0) && !decide (10007 = 0)))
def v67_0 (a0 : Int) : Int := Int.tmod (IntKind.i64.wrap (IntKind.i64.wrap (Int.tmod (IntKind.i64.wrap (Int.tmod a0 10007 + 10007)) 10007 * 1103) + 2345)) 10007
theorem e67 (a0 : Int) : funA c67 0 67 [AV.int .i64 a0] = (bif !decide (10007 = 0) then (bif !decide (10007 = 0) then (bif !decide (10007 = 0) then some (AV.int .i64 (Int.tmod (IntKind.i64.wrap (IntKind.i64.wrap (Int.tmod (IntKind.i64.wrap (Int.tmod a0 10007 + 10007)) 10007 * 1103) + 2345)) 10007))
    else none)
   else none)
  else none) := by kernel_rfl
theorem r67 (a0 : Int) (h : q67 a0 = true) : funA c67 0 67 [AV.int .i64 a0] = some (AV.int .i64 (v67_0 a0)) := (e67 a0).trans ((brL (brL (brL1 (fun _ => rfl)))) h)
def m67 : TModel
  | [.int .i64 a0] => some (q67 a0, AV.int .i64 (v67_0 a0))
  | _ => none
theorem k67 : Known Try.prog 67 := ⟨Try.f67, Try.func67, by kernel_rfl, by kernel_rfl⟩
theorem meets67 : Meets Try.prog 67 m67 := by
  refine meet (f := Try.f67) (l := []) (hs := [(67, 999, [2])]) (ts := []) (ws := []) (is := []) (ls := []) (lvl := 0) mixed k67 Try.func67 (by kernel_rfl) noLoop allT_nil allM_nil noI fun w xs us r hl hv h => ?_
  unfold m67 at h
  split at h
  · rename_i a0
    obtain ⟨h1, rfl⟩ := pair_inj h
    exact r67 a0 h1
  · cases h

/-! ### 27 loop.example/g01984/spec.MakeWorkload -/
def F27_0 (t0 : Int) (t1 : Int) (t2 : Int) (t3 : Int) (t12 : Int) (t13 : Int) (t14 : Int) (t15 : Int) (h0 : List AV) : Out ((Int × Int × Int × Int × (List AV))) (((List AV))) := (bif decide (t15 < t3) then (bif decide (t0 = 0) then (bif q67 t12 then (bif !decide (IntKind.i64.wrap (IntKind.i64.wrap (t2 - t1) + 1) = 0) then (bif q67 (v67_0 t12) then (bif !decide (IntKind.i64.wrap (IntKind.i64.wrap (t2 - t1) + 1) = 0) then (bif (decide ((h0.length + ([AV.agg [AV.int .i64 (if IntKind.i64.wrap (t1 + Int.tmod (v67_0 (v67_0 t12)) (IntKind.i64.wrap (IntKind.i64.wrap (t2 - t1) + 1))) < IntKind.i64.wrap (t1 + Int.tmod (v67_0 t12) (IntKind.i64.wrap (IntKind.i64.wrap (t2 - t1) + 1))) then IntKind.i64.wrap (t1 + Int.tmod (v67_0 (v67_0 t12)) (IntKind.i64.wrap (IntKind.i64.wrap (t2 - t1) + 1))) else IntKind.i64.wrap (t1 + Int.tmod (v67_0 t12) (IntKind.i64.wrap (IntKind.i64.wrap (t2 - t1) + 1)))), AV.int .i64 (if IntKind.i64.wrap (t1 + Int.tmod (v67_0 (v67_0 t12)) (IntKind.i64.wrap (IntKind.i64.wrap (t2 - t1) + 1))) > IntKind.i64.wrap (t1 + Int.tmod (v67_0 t12) (IntKind.i64.wrap (IntKind.i64.wrap (t2 - t1) + 1))) then IntKind.i64.wrap (t1 + Int.tmod (v67_0 (v67_0 t12)) (IntKind.i64.wrap (IntKind.i64.wrap (t2 - t1) + 1))) else IntKind.i64.wrap (t1 + Int.tmod (v67_0 t12) (IntKind.i64.wrap (IntKind.i64.wrap (t2 - t1) + 1))))]]).length) * 16 ≤ 140737488355328) && decide ((h0.length + ([AV.agg [AV.int .i64 (if IntKind.i64.wrap (t1 + Int.tmod (v67_0 (v67_0 t12)) (IntKind.i64.wrap (IntKind.i64.wrap (t2 - t1) + 1))) < IntKind.i64.wrap (t1 + Int.tmod (v67_0 t12) (IntKind.i64.wrap (IntKind.i64.wrap (t2 - t1) + 1))) then IntKind.i64.wrap (t1 + Int.tmod (v67_0 (v67_0 t12)) (IntKind.i64.wrap (IntKind.i64.wrap (t2 - t1) + 1))) else IntKind.i64.wrap (t1 + Int.tmod (v67_0 t12) (IntKind.i64.wrap (IntKind.i64.wrap (t2 - t1) + 1)))), AV.int .i64 (if IntKind.i64.wrap (t1 + Int.tmod (v67_0 (v67_0 t12)) (IntKind.i64.wrap (IntKind.i64.wrap (t2 - t1) + 1))) > IntKind.i64.wrap (t1 + Int.tmod (v67_0 t12) (IntKind.i64.wrap (IntKind.i64.wrap (t2 - t1) + 1))) then IntKind.i64.wrap (t1 + Int.tmod (v67_0 (v67_0 t12)) (IntKind.i64.wrap (IntKind.i64.wrap (t2 - t1) + 1))) else IntKind.i64.wrap (t1 + Int.tmod (v67_0 t12) (IntKind.i64.wrap (IntKind.i64.wrap (t2 - t1) + 1))))]]).length) ≤ 140737488355328)) then .next ((v67_0 (v67_0 t12)), t13, t14, IntKind.i64.wrap (t15 + 1), h0 ++ ([AV.agg [AV.int .i64 (if IntKind.i64.wrap (t1 + Int.tmod (v67_0 (v67_0 t12)) (IntKind.i64.wrap (IntKind.i64.wrap (t2 - t1) + 1))) < IntKind.i64.wrap (t1 + Int.tmod (v67_0 t12) (IntKind.i64.wrap (IntKind.i64.wrap (t2 - t1) + 1))) then IntKind.i64.wrap (t1 + Int.tmod (v67_0 (v67_0 t12)) (IntKind.i64.wrap (IntKind.i64.wrap (t2 - t1) + 1))) else IntKind.i64.wrap (t1 + Int.tmod (v67_0 t12) (IntKind.i64.wrap (IntKind.i64.wrap (t2 - t1) + 1)))), AV.int .i64 (if IntKind.i64.wrap (t1 + Int.tmod (v67_0 (v67_0 t12)) (IntKind.i64.wrap (IntKind.i64.wrap (t2 - t1) + 1))) > IntKind.i64.wrap (t1 + Int.tmod (v67_0 t12) (IntKind.i64.wrap (IntKind.i64.wrap (t2 - t1) + 1))) then IntKind.i64.wrap (t1 + Int.tmod (v67_0 (v67_0 t12)) (IntKind.i64.wrap (IntKind.i64.wrap (t2 - t1) + 1))) else IntKind.i64.wrap (t1 + Int.tmod (v67_0 t12) (IntKind.i64.wrap (IntKind.i64.wrap (t2 - t1) + 1))))]]))
        else .fail)
       else .fail)
      else .fail)
     else .fail)
    else .fail)
   else (bif decide (t0 = 1) then (bif !decide (t3 = 0) then (bif !decide (t3 = 0) then (bif (decide ((h0.length + ([AV.agg [AV.int .i64 (IntKind.i64.wrap (t1 + IntKind.i64.wrap (Int.tdiv (IntKind.i64.wrap (IntKind.i64.wrap (t2 - t1) * t15)) t3))), AV.int .i64 (IntKind.i64.wrap (t1 + IntKind.i64.wrap (Int.tdiv (IntKind.i64.wrap (IntKind.i64.wrap (t2 - t1) * IntKind.i64.wrap (t15 + 1))) t3)))]]).length) * 16 ≤ 140737488355328) && decide ((h0.length + ([AV.agg [AV.int .i64 (IntKind.i64.wrap (t1 + IntKind.i64.wrap (Int.tdiv (IntKind.i64.wrap (IntKind.i64.wrap (t2 - t1) * t15)) t3))), AV.int .i64 (IntKind.i64.wrap (t1 + IntKind.i64.wrap (Int.tdiv (IntKind.i64.wrap (IntKind.i64.wrap (t2 - t1) * IntKind.i64.wrap (t15 + 1))) t3)))]]).length) ≤ 140737488355328)) then .next (t12, t13, t14, IntKind.i64.wrap (t15 + 1), h0 ++ ([AV.agg [AV.int .i64 (IntKind.i64.wrap (t1 + IntKind.i64.wrap (Int.tdiv (IntKind.i64.wrap (IntKind.i64.wrap (t2 - t1) * t15)) t3))), AV.int .i64 (IntKind.i64.wrap (t1 + IntKind.i64.wrap (Int.tdiv (IntKind.i64.wrap (IntKind.i64.wrap (t2 - t1) * IntKind.i64.wrap (t15 + 1))) t3)))]]))
       else .fail)
      else .fail)
     else .fail)
    else (bif (decide ((h0.length + ([AV.agg [AV.int .i64 t13, AV.int .i64 t14]]).length) * 16 ≤ 140737488355328) && decide ((h0.length + ([AV.agg [AV.int .i64 t13, AV.int .i64 t14]]).length) ≤ 140737488355328)) then (bif !decide (4 = 0) then .next (t12, IntKind.i64.wrap (t13 + IntKind.i64.wrap (Int.tdiv (IntKind.i64.wrap (t14 - t13)) 4)), IntKind.i64.wrap (t14 - IntKind.i64.wrap (Int.tdiv (IntKind.i64.wrap (t14 - t13)) 4)), IntKind.i64.wrap (t15 + 1), h0 ++ ([AV.agg [AV.int .i64 t13, AV.int .i64 t14]]))
      else .fail)
     else .fail)))
  else .stop h0)
def R27_0 (t0 : Int) (t1 : Int) (t2 : Int) (t3 : Int) : ((Int × Int × Int × Int × (List AV))) → Out ((Int × Int × Int × Int × (List AV))) (((List AV))) := fun s : Int × Int × Int × Int × (List AV) => F27_0 t0 t1 t2 t3 s.1 s.2.1 s.2.2.1 s.2.2.2.1 s.2.2.2.2
def l27_0 : LModel := fun _ _ st k => match st with
  | ⟨[(0, .int .i64 t0), (1, .int .i64 t1), (2, .int .i64 t2), (3, .int .i64 t3), (11, .own g0), (12, .int .i64 t12), (13, .int .i64 t13), (14, .int .i64 t14), (15, .int .i64 t15)], [(g1, ⟨false, g2, h0⟩)]⟩ => bif nmEq g0 ([0, 11]) && nmEq g1 ([0, 11]) && ctsEq g2 ([.int .i64, .int .i64]) then ro (runW (R27_0 t0 t1 t2 t3) ((t3 - t15).toNat + 1) (t12, t13, t14, t15, h0)) none (fun p : (List AV) => k (.exit 0) ⟨[(11, AV.own [0, 11])], [([0, 11], ⟨false, [.int .i64, .int .i64], p⟩)]⟩) else none
  | _ => none
noncomputable def c27 : Cfg := cfg Try.prog [(27, 0, [0, 1, 2, 3, 11, 12, 13, 14, 15]), (27, 999, [10]), (27, 1000, [11]), (27, 1001, [0, 1, 2, 3, 11, 12, 13, 14, 15]), (27, 1002, [0, 1, 2, 3, 11, 12, 13, 14, 15])] [(66, m66), (67, m67)] [] [] [(27, 0, l27_0)]
theorem s27_0 (ce : CallE) (t0 : Int) (t1 : Int) (t2 : Int) (t3 : Int) (t12 : Int) (t13 : Int) (t14 : Int) (t15 : Int) (h0 : List AV) (next : St → Option AV) (k : Kont) : stepA (codeA c27 ce [] 27 0 (sub [1, 1, 1, 1, 1, 1, 0, 1, 0, 0] (body Try.f27))) (normA [] [0, 1, 2, 3, 11, 12, 13, 14, 15]) next ⟨[(0, AV.int .i64 t0), (1, AV.int .i64 t1), (2, AV.int .i64 t2), (3, AV.int .i64 t3), (11, AV.own [0, 11]), (12, AV.int .i64 t12), (13, AV.int .i64 t13), (14, AV.int .i64 t14), (15, AV.int .i64 t15)], [([0, 11], ⟨false, [.int .i64, .int .i64], h0⟩)]⟩ k = (bif decide (t15 < t3) then (bif decide (t0 = 0) then (bif q67 t12 then (bif !decide (IntKind.i64.wrap (IntKind.i64.wrap (t2 - t1) + 1) = 0) then (bif q67 (v67_0 t12) then (bif !decide (IntKind.i64.wrap (IntKind.i64.wrap (t2 - t1) + 1) = 0) then (bif (decide ((h0.length + ([AV.agg [AV.int .i64 (if IntKind.i64.wrap (t1 + Int.tmod (v67_0 (v67_0 t12)) (IntKind.i64.wrap (IntKind.i64.wrap (t2 - t1) + 1))) < IntKind.i64.wrap (t1 + Int.tmod (v67_0 t12) (IntKind.i64.wrap (IntKind.i64.wrap (t2 - t1) + 1))) then IntKind.i64.wrap (t1 + Int.tmod (v67_0 (v67_0 t12)) (IntKind.i64.wrap (IntKind.i64.wrap (t2 - t1) + 1))) else IntKind.i64.wrap (t1 + Int.tmod (v67_0 t12) (IntKind.i64.wrap (IntKind.i64.wrap (t2 - t1) + 1)))), AV.int .i64 (if IntKind.i64.wrap (t1 + Int.tmod (v67_0 (v67_0 t12)) (IntKind.i64.wrap (IntKind.i64.wrap (t2 - t1) + 1))) > IntKind.i64.wrap (t1 + Int.tmod (v67_0 t12) (IntKind.i64.wrap (IntKind.i64.wrap (t2 - t1) + 1))) then IntKind.i64.wrap (t1 + Int.tmod (v67_0 (v67_0 t12)) (IntKind.i64.wrap (IntKind.i64.wrap (t2 - t1) + 1))) else IntKind.i64.wrap (t1 + Int.tmod (v67_0 t12) (IntKind.i64.wrap (IntKind.i64.wrap (t2 - t1) + 1))))]]).length) * 16 ≤ 140737488355328) && decide ((h0.length + ([AV.agg [AV.int .i64 (if IntKind.i64.wrap (t1 + Int.tmod (v67_0 (v67_0 t12)) (IntKind.i64.wrap (IntKind.i64.wrap (t2 - t1) + 1))) < IntKind.i64.wrap (t1 + Int.tmod (v67_0 t12) (IntKind.i64.wrap (IntKind.i64.wrap (t2 - t1) + 1))) then IntKind.i64.wrap (t1 + Int.tmod (v67_0 (v67_0 t12)) (IntKind.i64.wrap (IntKind.i64.wrap (t2 - t1) + 1))) else IntKind.i64.wrap (t1 + Int.tmod (v67_0 t12) (IntKind.i64.wrap (IntKind.i64.wrap (t2 - t1) + 1)))), AV.int .i64 (if IntKind.i64.wrap (t1 + Int.tmod (v67_0 (v67_0 t12)) (IntKind.i64.wrap (IntKind.i64.wrap (t2 - t1) + 1))) > IntKind.i64.wrap (t1 + Int.tmod (v67_0 t12) (IntKind.i64.wrap (IntKind.i64.wrap (t2 - t1) + 1))) then IntKind.i64.wrap (t1 + Int.tmod (v67_0 (v67_0 t12)) (IntKind.i64.wrap (IntKind.i64.wrap (t2 - t1) + 1))) else IntKind.i64.wrap (t1 + Int.tmod (v67_0 t12) (IntKind.i64.wrap (IntKind.i64.wrap (t2 - t1) + 1))))]]).length) ≤ 140737488355328)) then next ⟨[(0, AV.int .i64 t0), (1, AV.int .i64 t1), (2, AV.int .i64 t2), (3, AV.int .i64 t3), (11, AV.own [0, 11]), (12, AV.int .i64 (v67_0 (v67_0 t12))), (13, AV.int .i64 t13), (14, AV.int .i64 t14), (15, AV.int .i64 (IntKind.i64.wrap (t15 + 1)))], [([0, 11], ⟨false, [.int .i64, .int .i64], h0 ++ ([AV.agg [AV.int .i64 (if IntKind.i64.wrap (t1 + Int.tmod (v67_0 (v67_0 t12)) (IntKind.i64.wrap (IntKind.i64.wrap (t2 - t1) + 1))) < IntKind.i64.wrap (t1 + Int.tmod (v67_0 t12) (IntKind.i64.wrap (IntKind.i64.wrap (t2 - t1) + 1))) then IntKind.i64.wrap (t1 + Int.tmod (v67_0 (v67_0 t12)) (IntKind.i64.wrap (IntKind.i64.wrap (t2 - t1) + 1))) else IntKind.i64.wrap (t1 + Int.tmod (v67_0 t12) (IntKind.i64.wrap (IntKind.i64.wrap (t2 - t1) + 1)))), AV.int .i64 (if IntKind.i64.wrap (t1 + Int.tmod (v67_0 (v67_0 t12)) (IntKind.i64.wrap (IntKind.i64.wrap (t2 - t1) + 1))) > IntKind.i64.wrap (t1 + Int.tmod (v67_0 t12) (IntKind.i64.wrap (IntKind.i64.wrap (t2 - t1) + 1))) then IntKind.i64.wrap (t1 + Int.tmod (v67_0 (v67_0 t12)) (IntKind.i64.wrap (IntKind.i64.wrap (t2 - t1) + 1))) else IntKind.i64.wrap (t1 + Int.tmod (v67_0 t12) (IntKind.i64.wrap (IntKind.i64.wrap (t2 - t1) + 1))))]])⟩)]⟩
        else none)
       else none)
      else none)
     else none)
    else none)
   else (bif decide (t0 = 1) then (bif !decide (t3 = 0) then (bif !decide (t3 = 0) then (bif (decide ((h0.length + ([AV.agg [AV.int .i64 (IntKind.i64.wrap (t1 + IntKind.i64.wrap (Int.tdiv (IntKind.i64.wrap (IntKind.i64.wrap (t2 - t1) * t15)) t3))), AV.int .i64 (IntKind.i64.wrap (t1 + IntKind.i64.wrap (Int.tdiv (IntKind.i64.wrap (IntKind.i64.wrap (t2 - t1) * IntKind.i64.wrap (t15 + 1))) t3)))]]).length) * 16 ≤ 140737488355328) && decide ((h0.length + ([AV.agg [AV.int .i64 (IntKind.i64.wrap (t1 + IntKind.i64.wrap (Int.tdiv (IntKind.i64.wrap (IntKind.i64.wrap (t2 - t1) * t15)) t3))), AV.int .i64 (IntKind.i64.wrap (t1 + IntKind.i64.wrap (Int.tdiv (IntKind.i64.wrap (IntKind.i64.wrap (t2 - t1) * IntKind.i64.wrap (t15 + 1))) t3)))]]).length) ≤ 140737488355328)) then next ⟨[(0, AV.int .i64 t0), (1, AV.int .i64 t1), (2, AV.int .i64 t2), (3, AV.int .i64 t3), (11, AV.own [0, 11]), (12, AV.int .i64 t12), (13, AV.int .i64 t13), (14, AV.int .i64 t14), (15, AV.int .i64 (IntKind.i64.wrap (t15 + 1)))], [([0, 11], ⟨false, [.int .i64, .int .i64], h0 ++ ([AV.agg [AV.int .i64 (IntKind.i64.wrap (t1 + IntKind.i64.wrap (Int.tdiv (IntKind.i64.wrap (IntKind.i64.wrap (t2 - t1) * t15)) t3))), AV.int .i64 (IntKind.i64.wrap (t1 + IntKind.i64.wrap (Int.tdiv (IntKind.i64.wrap (IntKind.i64.wrap (t2 - t1) * IntKind.i64.wrap (t15 + 1))) t3)))]])⟩)]⟩
       else none)
      else none)
     else none)
    else (bif (decide ((h0.length + ([AV.agg [AV.int .i64 t13, AV.int .i64 t14]]).length) * 16 ≤ 140737488355328) && decide ((h0.length + ([AV.agg [AV.int .i64 t13, AV.int .i64 t14]]).length) ≤ 140737488355328)) then (bif !decide (4 = 0) then next ⟨[(0, AV.int .i64 t0), (1, AV.int .i64 t1), (2, AV.int .i64 t2), (3, AV.int .i64 t3), (11, AV.own [0, 11]), (12, AV.int .i64 t12), (13, AV.int .i64 (IntKind.i64.wrap (t13 + IntKind.i64.wrap (Int.tdiv (IntKind.i64.wrap (t14 - t13)) 4)))), (14, AV.int .i64 (IntKind.i64.wrap (t14 - IntKind.i64.wrap (Int.tdiv (IntKind.i64.wrap (t14 - t13)) 4)))), (15, AV.int .i64 (IntKind.i64.wrap (t15 + 1)))], [([0, 11], ⟨false, [.int .i64, .int .i64], h0 ++ ([AV.agg [AV.int .i64 t13, AV.int .i64 t14]])⟩)]⟩
      else none)
     else none)))
  else k (.exit 0) ⟨[(11, AV.own [0, 11])], [([0, 11], ⟨false, [.int .i64, .int .i64], h0⟩)]⟩) := by kernel_rfl
theorem st27_0 (t0 : Int) (t1 : Int) (t2 : Int) (t3 : Int) (ce : CallE) (k : Kont) (s : (Int × Int × Int × Int × (List AV))) (next : St → Option AV) : stepA (codeA c27 ce [] 27 0 (sub [1, 1, 1, 1, 1, 1, 0, 1, 0, 0] (body Try.f27))) (normA [] [0, 1, 2, 3, 11, 12, 13, 14, 15]) next ((fun s : Int × Int × Int × Int × (List AV) => ⟨[(0, AV.int .i64 t0), (1, AV.int .i64 t1), (2, AV.int .i64 t2), (3, AV.int .i64 t3), (11, AV.own [0, 11]), (12, AV.int .i64 s.1), (13, AV.int .i64 s.2.1), (14, AV.int .i64 s.2.2.1), (15, AV.int .i64 s.2.2.2.1)], [([0, 11], ⟨false, [.int .i64, .int .i64], s.2.2.2.2⟩)]⟩) s) k = (R27_0 t0 t1 t2 t3 s).el none (fun s => next ((fun s : Int × Int × Int × Int × (List AV) => ⟨[(0, AV.int .i64 t0), (1, AV.int .i64 t1), (2, AV.int .i64 t2), (3, AV.int .i64 t3), (11, AV.own [0, 11]), (12, AV.int .i64 s.1), (13, AV.int .i64 s.2.1), (14, AV.int .i64 s.2.2.1), (15, AV.int .i64 s.2.2.2.1)], [([0, 11], ⟨false, [.int .i64, .int .i64], s.2.2.2.2⟩)]⟩) s)) (fun p : (List AV) => k (.exit 0) ⟨[(11, AV.own [0, 11])], [([0, 11], ⟨false, [.int .i64, .int .i64], p⟩)]⟩) := (s27_0 ce t0 t1 t2 t3 s.1 s.2.1 s.2.2.1 s.2.2.2.1 s.2.2.2.2 next k).trans (by unfold R27_0; unfold F27_0; simp only [el_cond, el_ro, el_sum, el_fail, el_next, el_stop] <;> rfl)
theorem ok27_0 : LoopOK c27 [] 27 0 (sub [1, 1, 1, 1, 1, 1, 0, 1, 0, 0] (body Try.f27)) := by
  intro m hm ce st k r h
  obtain rfl : l27_0 = m := Option.some.inj hm
  unfold l27_0 at h
  split at h
  · rename_i t0 t1 t2 t3 g0 t12 t13 t14 t15 g1 g2 h0
    obtain ⟨hg, h⟩ := bif_some h
    simp only [Bool.and_eq_true] at hg
    obtain ⟨⟨q0, q1⟩, q2⟩ := hg
    obtain rfl := (nmEq_iff _ _).1 q0
    obtain rfl := (nmEq_iff _ _).1 q1
    obtain rfl := ctsEq_eq _ _ q2
    refine ⟨((t3 - t15).toNat + 1), ?_⟩
    rw [← h]
    exact loop_run (fun s : Int × Int × Int × Int × (List AV) => ⟨[(0, AV.int .i64 t0), (1, AV.int .i64 t1), (2, AV.int .i64 t2), (3, AV.int .i64 t3), (11, AV.own [0, 11]), (12, AV.int .i64 s.1), (13, AV.int .i64 s.2.1), (14, AV.int .i64 s.2.2.1), (15, AV.int .i64 s.2.2.2.1)], [([0, 11], ⟨false, [.int .i64, .int .i64], s.2.2.2.2⟩)]⟩) (fun p : (List AV) => k (.exit 0) ⟨[(11, AV.own [0, 11])], [([0, 11], ⟨false, [.int .i64, .int .i64], p⟩)]⟩) (st27_0 t0 t1 t2 t3 ce k) _ (t12, t13, t14, t15, h0)
  · cases h
def q27 (a0 : Int) (a1 : Int) (a2 : Int) (a3 : Int) (a4 : Int) : Bool := (bif !(v66_0 a0 0 2) then true else (bif !(v66_0 a1 (-1000) 1000) then true else (bif !(v66_0 a2 a1 1000) then true else (bif !(v66_0 a3 0 30) then true else (ro (runW (R27_0 a0 a1 a2 a3) ((a3 - 0).toNat + 1) (a4, a1, a2, 0, ([] : List AV))) false (fun p1 => true))))))
def v27_0 (a0 : Int) (a1 : Int) (a2 : Int) (a3 : Int) (a4 : Int) : List AV := (bif !(v66_0 a0 0 2) then ([] : List AV) else (bif !(v66_0 a1 (-1000) 1000) then ([] : List AV) else (bif !(v66_0 a2 a1 1000) then ([] : List AV) else (bif !(v66_0 a3 0 30) then ([] : List AV) else (ro (runW (R27_0 a0 a1 a2 a3) ((a3 - 0).toNat + 1) (a4, a1, a2, 0, ([] : List AV))) [] (fun p1 => p1))))))
theorem e27 (a0 : Int) (a1 : Int) (a2 : Int) (a3 : Int) (a4 : Int) : funA c27 0 27 [AV.int .i64 a0, AV.int .i64 a1, AV.int .i64 a2, AV.int .i64 a3, AV.int .i64 a4] = (bif !(v66_0 a0 0 2) then some (AV.fl [.int .i64, .int .i64] ([] : List AV))
  else (bif !(v66_0 a1 (-1000) 1000) then some (AV.fl [.int .i64, .int .i64] ([] : List AV))
   else (bif !(v66_0 a2 a1 1000) then some (AV.fl [.int .i64, .int .i64] ([] : List AV))
    else (bif !(v66_0 a3 0 30) then some (AV.fl [.int .i64, .int .i64] ([] : List AV))
     else (ro (runW (R27_0 a0 a1 a2 a3) ((a3 - 0).toNat + 1) (a4, a1, a2, 0, ([] : List AV))) none (fun p1 => some (AV.fl [.int .i64, .int .i64] p1))))))) := by kernel_rfl
theorem r27 (a0 : Int) (a1 : Int) (a2 : Int) (a3 : Int) (a4 : Int) (h : q27 a0 a1 a2 a3 a4 = true) : funA c27 0 27 [AV.int .i64 a0, AV.int .i64 a1, AV.int .i64 a2, AV.int .i64 a3, AV.int .i64 a4] = some (AV.fl [.int .i64, .int .i64] (v27_0 a0 a1 a2 a3 a4)) := (e27 a0 a1 a2 a3 a4).trans ((br (fun b => some (AV.fl [.int .i64, .int .i64] (bif b then ([] : List AV) else (bif !(v66_0 a1 (-1000) 1000) then ([] : List AV) else (bif !(v66_0 a2 a1 1000) then ([] : List AV) else (bif !(v66_0 a3 0 30) then ([] : List AV) else (ro (runW (R27_0 a0 a1 a2 a3) ((a3 - 0).toNat + 1) (a4, a1, a2, 0, ([] : List AV))) [] (fun p1 => p1)))))))) (fun _ => rfl) (br (fun b => some (AV.fl [.int .i64, .int .i64] (bif b then ([] : List AV) else (bif !(v66_0 a2 a1 1000) then ([] : List AV) else (bif !(v66_0 a3 0 30) then ([] : List AV) else (ro (runW (R27_0 a0 a1 a2 a3) ((a3 - 0).toNat + 1) (a4, a1, a2, 0, ([] : List AV))) [] (fun p1 => p1))))))) (fun _ => rfl) (br (fun b => some (AV.fl [.int .i64, .int .i64] (bif b then ([] : List AV) else (bif !(v66_0 a3 0 30) then ([] : List AV) else (ro (runW (R27_0 a0 a1 a2 a3) ((a3 - 0).toNat + 1) (a4, a1, a2, 0, ([] : List AV))) [] (fun p1 => p1)))))) (fun _ => rfl) (br (fun b => some (AV.fl [.int .i64, .int .i64] (bif b then ([] : List AV) else (ro (runW (R27_0 a0 a1 a2 a3) ((a3 - 0).toNat + 1) (a4, a1, a2, 0, ([] : List AV))) [] (fun p1 => p1))))) (fun _ => rfl) (brO (fun o : Option (((List AV))) => some (AV.fl [.int .i64, .int .i64] (ro o [] (fun p1 => p1)))) (fun p1 => (fun _ => rfl))))))) h)
def m27 : TModel
  | [.int .i64 a0, .int .i64 a1, .int .i64 a2, .int .i64 a3, .int .i64 a4] => some (q27 a0 a1 a2 a3 a4, AV.fl [.int .i64, .int .i64] (v27_0 a0 a1 a2 a3 a4))
  | _ => none
theorem k27 : Known Try.prog 27 := ⟨Try.f27, Try.func27, by kernel_rfl, by kernel_rfl⟩
theorem meets27 : Meets Try.prog 27 m27 := by
  refine meet (f := Try.f27) (l := [(0, sub [1, 1, 1, 1, 1, 1, 0, 1, 0, 0] (body Try.f27))]) (hs := [(27, 0, [0, 1, 2, 3, 11, 12, 13, 14, 15]), (27, 999, [10]), (27, 1000, [11]), (27, 1001, [0, 1, 2, 3, 11, 12, 13, 14, 15]), (27, 1002, [0, 1, 2, 3, 11, 12, 13, 14, 15])]) (ts := [(66, m66), (67, m67)]) (ws := []) (is := []) (ls := [(27, 0, l27_0)]) (lvl := 0) mixed k27 Try.func27 (by kernel_rfl) (loops_cons ok27_0 noLoop) (allT_cons meets66 (allT_cons meets67 allT_nil)) allM_nil noI fun w xs us r hl hv h => ?_
  unfold m27 at h
  split at h
  · rename_i a0 a1 a2 a3 a4
    obtain ⟨h1, rfl⟩ := pair_inj h
    exact r27 a0 a1 a2 a3 a4 h1
  · cases h

/-! ### 68 loop.example/g01984/impl.IsRange -/
noncomputable def c68 : Cfg := cfg Try.prog [(68, 999, [2])] [] [] [] []
def q68 (a0_0 : Int) (a0_1 : Int) : Bool := true
def v68_0 (a0_0 : Int) (a0_1 : Int) : Bool := (bif decide ((-1000) ≤ a0_0) then (bif decide (a0_0 ≤ a0_1) then decide (a0_1 ≤ 1000) else false) else false)
theorem e68 (a0_0 : Int) (a0_1 : Int) : funA c68 0 68 [AV.agg [AV.int .i64 a0_0, AV.int .i64 a0_1]] = (bif decide ((-1000) ≤ a0_0) then (bif decide (a0_0 ≤ a0_1) then some (AV.bool (decide (a0_1 ≤ 1000)))
   else some (AV.bool false))
  else some (AV.bool false)) := by kernel_rfl
theorem r68 (a0_0 : Int) (a0_1 : Int) : funA c68 0 68 [AV.agg [AV.int .i64 a0_0, AV.int .i64 a0_1]] = some (AV.bool (v68_0 a0_0 a0_1)) := (e68 a0_0 a0_1).trans (of_tt (brT (fun b => some (AV.bool (bif b then (bif decide (a0_0 ≤ a0_1) then decide (a0_1 ≤ 1000) else false) else false))) (brT (fun b => some (AV.bool (bif b then decide (a0_1 ≤ 1000) else false))) (fun _ => rfl) (fun _ => rfl)) (fun _ => rfl)))
def m68 : TModel
  | [.agg [.int .i64 a0_0, .int .i64 a0_1]] => some (true, AV.bool (v68_0 a0_0 a0_1))
  | _ => none
theorem k68 : Known Try.prog 68 := ⟨Try.f68, Try.func68, by kernel_rfl, by kernel_rfl⟩
theorem meets68 : Meets Try.prog 68 m68 := by
  refine meet (f := Try.f68) (l := []) (hs := [(68, 999, [2])]) (ts := []) (ws := []) (is := []) (ls := []) (lvl := 0) mixed k68 Try.func68 (by kernel_rfl) noLoop allT_nil allM_nil noI fun w xs us r hl hv h => ?_
  unfold m68 at h
  split at h
  · rename_i a0_0 a0_1
    obtain ⟨h1, rfl⟩ := pair_inj h
    exact r68 a0_0 a0_1
  · cases h

/-! ### 70 loop.example/g01984/impl.NextSeed -/
noncomputable def c70 : Cfg := cfg Try.prog [(70, 999, [2])] [] [] [] []
def q70 (a0 : Int) : Bool := (!decide (10007 = 0) && (bif decide (Int.tmod a0 10007 < 0) then !decide (10007 = 0) else !decide (10007 = 0)))
def v70_0 (a0 : Int) : Int := (bif decide (Int.tmod a0 10007 < 0) then Int.tmod (IntKind.i64.wrap (IntKind.i64.wrap (IntKind.i64.wrap (Int.tmod a0 10007 + 10007) * 1103) + 2345)) 10007 else Int.tmod (IntKind.i64.wrap (IntKind.i64.wrap (Int.tmod a0 10007 * 1103) + 2345)) 10007)
theorem e70 (a0 : Int) : funA c70 0 70 [AV.int .i64 a0] = (bif !decide (10007 = 0) then (bif decide (Int.tmod a0 10007 < 0) then (bif !decide (10007 = 0) then some (AV.int .i64 (Int.tmod (IntKind.i64.wrap (IntKind.i64.wrap (IntKind.i64.wrap (Int.tmod a0 10007 + 10007) * 1103) + 2345)) 10007))
    else none)
   else (bif !decide (10007 = 0) then some (AV.int .i64 (Int.tmod (IntKind.i64.wrap (IntKind.i64.wrap (Int.tmod a0 10007 * 1103) + 2345)) 10007))
    else none))
  else none) := by kernel_rfl
theorem r70 (a0 : Int) (h : q70 a0 = true) : funA c70 0 70 [AV.int .i64 a0] = some (AV.int .i64 (v70_0 a0)) := (e70 a0).trans ((brL (br (fun b => some (AV.int .i64 (bif b then Int.tmod (IntKind.i64.wrap (IntKind.i64.wrap (IntKind.i64.wrap (Int.tmod a0 10007 + 10007) * 1103) + 2345)) 10007 else Int.tmod (IntKind.i64.wrap (IntKind.i64.wrap (Int.tmod a0 10007 * 1103) + 2345)) 10007))) (brL1 (fun _ => rfl)) (brL1 (fun _ => rfl)))) h)
def m70 : TModel
  | [.int .i64 a0] => some (q70 a0, AV.int .i64 (v70_0 a0))
  | _ => none
theorem k70 : Known Try.prog 70 := ⟨Try.f70, Try.func70, by kernel_rfl, by kernel_rfl⟩
theorem meets70 : Meets Try.prog 70 m70 := by
  refine meet (f := Try.f70) (l := []) (hs := [(70, 999, [2])]) (ts := []) (ws := []) (is := []) (ls := []) (lvl := 0) mixed k70 Try.func70 (by kernel_rfl) noLoop allT_nil allM_nil noI fun w xs us r hl hv h => ?_
  unfold m70 at h
  split at h
  · rename_i a0
    obtain ⟨h1, rfl⟩ := pair_inj h
    exact r70 a0 h1
  · cases h

/-! ### 69 loop.example/g01984/impl.MakeWorkload$1 -/
noncomputable def c69 : Cfg := cfg Try.prog [(69, 999, [3])] [(70, m70)] [] [] []
def q69 (b0 : Int) (b1 : Int) (b2 : Int) : Bool := (q70 b0 && !decide (IntKind.i64.wrap (IntKind.i64.wrap (b2 - b1) + 1) = 0))
def v69_0 (b0 : Int) (b1 : Int) (b2 : Int) : Int := IntKind.i64.wrap (b1 + Int.tmod (v70_0 b0) (IntKind.i64.wrap (IntKind.i64.wrap (b2 - b1) + 1)))
def v69_1 (b0 : Int) (b1 : Int) (b2 : Int) : Int := (v70_0 b0)
def v69_2 (b0 : Int) (b1 : Int) (b2 : Int) : Int := b1
def v69_3 (b0 : Int) (b1 : Int) (b2 : Int) : Int := b2
theorem e69 (b0 : Int) (b1 : Int) (b2 : Int) (K : AV → List Blk → Option AV) : inlA c69 1 69 [AV.ptr [1] 0 0, AV.ptr [2] 0 0, AV.ptr [3] 0 0] [0] (canH 1 [⟨true, [], [AV.int .i64 b0]⟩, ⟨true, [], [AV.int .i64 b1]⟩, ⟨true, [], [AV.int .i64 b2]⟩]) (keepB 3 K) = (bif q70 b0 then (bif !decide (IntKind.i64.wrap (IntKind.i64.wrap (b2 - b1) + 1) = 0) then K (AV.int .i64 (IntKind.i64.wrap (b1 + Int.tmod (v70_0 b0) (IntKind.i64.wrap (IntKind.i64.wrap (b2 - b1) + 1))))) [⟨true, [], [AV.int .i64 (v70_0 b0)]⟩, ⟨true, [], [AV.int .i64 b1]⟩, ⟨true, [], [AV.int .i64 b2]⟩]
   else none)
  else none) := by kernel_rfl
theorem r69 (b0 : Int) (b1 : Int) (b2 : Int) (K : AV → List Blk → Option AV) (h : q69 b0 b1 b2 = true) : inlA c69 1 69 [AV.ptr [1] 0 0, AV.ptr [2] 0 0, AV.ptr [3] 0 0] [0] (canH 1 [⟨true, [], [AV.int .i64 b0]⟩, ⟨true, [], [AV.int .i64 b1]⟩, ⟨true, [], [AV.int .i64 b2]⟩]) (keepB 3 K) = K (AV.int .i64 (v69_0 b0 b1 b2)) [⟨true, [], [AV.int .i64 (v69_1 b0 b1 b2)]⟩, ⟨true, [], [AV.int .i64 (v69_2 b0 b1 b2)]⟩, ⟨true, [], [AV.int .i64 (v69_3 b0 b1 b2)]⟩] := (e69 b0 b1 b2 K).trans ((brL (brL1 (fun _ => rfl))) h)
def m69 : WModel
  | [.ptr g0 g1 g2, .ptr g3 g4 g5, .ptr g6 g7 g8], [⟨true, [], [.int .i64 b0]⟩, ⟨true, [], [.int .i64 b1]⟩, ⟨true, [], [.int .i64 b2]⟩] => bif nmEq g0 ([1]) && Nat.beq g1 0 && Nat.beq g2 0 && nmEq g3 ([2]) && Nat.beq g4 0 && Nat.beq g5 0 && nmEq g6 ([3]) && Nat.beq g7 0 && Nat.beq g8 0 then some (q69 b0 b1 b2, AV.int .i64 (v69_0 b0 b1 b2), [⟨true, [], [AV.int .i64 (v69_1 b0 b1 b2)]⟩, ⟨true, [], [AV.int .i64 (v69_2 b0 b1 b2)]⟩, ⟨true, [], [AV.int .i64 (v69_3 b0 b1 b2)]⟩]) else none
  | _, _ => none
theorem k69 : Known Try.prog 69 := ⟨Try.f69, Try.func69, by kernel_rfl, by kernel_rfl⟩
theorem meets69 : MeetsM Try.prog 69 m69 := by
  refine meetM (f := Try.f69) (l := []) (hs := [(69, 999, [3])]) (ts := [(70, m70)]) (ws := []) (is := []) (ls := []) (lvl := 0) mixed k69 Try.func69 (by kernel_rfl) noLoop (allT_cons meets70 allT_nil) allM_nil noI fun C w xs us bs r bs' hl hv hh h K => ?_
  unfold m69 at h
  split at h
  · rename_i g0 g1 g2 g3 g4 g5 g6 g7 g8 b0 b1 b2
    obtain ⟨hg, h⟩ := bif_pair h
    simp only [Bool.and_eq_true] at hg
    obtain ⟨⟨⟨⟨⟨⟨⟨⟨q0, q1⟩, q2⟩, q3⟩, q4⟩, q5⟩, q6⟩, q7⟩, q8⟩ := hg
    obtain rfl := (nmEq_iff _ _).1 q0
    obtain rfl := Nat.eq_of_beq_eq_true q1
    obtain rfl := Nat.eq_of_beq_eq_true q2
    obtain rfl := (nmEq_iff _ _).1 q3
    obtain rfl := Nat.eq_of_beq_eq_true q4
    obtain rfl := Nat.eq_of_beq_eq_true q5
    obtain rfl := (nmEq_iff _ _).1 q6
    obtain rfl := Nat.eq_of_beq_eq_true q7
    obtain rfl := Nat.eq_of_beq_eq_true q8
    obtain ⟨h1, rfl, rfl⟩ := trip_inj h
    exact r69 b0 b1 b2 K h1
  · cases h

/-! ### 28 loop.example/g01984/impl.MakeWorkload -/
def F28_0 (t0 : Int) (t3 : Int) (t46 : Int) (t47 : Int) (h0 : Int) (h1 : Int) (h2 : Int) (h3 : List AV) (h4_0 : Int) (h4_1 : Int) : Out ((Int × Int × Int × Int × (List AV) × Int × Int)) ((Int × Int × Int × (List AV) × Int × Int)) := (bif decide (t47 < t46) then (bif decide (t0 = 0) then (bif q69 h0 h1 h2 then (bif q69 (v69_1 h0 h1 h2) (v69_2 h0 h1 h2) (v69_3 h0 h1 h2) then (bif (decide ((h3.length + ([AV.agg [AV.int .i64 (if (v69_0 (v69_1 h0 h1 h2) (v69_2 h0 h1 h2) (v69_3 h0 h1 h2)) < (v69_0 h0 h1 h2) then (v69_0 (v69_1 h0 h1 h2) (v69_2 h0 h1 h2) (v69_3 h0 h1 h2)) else (v69_0 h0 h1 h2)), AV.int .i64 (if (v69_0 (v69_1 h0 h1 h2) (v69_2 h0 h1 h2) (v69_3 h0 h1 h2)) > (v69_0 h0 h1 h2) then (v69_0 (v69_1 h0 h1 h2) (v69_2 h0 h1 h2) (v69_3 h0 h1 h2)) else (v69_0 h0 h1 h2))]]).length) * 16 ≤ 140737488355328) && decide ((h3.length + ([AV.agg [AV.int .i64 (if (v69_0 (v69_1 h0 h1 h2) (v69_2 h0 h1 h2) (v69_3 h0 h1 h2)) < (v69_0 h0 h1 h2) then (v69_0 (v69_1 h0 h1 h2) (v69_2 h0 h1 h2) (v69_3 h0 h1 h2)) else (v69_0 h0 h1 h2)), AV.int .i64 (if (v69_0 (v69_1 h0 h1 h2) (v69_2 h0 h1 h2) (v69_3 h0 h1 h2)) > (v69_0 h0 h1 h2) then (v69_0 (v69_1 h0 h1 h2) (v69_2 h0 h1 h2) (v69_3 h0 h1 h2)) else (v69_0 h0 h1 h2))]]).length) ≤ 140737488355328)) then .next (IntKind.i64.wrap (t47 + 1), (v69_1 (v69_1 h0 h1 h2) (v69_2 h0 h1 h2) (v69_3 h0 h1 h2)), (v69_2 (v69_1 h0 h1 h2) (v69_2 h0 h1 h2) (v69_3 h0 h1 h2)), (v69_3 (v69_1 h0 h1 h2) (v69_2 h0 h1 h2) (v69_3 h0 h1 h2)), h3 ++ ([AV.agg [AV.int .i64 (if (v69_0 (v69_1 h0 h1 h2) (v69_2 h0 h1 h2) (v69_3 h0 h1 h2)) < (v69_0 h0 h1 h2) then (v69_0 (v69_1 h0 h1 h2) (v69_2 h0 h1 h2) (v69_3 h0 h1 h2)) else (v69_0 h0 h1 h2)), AV.int .i64 (if (v69_0 (v69_1 h0 h1 h2) (v69_2 h0 h1 h2) (v69_3 h0 h1 h2)) > (v69_0 h0 h1 h2) then (v69_0 (v69_1 h0 h1 h2) (v69_2 h0 h1 h2) (v69_3 h0 h1 h2)) else (v69_0 h0 h1 h2))]]), h4_0, h4_1)
      else .fail)
     else .fail)
    else .fail)
   else (bif decide (t0 = 1) then (bif !decide (t3 = 0) then (bif !decide (t3 = 0) then (bif (decide ((h3.length + ([AV.agg [AV.int .i64 (IntKind.i64.wrap (h1 + IntKind.i64.wrap (Int.tdiv (IntKind.i64.wrap (IntKind.i64.wrap (h2 - h1) * t47)) t3))), AV.int .i64 (IntKind.i64.wrap (h1 + IntKind.i64.wrap (Int.tdiv (IntKind.i64.wrap (IntKind.i64.wrap (h2 - h1) * IntKind.i64.wrap (t47 + 1))) t3)))]]).length) * 16 ≤ 140737488355328) && decide ((h3.length + ([AV.agg [AV.int .i64 (IntKind.i64.wrap (h1 + IntKind.i64.wrap (Int.tdiv (IntKind.i64.wrap (IntKind.i64.wrap (h2 - h1) * t47)) t3))), AV.int .i64 (IntKind.i64.wrap (h1 + IntKind.i64.wrap (Int.tdiv (IntKind.i64.wrap (IntKind.i64.wrap (h2 - h1) * IntKind.i64.wrap (t47 + 1))) t3)))]]).length) ≤ 140737488355328)) then .next (IntKind.i64.wrap (t47 + 1), h0, h1, h2, h3 ++ ([AV.agg [AV.int .i64 (IntKind.i64.wrap (h1 + IntKind.i64.wrap (Int.tdiv (IntKind.i64.wrap (IntKind.i64.wrap (h2 - h1) * t47)) t3))), AV.int .i64 (IntKind.i64.wrap (h1 + IntKind.i64.wrap (Int.tdiv (IntKind.i64.wrap (IntKind.i64.wrap (h2 - h1) * IntKind.i64.wrap (t47 + 1))) t3)))]]), h4_0, h4_1)
       else .fail)
      else .fail)
     else .fail)
    else (bif decide (t0 = 2) then (bif (decide ((h3.length + ([AV.agg [AV.int .i64 h4_0, AV.int .i64 h4_1]]).length) * 16 ≤ 140737488355328) && decide ((h3.length + ([AV.agg [AV.int .i64 h4_0, AV.int .i64 h4_1]]).length) ≤ 140737488355328)) then (bif !decide (4 = 0) then .next (IntKind.i64.wrap (t47 + 1), h0, h1, h2, h3 ++ ([AV.agg [AV.int .i64 h4_0, AV.int .i64 h4_1]]), IntKind.i64.wrap (h4_0 + IntKind.i64.wrap (Int.tdiv (IntKind.i64.wrap (h4_1 - h4_0)) 4)), IntKind.i64.wrap (h4_1 - IntKind.i64.wrap (Int.tdiv (IntKind.i64.wrap (h4_1 - h4_0)) 4)))
       else .fail)
      else .fail)
     else .next (IntKind.i64.wrap (t47 + 1), h0, h1, h2, h3, h4_0, h4_1))))
  else .stop (h0, h1, h2, h3, h4_0, h4_1))
def R28_0 (t0 : Int) (t3 : Int) (t46 : Int) : ((Int × Int × Int × Int × (List AV) × Int × Int)) → Out ((Int × Int × Int × Int × (List AV) × Int × Int)) ((Int × Int × Int × (List AV) × Int × Int)) := fun s : Int × Int × Int × Int × (List AV) × Int × Int => F28_0 t0 t3 t46 s.1 s.2.1 s.2.2.1 s.2.2.2.1 s.2.2.2.2.1 s.2.2.2.2.2.1 s.2.2.2.2.2.2
def l28_0 : LModel := fun _ _ st k => match st with
  | ⟨[(0, .int .i64 t0), (3, .int .i64 t3), (6, .ptr g0 g1 g2), (7, .ptr g3 g4 g5), (11, .own g6), (13, .ptr g7 g8 g9), (14, .fn g10 [.ptr g11 g12 g13, .ptr g14 g15 g16, .ptr g17 g18 g19]), (46, .int .i64 t46), (47, .int .i64 t47)], [(g20, ⟨true, [], [.int .i64 h0]⟩), (g21, ⟨true, [], [.int .i64 h1]⟩), (g22, ⟨true, [], [.int .i64 h2]⟩), (g23, ⟨false, g24, h3⟩), (g25, ⟨true, [], [.agg [.int .i64 h4_0, .int .i64 h4_1]]⟩)]⟩ => bif nmEq g0 ([0, 6]) && Nat.beq g1 0 && Nat.beq g2 0 && nmEq g3 ([0, 7]) && Nat.beq g4 0 && Nat.beq g5 0 && nmEq g6 ([0, 11]) && nmEq g7 ([0, 13]) && Nat.beq g8 0 && Nat.beq g9 0 && Nat.beq g10 69 && nmEq g11 ([0, 0, 14]) && Nat.beq g12 0 && Nat.beq g13 0 && nmEq g14 ([0, 6]) && Nat.beq g15 0 && Nat.beq g16 0 && nmEq g17 ([0, 7]) && Nat.beq g18 0 && Nat.beq g19 0 && nmEq g20 ([0, 0, 14]) && nmEq g21 ([0, 6]) && nmEq g22 ([0, 7]) && nmEq g23 ([0, 11]) && ctsEq g24 ([.int .i64, .int .i64]) && nmEq g25 ([0, 13]) then ro (runW (R28_0 t0 t3 t46) ((t46 - t47).toNat + 1) (t47, h0, h1, h2, h3, h4_0, h4_1)) none (fun p : Int × Int × Int × (List AV) × Int × Int => k (.exit 0) ⟨[(11, AV.own [0, 11])], [([0, 0, 14], ⟨true, [], [AV.int .i64 p.1]⟩), ([0, 6], ⟨true, [], [AV.int .i64 p.2.1]⟩), ([0, 7], ⟨true, [], [AV.int .i64 p.2.2.1]⟩), ([0, 11], ⟨false, [.int .i64, .int .i64], p.2.2.2.1⟩), ([0, 13], ⟨true, [], [AV.agg [AV.int .i64 p.2.2.2.2.1, AV.int .i64 p.2.2.2.2.2]]⟩)]⟩) else none
  | _ => none
noncomputable def c28 : Cfg := cfg Try.prog [(28, 0, [0, 3, 6, 7, 11, 13, 14, 46, 47]), (28, 999, [10]), (28, 1000, [11]), (28, 1001, [0, 3, 6, 7, 11, 13, 14, 46, 47]), (28, 1002, [0, 3, 6, 7, 11, 13, 14, 46, 47])] [(68, m68)] [(69, m69)] [] [(28, 0, l28_0)]
theorem s28_0 (ce : CallE) (t0 : Int) (t3 : Int) (t46 : Int) (t47 : Int) (h0 : Int) (h1 : Int) (h2 : Int) (h3 : List AV) (h4_0 : Int) (h4_1 : Int) (next : St → Option AV) (k : Kont) : stepA (codeA c28 ce [] 28 0 (sub [1, 1, 1, 1, 0, 1, 0, 0] (body Try.f28))) (normA [] [0, 3, 6, 7, 11, 13, 14, 46, 47]) next ⟨[(0, AV.int .i64 t0), (3, AV.int .i64 t3), (6, AV.ptr [0, 6] 0 0), (7, AV.ptr [0, 7] 0 0), (11, AV.own [0, 11]), (13, AV.ptr [0, 13] 0 0), (14, AV.fn 69 [AV.ptr [0, 0, 14] 0 0, AV.ptr [0, 6] 0 0, AV.ptr [0, 7] 0 0]), (46, AV.int .i64 t46), (47, AV.int .i64 t47)], [([0, 0, 14], ⟨true, [], [AV.int .i64 h0]⟩), ([0, 6], ⟨true, [], [AV.int .i64 h1]⟩), ([0, 7], ⟨true, [], [AV.int .i64 h2]⟩), ([0, 11], ⟨false, [.int .i64, .int .i64], h3⟩), ([0, 13], ⟨true, [], [AV.agg [AV.int .i64 h4_0, AV.int .i64 h4_1]]⟩)]⟩ k = (bif decide (t47 < t46) then (bif decide (t0 = 0) then (bif q69 h0 h1 h2 then (bif q69 (v69_1 h0 h1 h2) (v69_2 h0 h1 h2) (v69_3 h0 h1 h2) then (bif (decide ((h3.length + ([AV.agg [AV.int .i64 (if (v69_0 (v69_1 h0 h1 h2) (v69_2 h0 h1 h2) (v69_3 h0 h1 h2)) < (v69_0 h0 h1 h2) then (v69_0 (v69_1 h0 h1 h2) (v69_2 h0 h1 h2) (v69_3 h0 h1 h2)) else (v69_0 h0 h1 h2)), AV.int .i64 (if (v69_0 (v69_1 h0 h1 h2) (v69_2 h0 h1 h2) (v69_3 h0 h1 h2)) > (v69_0 h0 h1 h2) then (v69_0 (v69_1 h0 h1 h2) (v69_2 h0 h1 h2) (v69_3 h0 h1 h2)) else (v69_0 h0 h1 h2))]]).length) * 16 ≤ 140737488355328) && decide ((h3.length + ([AV.agg [AV.int .i64 (if (v69_0 (v69_1 h0 h1 h2) (v69_2 h0 h1 h2) (v69_3 h0 h1 h2)) < (v69_0 h0 h1 h2) then (v69_0 (v69_1 h0 h1 h2) (v69_2 h0 h1 h2) (v69_3 h0 h1 h2)) else (v69_0 h0 h1 h2)), AV.int .i64 (if (v69_0 (v69_1 h0 h1 h2) (v69_2 h0 h1 h2) (v69_3 h0 h1 h2)) > (v69_0 h0 h1 h2) then (v69_0 (v69_1 h0 h1 h2) (v69_2 h0 h1 h2) (v69_3 h0 h1 h2)) else (v69_0 h0 h1 h2))]]).length) ≤ 140737488355328)) then next ⟨[(0, AV.int .i64 t0), (3, AV.int .i64 t3), (6, AV.ptr [0, 6] 0 0), (7, AV.ptr [0, 7] 0 0), (11, AV.own [0, 11]), (13, AV.ptr [0, 13] 0 0), (14, AV.fn 69 [AV.ptr [0, 0, 14] 0 0, AV.ptr [0, 6] 0 0, AV.ptr [0, 7] 0 0]), (46, AV.int .i64 t46), (47, AV.int .i64 (IntKind.i64.wrap (t47 + 1)))], [([0, 0, 14], ⟨true, [], [AV.int .i64 (v69_1 (v69_1 h0 h1 h2) (v69_2 h0 h1 h2) (v69_3 h0 h1 h2))]⟩), ([0, 6], ⟨true, [], [AV.int .i64 (v69_2 (v69_1 h0 h1 h2) (v69_2 h0 h1 h2) (v69_3 h0 h1 h2))]⟩), ([0, 7], ⟨true, [], [AV.int .i64 (v69_3 (v69_1 h0 h1 h2) (v69_2 h0 h1 h2) (v69_3 h0 h1 h2))]⟩), ([0, 11], ⟨false, [.int .i64, .int .i64], h3 ++ ([AV.agg [AV.int .i64 (if (v69_0 (v69_1 h0 h1 h2) (v69_2 h0 h1 h2) (v69_3 h0 h1 h2)) < (v69_0 h0 h1 h2) then (v69_0 (v69_1 h0 h1 h2) (v69_2 h0 h1 h2) (v69_3 h0 h1 h2)) else (v69_0 h0 h1 h2)), AV.int .i64 (if (v69_0 (v69_1 h0 h1 h2) (v69_2 h0 h1 h2) (v69_3 h0 h1 h2)) > (v69_0 h0 h1 h2) then (v69_0 (v69_1 h0 h1 h2) (v69_2 h0 h1 h2) (v69_3 h0 h1 h2)) else (v69_0 h0 h1 h2))]])⟩), ([0, 13], ⟨true, [], [AV.agg [AV.int .i64 h4_0, AV.int .i64 h4_1]]⟩)]⟩
      else none)
     else none)
    else none)
   else (bif decide (t0 = 1) then (bif !decide (t3 = 0) then (bif !decide (t3 = 0) then (bif (decide ((h3.length + ([AV.agg [AV.int .i64 (IntKind.i64.wrap (h1 + IntKind.i64.wrap (Int.tdiv (IntKind.i64.wrap (IntKind.i64.wrap (h2 - h1) * t47)) t3))), AV.int .i64 (IntKind.i64.wrap (h1 + IntKind.i64.wrap (Int.tdiv (IntKind.i64.wrap (IntKind.i64.wrap (h2 - h1) * IntKind.i64.wrap (t47 + 1))) t3)))]]).length) * 16 ≤ 140737488355328) && decide ((h3.length + ([AV.agg [AV.int .i64 (IntKind.i64.wrap (h1 + IntKind.i64.wrap (Int.tdiv (IntKind.i64.wrap (IntKind.i64.wrap (h2 - h1) * t47)) t3))), AV.int .i64 (IntKind.i64.wrap (h1 + IntKind.i64.wrap (Int.tdiv (IntKind.i64.wrap (IntKind.i64.wrap (h2 - h1) * IntKind.i64.wrap (t47 + 1))) t3)))]]).length) ≤ 140737488355328)) then next ⟨[(0, AV.int .i64 t0), (3, AV.int .i64 t3), (6, AV.ptr [0, 6] 0 0), (7, AV.ptr [0, 7] 0 0), (11, AV.own [0, 11]), (13, AV.ptr [0, 13] 0 0), (14, AV.fn 69 [AV.ptr [0, 0, 14] 0 0, AV.ptr [0, 6] 0 0, AV.ptr [0, 7] 0 0]), (46, AV.int .i64 t46), (47, AV.int .i64 (IntKind.i64.wrap (t47 + 1)))], [([0, 0, 14], ⟨true, [], [AV.int .i64 h0]⟩), ([0, 6], ⟨true, [], [AV.int .i64 h1]⟩), ([0, 7], ⟨true, [], [AV.int .i64 h2]⟩), ([0, 11], ⟨false, [.int .i64, .int .i64], h3 ++ ([AV.agg [AV.int .i64 (IntKind.i64.wrap (h1 + IntKind.i64.wrap (Int.tdiv (IntKind.i64.wrap (IntKind.i64.wrap (h2 - h1) * t47)) t3))), AV.int .i64 (IntKind.i64.wrap (h1 + IntKind.i64.wrap (Int.tdiv (IntKind.i64.wrap (IntKind.i64.wrap (h2 - h1) * IntKind.i64.wrap (t47 + 1))) t3)))]])⟩), ([0, 13], ⟨true, [], [AV.agg [AV.int .i64 h4_0, AV.int .i64 h4_1]]⟩)]⟩
       else none)
      else none)
     else none)
    else (bif decide (t0 = 2) then (bif (decide ((h3.length + ([AV.agg [AV.int .i64 h4_0, AV.int .i64 h4_1]]).length) * 16 ≤ 140737488355328) && decide ((h3.length + ([AV.agg [AV.int .i64 h4_0, AV.int .i64 h4_1]]).length) ≤ 140737488355328)) then (bif !decide (4 = 0) then next ⟨[(0, AV.int .i64 t0), (3, AV.int .i64 t3), (6, AV.ptr [0, 6] 0 0), (7, AV.ptr [0, 7] 0 0), (11, AV.own [0, 11]), (13, AV.ptr [0, 13] 0 0), (14, AV.fn 69 [AV.ptr [0, 0, 14] 0 0, AV.ptr [0, 6] 0 0, AV.ptr [0, 7] 0 0]), (46, AV.int .i64 t46), (47, AV.int .i64 (IntKind.i64.wrap (t47 + 1)))], [([0, 0, 14], ⟨true, [], [AV.int .i64 h0]⟩), ([0, 6], ⟨true, [], [AV.int .i64 h1]⟩), ([0, 7], ⟨true, [], [AV.int .i64 h2]⟩), ([0, 11], ⟨false, [.int .i64, .int .i64], h3 ++ ([AV.agg [AV.int .i64 h4_0, AV.int .i64 h4_1]])⟩), ([0, 13], ⟨true, [], [AV.agg [AV.int .i64 (IntKind.i64.wrap (h4_0 + IntKind.i64.wrap (Int.tdiv (IntKind.i64.wrap (h4_1 - h4_0)) 4))), AV.int .i64 (IntKind.i64.wrap (h4_1 - IntKind.i64.wrap (Int.tdiv (IntKind.i64.wrap (h4_1 - h4_0)) 4)))]]⟩)]⟩
       else none)
      else none)
     else next ⟨[(0, AV.int .i64 t0), (3, AV.int .i64 t3), (6, AV.ptr [0, 6] 0 0), (7, AV.ptr [0, 7] 0 0), (11, AV.own [0, 11]), (13, AV.ptr [0, 13] 0 0), (14, AV.fn 69 [AV.ptr [0, 0, 14] 0 0, AV.ptr [0, 6] 0 0, AV.ptr [0, 7] 0 0]), (46, AV.int .i64 t46), (47, AV.int .i64 (IntKind.i64.wrap (t47 + 1)))], [([0, 0, 14], ⟨true, [], [AV.int .i64 h0]⟩), ([0, 6], ⟨true, [], [AV.int .i64 h1]⟩), ([0, 7], ⟨true, [], [AV.int .i64 h2]⟩), ([0, 11], ⟨false, [.int .i64, .int .i64], h3⟩), ([0, 13], ⟨true, [], [AV.agg [AV.int .i64 h4_0, AV.int .i64 h4_1]]⟩)]⟩)))
  else k (.exit 0) ⟨[(11, AV.own [0, 11])], [([0, 0, 14], ⟨true, [], [AV.int .i64 h0]⟩), ([0, 6], ⟨true, [], [AV.int .i64 h1]⟩), ([0, 7], ⟨true, [], [AV.int .i64 h2]⟩), ([0, 11], ⟨false, [.int .i64, .int .i64], h3⟩), ([0, 13], ⟨true, [], [AV.agg [AV.int .i64 h4_0, AV.int .i64 h4_1]]⟩)]⟩) := by kernel_rfl
theorem st28_0 (t0 : Int) (t3 : Int) (t46 : Int) (ce : CallE) (k : Kont) (s : (Int × Int × Int × Int × (List AV) × Int × Int)) (next : St → Option AV) : stepA (codeA c28 ce [] 28 0 (sub [1, 1, 1, 1, 0, 1, 0, 0] (body Try.f28))) (normA [] [0, 3, 6, 7, 11, 13, 14, 46, 47]) next ((fun s : Int × Int × Int × Int × (List AV) × Int × Int => ⟨[(0, AV.int .i64 t0), (3, AV.int .i64 t3), (6, AV.ptr [0, 6] 0 0), (7, AV.ptr [0, 7] 0 0), (11, AV.own [0, 11]), (13, AV.ptr [0, 13] 0 0), (14, AV.fn 69 [AV.ptr [0, 0, 14] 0 0, AV.ptr [0, 6] 0 0, AV.ptr [0, 7] 0 0]), (46, AV.int .i64 t46), (47, AV.int .i64 s.1)], [([0, 0, 14], ⟨true, [], [AV.int .i64 s.2.1]⟩), ([0, 6], ⟨true, [], [AV.int .i64 s.2.2.1]⟩), ([0, 7], ⟨true, [], [AV.int .i64 s.2.2.2.1]⟩), ([0, 11], ⟨false, [.int .i64, .int .i64], s.2.2.2.2.1⟩), ([0, 13], ⟨true, [], [AV.agg [AV.int .i64 s.2.2.2.2.2.1, AV.int .i64 s.2.2.2.2.2.2]]⟩)]⟩) s) k = (R28_0 t0 t3 t46 s).el none (fun s => next ((fun s : Int × Int × Int × Int × (List AV) × Int × Int => ⟨[(0, AV.int .i64 t0), (3, AV.int .i64 t3), (6, AV.ptr [0, 6] 0 0), (7, AV.ptr [0, 7] 0 0), (11, AV.own [0, 11]), (13, AV.ptr [0, 13] 0 0), (14, AV.fn 69 [AV.ptr [0, 0, 14] 0 0, AV.ptr [0, 6] 0 0, AV.ptr [0, 7] 0 0]), (46, AV.int .i64 t46), (47, AV.int .i64 s.1)], [([0, 0, 14], ⟨true, [], [AV.int .i64 s.2.1]⟩), ([0, 6], ⟨true, [], [AV.int .i64 s.2.2.1]⟩), ([0, 7], ⟨true, [], [AV.int .i64 s.2.2.2.1]⟩), ([0, 11], ⟨false, [.int .i64, .int .i64], s.2.2.2.2.1⟩), ([0, 13], ⟨true, [], [AV.agg [AV.int .i64 s.2.2.2.2.2.1, AV.int .i64 s.2.2.2.2.2.2]]⟩)]⟩) s)) (fun p : Int × Int × Int × (List AV) × Int × Int => k (.exit 0) ⟨[(11, AV.own [0, 11])], [([0, 0, 14], ⟨true, [], [AV.int .i64 p.1]⟩), ([0, 6], ⟨true, [], [AV.int .i64 p.2.1]⟩), ([0, 7], ⟨true, [], [AV.int .i64 p.2.2.1]⟩), ([0, 11], ⟨false, [.int .i64, .int .i64], p.2.2.2.1⟩), ([0, 13], ⟨true, [], [AV.agg [AV.int .i64 p.2.2.2.2.1, AV.int .i64 p.2.2.2.2.2]]⟩)]⟩) := (s28_0 ce t0 t3 t46 s.1 s.2.1 s.2.2.1 s.2.2.2.1 s.2.2.2.2.1 s.2.2.2.2.2.1 s.2.2.2.2.2.2 next k).trans (by unfold R28_0; unfold F28_0; simp only [el_cond, el_ro, el_sum, el_fail, el_next, el_stop] <;> rfl)
theorem ok28_0 : LoopOK c28 [] 28 0 (sub [1, 1, 1, 1, 0, 1, 0, 0] (body Try.f28)) := by
  intro m hm ce st k r h
  obtain rfl : l28_0 = m := Option.some.inj hm
  unfold l28_0 at h
  split at h
  · rename_i t0 t3 g0 g1 g2 g3 g4 g5 g6 g7 g8 g9 g10 g11 g12 g13 g14 g15 g16 g17 g18 g19 t46 t47 g20 h0 g21 h1 g22 h2 g23 g24 h3 g25 h4_0 h4_1
    obtain ⟨hg, h⟩ := bif_some h
    simp only [Bool.and_eq_true] at hg
    obtain ⟨⟨⟨⟨⟨⟨⟨⟨⟨⟨⟨⟨⟨⟨⟨⟨⟨⟨⟨⟨⟨⟨⟨⟨⟨q0, q1⟩, q2⟩, q3⟩, q4⟩, q5⟩, q6⟩, q7⟩, q8⟩, q9⟩, q10⟩, q11⟩, q12⟩, q13⟩, q14⟩, q15⟩, q16⟩, q17⟩, q18⟩, q19⟩, q20⟩, q21⟩, q22⟩, q23⟩, q24⟩, q25⟩ := hg
    obtain rfl := (nmEq_iff _ _).1 q0
    obtain rfl := Nat.eq_of_beq_eq_true q1
    obtain rfl := Nat.eq_of_beq_eq_true q2
    obtain rfl := (nmEq_iff _ _).1 q3
    obtain rfl := Nat.eq_of_beq_eq_true q4
    obtain rfl := Nat.eq_of_beq_eq_true q5
    obtain rfl := (nmEq_iff _ _).1 q6
    obtain rfl := (nmEq_iff _ _).1 q7
    obtain rfl := Nat.eq_of_beq_eq_true q8
    obtain rfl := Nat.eq_of_beq_eq_true q9
    obtain rfl := Nat.eq_of_beq_eq_true q10
    obtain rfl := (nmEq_iff _ _).1 q11
    obtain rfl := Nat.eq_of_beq_eq_true q12
    obtain rfl := Nat.eq_of_beq_eq_true q13
    obtain rfl := (nmEq_iff _ _).1 q14
    obtain rfl := Nat.eq_of_beq_eq_true q15
    obtain rfl := Nat.eq_of_beq_eq_true q16
    obtain rfl := (nmEq_iff _ _).1 q17
    obtain rfl := Nat.eq_of_beq_eq_true q18
    obtain rfl := Nat.eq_of_beq_eq_true q19
    obtain rfl := (nmEq_iff _ _).1 q20
    obtain rfl := (nmEq_iff _ _).1 q21
    obtain rfl := (nmEq_iff _ _).1 q22
    obtain rfl := (nmEq_iff _ _).1 q23
    obtain rfl := ctsEq_eq _ _ q24
    obtain rfl := (nmEq_iff _ _).1 q25
    refine ⟨((t46 - t47).toNat + 1), ?_⟩
    rw [← h]
    exact loop_run (fun s : Int × Int × Int × Int × (List AV) × Int × Int => ⟨[(0, AV.int .i64 t0), (3, AV.int .i64 t3), (6, AV.ptr [0, 6] 0 0), (7, AV.ptr [0, 7] 0 0), (11, AV.own [0, 11]), (13, AV.ptr [0, 13] 0 0), (14, AV.fn 69 [AV.ptr [0, 0, 14] 0 0, AV.ptr [0, 6] 0 0, AV.ptr [0, 7] 0 0]), (46, AV.int .i64 t46), (47, AV.int .i64 s.1)], [([0, 0, 14], ⟨true, [], [AV.int .i64 s.2.1]⟩), ([0, 6], ⟨true, [], [AV.int .i64 s.2.2.1]⟩), ([0, 7], ⟨true, [], [AV.int .i64 s.2.2.2.1]⟩), ([0, 11], ⟨false, [.int .i64, .int .i64], s.2.2.2.2.1⟩), ([0, 13], ⟨true, [], [AV.agg [AV.int .i64 s.2.2.2.2.2.1, AV.int .i64 s.2.2.2.2.2.2]]⟩)]⟩) (fun p : Int × Int × Int × (List AV) × Int × Int => k (.exit 0) ⟨[(11, AV.own [0, 11])], [([0, 0, 14], ⟨true, [], [AV.int .i64 p.1]⟩), ([0, 6], ⟨true, [], [AV.int .i64 p.2.1]⟩), ([0, 7], ⟨true, [], [AV.int .i64 p.2.2.1]⟩), ([0, 11], ⟨false, [.int .i64, .int .i64], p.2.2.2.1⟩), ([0, 13], ⟨true, [], [AV.agg [AV.int .i64 p.2.2.2.2.1, AV.int .i64 p.2.2.2.2.2]]⟩)]⟩) (st28_0 t0 t3 t46 ce k) _ (t47, h0, h1, h2, h3, h4_0, h4_1)
  · cases h
def q28 (a0 : Int) (a1 : Int) (a2 : Int) (a3 : Int) (a4 : Int) : Bool := (bif decide (a0 < 0) then true else (bif decide (a0 > 2) then true else (bif !(v68_0 a1 a2) then true else (bif decide (a3 < 0) then true else (bif decide (a3 > 30) then true else (ro (runW (R28_0 a0 a3 a3) ((a3 - 0).toNat + 1) (0, a4, a1, a2, ([] : List AV), a1, a2)) false (fun p2 => true)))))))
def v28_0 (a0 : Int) (a1 : Int) (a2 : Int) (a3 : Int) (a4 : Int) : List AV := (bif decide (a0 < 0) then ([] : List AV) else (bif decide (a0 > 2) then ([] : List AV) else (bif !(v68_0 a1 a2) then ([] : List AV) else (bif decide (a3 < 0) then ([] : List AV) else (bif decide (a3 > 30) then ([] : List AV) else (ro (runW (R28_0 a0 a3 a3) ((a3 - 0).toNat + 1) (0, a4, a1, a2, ([] : List AV), a1, a2)) [] (fun p2 => p2.2.2.2.1)))))))
theorem e28 (a0 : Int) (a1 : Int) (a2 : Int) (a3 : Int) (a4 : Int) : funA c28 0 28 [AV.int .i64 a0, AV.int .i64 a1, AV.int .i64 a2, AV.int .i64 a3, AV.int .i64 a4] = (bif decide (a0 < 0) then some (AV.fl [.int .i64, .int .i64] ([] : List AV))
  else (bif decide (a0 > 2) then some (AV.fl [.int .i64, .int .i64] ([] : List AV))
   else (bif !(v68_0 a1 a2) then some (AV.fl [.int .i64, .int .i64] ([] : List AV))
    else (bif decide (a3 < 0) then some (AV.fl [.int .i64, .int .i64] ([] : List AV))
     else (bif decide (a3 > 30) then some (AV.fl [.int .i64, .int .i64] ([] : List AV))
      else (ro (runW (R28_0 a0 a3 a3) ((a3 - 0).toNat + 1) (0, a4, a1, a2, ([] : List AV), a1, a2)) none (fun p2 => some (AV.fl [.int .i64, .int .i64] p2.2.2.2.1)))))))) := by kernel_rfl
theorem r28 (a0 : Int) (a1 : Int) (a2 : Int) (a3 : Int) (a4 : Int) (h : q28 a0 a1 a2 a3 a4 = true) : funA c28 0 28 [AV.int .i64 a0, AV.int .i64 a1, AV.int .i64 a2, AV.int .i64 a3, AV.int .i64 a4] = some (AV.fl [.int .i64, .int .i64] (v28_0 a0 a1 a2 a3 a4)) := (e28 a0 a1 a2 a3 a4).trans ((br (fun b => some (AV.fl [.int .i64, .int .i64] (bif b then ([] : List AV) else (bif decide (a0 > 2) then ([] : List AV) else (bif !(v68_0 a1 a2) then ([] : List AV) else (bif decide (a3 < 0) then ([] : List AV) else (bif decide (a3 > 30) then ([] : List AV) else (ro (runW (R28_0 a0 a3 a3) ((a3 - 0).toNat + 1) (0, a4, a1, a2, ([] : List AV), a1, a2)) [] (fun p2 => p2.2.2.2.1))))))))) (fun _ => rfl) (br (fun b => some (AV.fl [.int .i64, .int .i64] (bif b then ([] : List AV) else (bif !(v68_0 a1 a2) then ([] : List AV) else (bif decide (a3 < 0) then ([] : List AV) else (bif decide (a3 > 30) then ([] : List AV) else (ro (runW (R28_0 a0 a3 a3) ((a3 - 0).toNat + 1) (0, a4, a1, a2, ([] : List AV), a1, a2)) [] (fun p2 => p2.2.2.2.1)))))))) (fun _ => rfl) (br (fun b => some (AV.fl [.int .i64, .int .i64] (bif b then ([] : List AV) else (bif decide (a3 < 0) then ([] : List AV) else (bif decide (a3 > 30) then ([] : List AV) else (ro (runW (R28_0 a0 a3 a3) ((a3 - 0).toNat + 1) (0, a4, a1, a2, ([] : List AV), a1, a2)) [] (fun p2 => p2.2.2.2.1))))))) (fun _ => rfl) (br (fun b => some (AV.fl [.int .i64, .int .i64] (bif b then ([] : List AV) else (bif decide (a3 > 30) then ([] : List AV) else (ro (runW (R28_0 a0 a3 a3) ((a3 - 0).toNat + 1) (0, a4, a1, a2, ([] : List AV), a1, a2)) [] (fun p2 => p2.2.2.2.1)))))) (fun _ => rfl) (br (fun b => some (AV.fl [.int .i64, .int .i64] (bif b then ([] : List AV) else (ro (runW (R28_0 a0 a3 a3) ((a3 - 0).toNat + 1) (0, a4, a1, a2, ([] : List AV), a1, a2)) [] (fun p2 => p2.2.2.2.1))))) (fun _ => rfl) (brO (fun o : Option ((Int × Int × Int × (List AV) × Int × Int)) => some (AV.fl [.int .i64, .int .i64] (ro o [] (fun p2 => p2.2.2.2.1)))) (fun p2 => (fun _ => rfl)))))))) h)
def m28 : TModel
  | [.int .i64 a0, .int .i64 a1, .int .i64 a2, .int .i64 a3, .int .i64 a4] => some (q28 a0 a1 a2 a3 a4, AV.fl [.int .i64, .int .i64] (v28_0 a0 a1 a2 a3 a4))
  | _ => none
theorem k28 : Known Try.prog 28 := ⟨Try.f28, Try.func28, by kernel_rfl, by kernel_rfl⟩
theorem meets28 : Meets Try.prog 28 m28 := by
  refine meet (f := Try.f28) (l := [(0, sub [1, 1, 1, 1, 0, 1, 0, 0] (body Try.f28))]) (hs := [(28, 0, [0, 3, 6, 7, 11, 13, 14, 46, 47]), (28, 999, [10]), (28, 1000, [11]), (28, 1001, [0, 3, 6, 7, 11, 13, 14, 46, 47]), (28, 1002, [0, 3, 6, 7, 11, 13, 14, 46, 47])]) (ts := [(68, m68)]) (ws := [(69, m69)]) (is := []) (ls := [(28, 0, l28_0)]) (lvl := 0) mixed k28 Try.func28 (by kernel_rfl) (loops_cons ok28_0 noLoop) (allT_cons meets68 allT_nil) (allM_cons meets69 allM_nil) noI fun w xs us r hl hv h => ?_
  unfold m28 at h
  split at h
  · rename_i a0 a1 a2 a3 a4
    obtain ⟨h1, rfl⟩ := pair_inj h
    exact r28 a0 a1 a2 a3 a4 h1
  · cases h

/-! ### 63 loop.example/g01984/laws.eqRange -/
noncomputable def c63 : Cfg := cfg Try.prog [(63, 999, [4])] [] [] [] []
def q63 (a0_0 : Int) (a0_1 : Int) (a1_0 : Int) (a1_1 : Int) : Bool := true
def v63_0 (a0_0 : Int) (a0_1 : Int) (a1_0 : Int) (a1_1 : Int) : Bool := (bif !decide (a0_0 = a1_0) then false else (bif !decide (a0_1 = a1_1) then false else true))
theorem e63 (a0_0 : Int) (a0_1 : Int) (a1_0 : Int) (a1_1 : Int) : funA c63 0 63 [AV.agg [AV.int .i64 a0_0, AV.int .i64 a0_1], AV.agg [AV.int .i64 a1_0, AV.int .i64 a1_1]] = (bif !decide (a0_0 = a1_0) then some (AV.bool false)
  else (bif !decide (a0_1 = a1_1) then some (AV.bool false)
   else some (AV.bool true))) := by kernel_rfl
theorem r63 (a0_0 : Int) (a0_1 : Int) (a1_0 : Int) (a1_1 : Int) : funA c63 0 63 [AV.agg [AV.int .i64 a0_0, AV.int .i64 a0_1], AV.agg [AV.int .i64 a1_0, AV.int .i64 a1_1]] = some (AV.bool (v63_0 a0_0 a0_1 a1_0 a1_1)) := (e63 a0_0 a0_1 a1_0 a1_1).trans (of_tt (brT (fun b => some (AV.bool (bif b then false else (bif !decide (a0_1 = a1_1) then false else true)))) (fun _ => rfl) (brT (fun b => some (AV.bool (bif b then false else true))) (fun _ => rfl) (fun _ => rfl))))
def m63 : TModel
  | [.agg [.int .i64 a0_0, .int .i64 a0_1], .agg [.int .i64 a1_0, .int .i64 a1_1]] => some (true, AV.bool (v63_0 a0_0 a0_1 a1_0 a1_1))
  | _ => none
theorem k63 : Known Try.prog 63 := ⟨Try.f63, Try.func63, by kernel_rfl, by kernel_rfl⟩
theorem meets63 : Meets Try.prog 63 m63 := by
  refine meet (f := Try.f63) (l := []) (hs := [(63, 999, [4])]) (ts := []) (ws := []) (is := []) (ls := []) (lvl := 0) mixed k63 Try.func63 (by kernel_rfl) noLoop allT_nil allM_nil noI fun w xs us r hl hv h => ?_
  unfold m63 at h
  split at h
  · rename_i a0_0 a0_1 a1_0 a1_1
    obtain ⟨h1, rfl⟩ := pair_inj h
    exact r63 a0_0 a0_1 a1_0 a1_1
  · cases h

/-! ### 17 loop.example/g01984/laws.eqRangeS -/
def F17_0 (t0 : List AV) (t1 : List AV) (t5 : Int) : Out (Int) (Unit ⊕ Unit) := (bif decide (t5 < (t0.length : Int)) then (bif (decide (0 ≤ t5) && decide (t5 < (t0.length : Int))) then (bif (decide (0 ≤ t5) && decide (t5 < (t1.length : Int))) then (bif !(v63_0 (fI (t0.getD t5.toNat AV.undef) 0) (fI (t0.getD t5.toNat AV.undef) 1) (fI (t1.getD t5.toNat AV.undef) 0) (fI (t1.getD t5.toNat AV.undef) 1)) then .stop (.inr ())
     else .next (IntKind.i64.wrap (t5 + 1)))
    else .fail)
   else .fail)
  else .stop (.inl ()))
def R17_0 (t0 : List AV) (t1 : List AV) : (Int) → Out (Int) (Unit ⊕ Unit) := fun s : Int => F17_0 t0 t1 s
def l17_0 : LModel := fun _ _ st k => match st with
  | ⟨[(0, .sl g0 t0), (1, .sl g1 t1), (5, .int .i64 t5)], []⟩ => bif ctsEq g0 ([.int .i64, .int .i64]) && ctsEq g1 ([.int .i64, .int .i64]) then ro (runW (R17_0 t0 t1) (((t0.length : Int) - t5).toNat + 1) t5) none (sumE (fun _ : Unit => k (.exit 0) ⟨[], []⟩) (fun _ : Unit => k .ret ⟨[(4, AV.bool false)], []⟩)) else none
  | _ => none
noncomputable def c17 : Cfg := cfg Try.prog [(17, 0, [0, 1, 5]), (17, 999, [4]), (17, 1000, []), (17, 1001, [0, 1, 5])] [(63, m63)] [] [] [(17, 0, l17_0)]
theorem s17_0 (ce : CallE) (t0 : List AV) (t1 : List AV) (t5 : Int) (next : St → Option AV) (k : Kont) : stepA (codeA c17 ce [] 17 0 (sub [1, 1, 0, 1, 0, 0] (body Try.f17))) (normA [] [0, 1, 5]) next ⟨[(0, AV.sl [.int .i64, .int .i64] t0), (1, AV.sl [.int .i64, .int .i64] t1), (5, AV.int .i64 t5)], []⟩ k = (bif decide (t5 < (t0.length : Int)) then (bif (decide (0 ≤ t5) && decide (t5 < (t0.length : Int))) then (bif (decide (0 ≤ t5) && decide (t5 < (t1.length : Int))) then (bif !(v63_0 (fI (t0.getD t5.toNat AV.undef) 0) (fI (t0.getD t5.toNat AV.undef) 1) (fI (t1.getD t5.toNat AV.undef) 0) (fI (t1.getD t5.toNat AV.undef) 1)) then k .ret ⟨[(4, AV.bool false)], []⟩
     else next ⟨[(0, AV.sl [.int .i64, .int .i64] t0), (1, AV.sl [.int .i64, .int .i64] t1), (5, AV.int .i64 (IntKind.i64.wrap (t5 + 1)))], []⟩)
    else none)
   else none)
  else k (.exit 0) ⟨[], []⟩) := by kernel_rfl
theorem st17_0 (t0 : List AV) (t1 : List AV) (ce : CallE) (k : Kont) (s : Int) (next : St → Option AV) : stepA (codeA c17 ce [] 17 0 (sub [1, 1, 0, 1, 0, 0] (body Try.f17))) (normA [] [0, 1, 5]) next ((fun s : Int => ⟨[(0, AV.sl [.int .i64, .int .i64] t0), (1, AV.sl [.int .i64, .int .i64] t1), (5, AV.int .i64 s)], []⟩) s) k = (R17_0 t0 t1 s).el none (fun s => next ((fun s : Int => ⟨[(0, AV.sl [.int .i64, .int .i64] t0), (1, AV.sl [.int .i64, .int .i64] t1), (5, AV.int .i64 s)], []⟩) s)) (sumE (fun _ : Unit => k (.exit 0) ⟨[], []⟩) (fun _ : Unit => k .ret ⟨[(4, AV.bool false)], []⟩)) := (s17_0 ce t0 t1 s next k).trans (by unfold R17_0; unfold F17_0; simp only [el_cond, el_ro, el_sum, el_fail, el_next, el_stop] <;> rfl)
theorem ok17_0 : LoopOK c17 [] 17 0 (sub [1, 1, 0, 1, 0, 0] (body Try.f17)) := by
  intro m hm ce st k r h
  obtain rfl : l17_0 = m := Option.some.inj hm
  unfold l17_0 at h
  split at h
  · rename_i g0 t0 g1 t1 t5
    obtain ⟨hg, h⟩ := bif_some h
    simp only [Bool.and_eq_true] at hg
    obtain ⟨q0, q1⟩ := hg
    obtain rfl := ctsEq_eq _ _ q0
    obtain rfl := ctsEq_eq _ _ q1
    refine ⟨(((t0.length : Int) - t5).toNat + 1), ?_⟩
    rw [← h]
    exact loop_run (fun s : Int => ⟨[(0, AV.sl [.int .i64, .int .i64] t0), (1, AV.sl [.int .i64, .int .i64] t1), (5, AV.int .i64 s)], []⟩) (sumE (fun _ : Unit => k (.exit 0) ⟨[], []⟩) (fun _ : Unit => k .ret ⟨[(4, AV.bool false)], []⟩)) (st17_0 t0 t1 ce k) _ t5
  · cases h
def q17 (a0 : List AV) (a1 : List AV) : Bool := (bif !decide ((a0.length : Int) = (a1.length : Int)) then true else (ro (runW (R17_0 a0 a1) (((a0.length : Int) - 0).toNat + 1) 0) false (sumE (fun _ => true) (fun _ => true))))
def v17_0 (a0 : List AV) (a1 : List AV) : Bool := (bif !decide ((a0.length : Int) = (a1.length : Int)) then false else (ro (runW (R17_0 a0 a1) (((a0.length : Int) - 0).toNat + 1) 0) false (sumE (fun _ => true) (fun _ => false))))
theorem e17 (a0 : List AV) (a1 : List AV) : funA c17 0 17 [AV.sl [.int .i64, .int .i64] a0, AV.sl [.int .i64, .int .i64] a1] = (bif !decide ((a0.length : Int) = (a1.length : Int)) then some (AV.bool false)
  else (ro (runW (R17_0 a0 a1) (((a0.length : Int) - 0).toNat + 1) 0) none (sumE (fun _ => some (AV.bool true)) (fun _ => some (AV.bool false))))) := by kernel_rfl
theorem r17 (a0 : List AV) (a1 : List AV) (h : q17 a0 a1 = true) : funA c17 0 17 [AV.sl [.int .i64, .int .i64] a0, AV.sl [.int .i64, .int .i64] a1] = some (AV.bool (v17_0 a0 a1)) := (e17 a0 a1).trans ((br (fun b => some (AV.bool (bif b then false else (ro (runW (R17_0 a0 a1) (((a0.length : Int) - 0).toNat + 1) 0) false (sumE (fun _ => true) (fun _ => false)))))) (fun _ => rfl) (brO (fun o : Option (Unit ⊕ Unit) => some (AV.bool (ro o false (sumE (fun _ => true) (fun _ => false))))) (brS (fun o : Unit ⊕ Unit => some (AV.bool ((sumE (fun _ => true) (fun _ => false)) o))) (fun _ => (fun _ => rfl)) (fun _ => (fun _ => rfl))))) h)
def m17 : TModel
  | [.sl g0 a0, .sl g1 a1] => bif ctsEq g0 ([.int .i64, .int .i64]) && ctsEq g1 ([.int .i64, .int .i64]) then some (q17 a0 a1, AV.bool (v17_0 a0 a1)) else none
  | _ => none
theorem k17 : Known Try.prog 17 := ⟨Try.f17, Try.func17, by kernel_rfl, by kernel_rfl⟩
theorem meets17 : Meets Try.prog 17 m17 := by
  refine meet (f := Try.f17) (l := [(0, sub [1, 1, 0, 1, 0, 0] (body Try.f17))]) (hs := [(17, 0, [0, 1, 5]), (17, 999, [4]), (17, 1000, []), (17, 1001, [0, 1, 5])]) (ts := [(63, m63)]) (ws := []) (is := []) (ls := [(17, 0, l17_0)]) (lvl := 0) mixed k17 Try.func17 (by kernel_rfl) (loops_cons ok17_0 noLoop) (allT_cons meets63 allT_nil) allM_nil noI fun w xs us r hl hv h => ?_
  unfold m17 at h
  split at h
  · rename_i g0 a0 g1 a1
    obtain ⟨hg, h⟩ := bif_pair h
    simp only [Bool.and_eq_true] at hg
    obtain ⟨q0, q1⟩ := hg
    obtain rfl := ctsEq_eq _ _ q0
    obtain rfl := ctsEq_eq _ _ q1
    obtain ⟨h1, rfl⟩ := pair_inj h
    exact r17 a0 a1 h1
  · cases h

/-! ### 29 loop.example/g01984/laws.markRangeS -/
def F29_0 (t1 : Int) (t5 : Int) (h0 : List AV) : Out ((Int × Int × (List AV))) ((Int × (List AV))) := (bif decide (t5 < (h0.length : Int)) then (bif (decide (0 ≤ t5) && decide (t5 < (h0.length : Int))) then (bif (decide (0 ≤ t5) && decide (t5 < ((h0.set t5.toNat (AV.agg [AV.int .i64 t1, AV.int .i64 (fI (h0.getD t5.toNat AV.undef) 1)])).length : Int))) then .next (IntKind.i64.wrap (IntKind.i64.wrap (t1 + 1) + 1), IntKind.i64.wrap (t5 + 1), (h0.set t5.toNat (AV.agg [AV.int .i64 t1, AV.int .i64 (fI (h0.getD t5.toNat AV.undef) 1)])).set t5.toNat (AV.agg [AV.int .i64 (fI ((h0.set t5.toNat (AV.agg [AV.int .i64 t1, AV.int .i64 (fI (h0.getD t5.toNat AV.undef) 1)])).getD t5.toNat AV.undef) 0), AV.int .i64 (IntKind.i64.wrap (t1 + 1))]))
    else .fail)
   else .fail)
  else .stop (t1, h0))
def R29_0 : ((Int × Int × (List AV))) → Out ((Int × Int × (List AV))) ((Int × (List AV))) := fun s : Int × Int × (List AV) => F29_0 s.1 s.2.1 s.2.2
def l29_0 : LModel := fun _ _ st k => match st with
  | ⟨[(0, .own g0), (1, .int .i64 t1), (5, .int .i64 t5)], [(g1, ⟨false, g2, h0⟩)]⟩ => bif nmEq g0 ([1]) && nmEq g1 ([1]) && ctsEq g2 ([.int .i64, .int .i64]) then ro (runW (R29_0) (((h0.length : Int) - t5).toNat + 1) (t1, t5, h0)) none (fun p : Int × (List AV) => k (.exit 0) ⟨[(1, AV.int .i64 p.1)], [([1], ⟨false, [.int .i64, .int .i64], p.2⟩)]⟩) else none
  | _ => none
noncomputable def c29 : Cfg := cfg Try.prog [(29, 0, [0, 1, 5]), (29, 999, [4]), (29, 1000, [1]), (29, 1001, [0, 1, 5])] [] [] [] [(29, 0, l29_0)]
theorem s29_0 (ce : CallE) (t1 : Int) (t5 : Int) (h0 : List AV) (next : St → Option AV) (k : Kont) : stepA (codeA c29 ce [0] 29 0 (sub [1, 0, 1, 0, 0] (body Try.f29))) (normA [0] [0, 1, 5]) next ⟨[(0, AV.own [1]), (1, AV.int .i64 t1), (5, AV.int .i64 t5)], [([1], ⟨false, [.int .i64, .int .i64], h0⟩)]⟩ k = (bif decide (t5 < (h0.length : Int)) then (bif (decide (0 ≤ t5) && decide (t5 < (h0.length : Int))) then (bif (decide (0 ≤ t5) && decide (t5 < ((h0.set t5.toNat (AV.agg [AV.int .i64 t1, AV.int .i64 (fI (h0.getD t5.toNat AV.undef) 1)])).length : Int))) then next ⟨[(0, AV.own [1]), (1, AV.int .i64 (IntKind.i64.wrap (IntKind.i64.wrap (t1 + 1) + 1))), (5, AV.int .i64 (IntKind.i64.wrap (t5 + 1)))], [([1], ⟨false, [.int .i64, .int .i64], (h0.set t5.toNat (AV.agg [AV.int .i64 t1, AV.int .i64 (fI (h0.getD t5.toNat AV.undef) 1)])).set t5.toNat (AV.agg [AV.int .i64 (fI ((h0.set t5.toNat (AV.agg [AV.int .i64 t1, AV.int .i64 (fI (h0.getD t5.toNat AV.undef) 1)])).getD t5.toNat AV.undef) 0), AV.int .i64 (IntKind.i64.wrap (t1 + 1))])⟩)]⟩
    else none)
   else none)
  else k (.exit 0) ⟨[(1, AV.int .i64 t1)], [([1], ⟨false, [.int .i64, .int .i64], h0⟩)]⟩) := by kernel_rfl
theorem st29_0 (ce : CallE) (k : Kont) (s : (Int × Int × (List AV))) (next : St → Option AV) : stepA (codeA c29 ce [0] 29 0 (sub [1, 0, 1, 0, 0] (body Try.f29))) (normA [0] [0, 1, 5]) next ((fun s : Int × Int × (List AV) => ⟨[(0, AV.own [1]), (1, AV.int .i64 s.1), (5, AV.int .i64 s.2.1)], [([1], ⟨false, [.int .i64, .int .i64], s.2.2⟩)]⟩) s) k = (R29_0 s).el none (fun s => next ((fun s : Int × Int × (List AV) => ⟨[(0, AV.own [1]), (1, AV.int .i64 s.1), (5, AV.int .i64 s.2.1)], [([1], ⟨false, [.int .i64, .int .i64], s.2.2⟩)]⟩) s)) (fun p : Int × (List AV) => k (.exit 0) ⟨[(1, AV.int .i64 p.1)], [([1], ⟨false, [.int .i64, .int .i64], p.2⟩)]⟩) := (s29_0 ce s.1 s.2.1 s.2.2 next k).trans (by unfold R29_0; unfold F29_0; simp only [el_cond, el_ro, el_sum, el_fail, el_next, el_stop] <;> rfl)
theorem ok29_0 : LoopOK c29 [0] 29 0 (sub [1, 0, 1, 0, 0] (body Try.f29)) := by
  intro m hm ce st k r h
  obtain rfl : l29_0 = m := Option.some.inj hm
  unfold l29_0 at h
  split at h
  · rename_i g0 t1 t5 g1 g2 h0
    obtain ⟨hg, h⟩ := bif_some h
    simp only [Bool.and_eq_true] at hg
    obtain ⟨⟨q0, q1⟩, q2⟩ := hg
    obtain rfl := (nmEq_iff _ _).1 q0
    obtain rfl := (nmEq_iff _ _).1 q1
    obtain rfl := ctsEq_eq _ _ q2
    refine ⟨(((h0.length : Int) - t5).toNat + 1), ?_⟩
    rw [← h]
    exact loop_run (fun s : Int × Int × (List AV) => ⟨[(0, AV.own [1]), (1, AV.int .i64 s.1), (5, AV.int .i64 s.2.1)], [([1], ⟨false, [.int .i64, .int .i64], s.2.2⟩)]⟩) (fun p : Int × (List AV) => k (.exit 0) ⟨[(1, AV.int .i64 p.1)], [([1], ⟨false, [.int .i64, .int .i64], p.2⟩)]⟩) (st29_0 ce k) _ (t1, t5, h0)
  · cases h
def q29 (a1 : Int) (b0 : List AV) : Bool := (ro (runW (R29_0) (((b0.length : Int) - 0).toNat + 1) (a1, 0, b0)) false (fun p5 => true))
def v29_0 (a1 : Int) (b0 : List AV) : Int := (ro (runW (R29_0) (((b0.length : Int) - 0).toNat + 1) (a1, 0, b0)) 0 (fun p5 => p5.1))
def v29_1 (a1 : Int) (b0 : List AV) : List AV := (ro (runW (R29_0) (((b0.length : Int) - 0).toNat + 1) (a1, 0, b0)) [] (fun p5 => p5.2))
theorem e29 (a1 : Int) (b0 : List AV) (K : AV → List Blk → Option AV) : inlA c29 1 29 [AV.own [1], AV.int .i64 a1] [0] (canH 1 [⟨false, [.int .i64, .int .i64], b0⟩]) (keepB 1 K) = (ro (runW (R29_0) (((b0.length : Int) - 0).toNat + 1) (a1, 0, b0)) none (fun p5 => K (AV.int .i64 p5.1) [⟨false, [.int .i64, .int .i64], p5.2⟩])) := by kernel_rfl
theorem r29 (a1 : Int) (b0 : List AV) (K : AV → List Blk → Option AV) (h : q29 a1 b0 = true) : inlA c29 1 29 [AV.own [1], AV.int .i64 a1] [0] (canH 1 [⟨false, [.int .i64, .int .i64], b0⟩]) (keepB 1 K) = K (AV.int .i64 (v29_0 a1 b0)) [⟨false, [.int .i64, .int .i64], (v29_1 a1 b0)⟩] := (e29 a1 b0 K).trans ((brO (fun o : Option ((Int × (List AV))) => K (AV.int .i64 (ro o 0 (fun p5 => p5.1))) [⟨false, [.int .i64, .int .i64], (ro o [] (fun p5 => p5.2))⟩]) (fun p5 => (fun _ => rfl))) h)
def m29 : WModel
  | [.own g0, .int .i64 a1], [⟨false, g1, b0⟩] => bif nmEq g0 ([1]) && ctsEq g1 ([.int .i64, .int .i64]) then some (q29 a1 b0, AV.int .i64 (v29_0 a1 b0), [⟨false, [.int .i64, .int .i64], (v29_1 a1 b0)⟩]) else none
  | _, _ => none
theorem k29 : Known Try.prog 29 := ⟨Try.f29, Try.func29, by kernel_rfl, by kernel_rfl⟩
theorem meets29 : MeetsM Try.prog 29 m29 := by
  refine meetM (f := Try.f29) (l := [(0, sub [1, 0, 1, 0, 0] (body Try.f29))]) (hs := [(29, 0, [0, 1, 5]), (29, 999, [4]), (29, 1000, [1]), (29, 1001, [0, 1, 5])]) (ts := []) (ws := []) (is := []) (ls := [(29, 0, l29_0)]) (lvl := 0) mixed k29 Try.func29 (by kernel_rfl) (loops_cons ok29_0 noLoop) allT_nil allM_nil noI fun C w xs us bs r bs' hl hv hh h K => ?_
  unfold m29 at h
  split at h
  · rename_i g0 a1 g1 b0
    obtain ⟨hg, h⟩ := bif_pair h
    simp only [Bool.and_eq_true] at hg
    obtain ⟨q0, q1⟩ := hg
    obtain rfl := (nmEq_iff _ _).1 q0
    obtain rfl := ctsEq_eq _ _ q1
    obtain ⟨h1, rfl, rfl⟩ := trip_inj h
    exact r29 a1 b0 K h1
  · cases h

/-! ### 30 loop.example/g01984/laws.heldRangeS -/
def F30_0 (t0 : List AV) (t1 : Int) (t5 : Int) : Out ((Int × Int)) (Int ⊕ Unit) := (bif decide (t5 < (t0.length : Int)) then (bif (decide (0 ≤ t5) && decide (t5 < (t0.length : Int))) then (bif !decide (fI (t0.getD t5.toNat AV.undef) 0 = t1) then .stop (.inr ())
    else (bif (decide (0 ≤ t5) && decide (t5 < (t0.length : Int))) then (bif !decide (fI (t0.getD t5.toNat AV.undef) 1 = IntKind.i64.wrap (t1 + 1)) then .stop (.inr ())
      else .next (IntKind.i64.wrap (IntKind.i64.wrap (t1 + 1) + 1), IntKind.i64.wrap (t5 + 1)))
     else .fail))
   else .fail)
  else .stop (.inl t1))
def R30_0 (t0 : List AV) : ((Int × Int)) → Out ((Int × Int)) (Int ⊕ Unit) := fun s : Int × Int => F30_0 t0 s.1 s.2
def l30_0 : LModel := fun _ _ st k => match st with
  | ⟨[(0, .sl g0 t0), (1, .int .i64 t1), (5, .int .i64 t5)], []⟩ => bif ctsEq g0 ([.int .i64, .int .i64]) then ro (runW (R30_0 t0) (((t0.length : Int) - t5).toNat + 1) (t1, t5)) none (sumE (fun p : Int => k (.exit 0) ⟨[(1, AV.int .i64 p)], []⟩) (fun _ : Unit => k .ret ⟨[(4, AV.int .i64 (-1))], []⟩)) else none
  | _ => none
noncomputable def c30 : Cfg := cfg Try.prog [(30, 0, [0, 1, 5]), (30, 999, [4]), (30, 1000, [1]), (30, 1001, [0, 1, 5])] [] [] [] [(30, 0, l30_0)]
theorem s30_0 (ce : CallE) (t0 : List AV) (t1 : Int) (t5 : Int) (next : St → Option AV) (k : Kont) : stepA (codeA c30 ce [] 30 0 (sub [1, 0, 1, 0, 0] (body Try.f30))) (normA [] [0, 1, 5]) next ⟨[(0, AV.sl [.int .i64, .int .i64] t0), (1, AV.int .i64 t1), (5, AV.int .i64 t5)], []⟩ k = (bif decide (t5 < (t0.length : Int)) then (bif (decide (0 ≤ t5) && decide (t5 < (t0.length : Int))) then (bif !decide (fI (t0.getD t5.toNat AV.undef) 0 = t1) then k .ret ⟨[(4, AV.int .i64 (-1))], []⟩
    else (bif (decide (0 ≤ t5) && decide (t5 < (t0.length : Int))) then (bif !decide (fI (t0.getD t5.toNat AV.undef) 1 = IntKind.i64.wrap (t1 + 1)) then k .ret ⟨[(4, AV.int .i64 (-1))], []⟩
      else next ⟨[(0, AV.sl [.int .i64, .int .i64] t0), (1, AV.int .i64 (IntKind.i64.wrap (IntKind.i64.wrap (t1 + 1) + 1))), (5, AV.int .i64 (IntKind.i64.wrap (t5 + 1)))], []⟩)
     else none))
   else none)
  else k (.exit 0) ⟨[(1, AV.int .i64 t1)], []⟩) := by kernel_rfl
theorem st30_0 (t0 : List AV) (ce : CallE) (k : Kont) (s : (Int × Int)) (next : St → Option AV) : stepA (codeA c30 ce [] 30 0 (sub [1, 0, 1, 0, 0] (body Try.f30))) (normA [] [0, 1, 5]) next ((fun s : Int × Int => ⟨[(0, AV.sl [.int .i64, .int .i64] t0), (1, AV.int .i64 s.1), (5, AV.int .i64 s.2)], []⟩) s) k = (R30_0 t0 s).el none (fun s => next ((fun s : Int × Int => ⟨[(0, AV.sl [.int .i64, .int .i64] t0), (1, AV.int .i64 s.1), (5, AV.int .i64 s.2)], []⟩) s)) (sumE (fun p : Int => k (.exit 0) ⟨[(1, AV.int .i64 p)], []⟩) (fun _ : Unit => k .ret ⟨[(4, AV.int .i64 (-1))], []⟩)) := (s30_0 ce t0 s.1 s.2 next k).trans (by unfold R30_0; unfold F30_0; simp only [el_cond, el_ro, el_sum, el_fail, el_next, el_stop] <;> rfl)
theorem ok30_0 : LoopOK c30 [] 30 0 (sub [1, 0, 1, 0, 0] (body Try.f30)) := by
  intro m hm ce st k r h
  obtain rfl : l30_0 = m := Option.some.inj hm
  unfold l30_0 at h
  split at h
  · rename_i g0 t0 t1 t5
    obtain ⟨hg, h⟩ := bif_some h
    have q0 := hg
    obtain rfl := ctsEq_eq _ _ q0
    refine ⟨(((t0.length : Int) - t5).toNat + 1), ?_⟩
    rw [← h]
    exact loop_run (fun s : Int × Int => ⟨[(0, AV.sl [.int .i64, .int .i64] t0), (1, AV.int .i64 s.1), (5, AV.int .i64 s.2)], []⟩) (sumE (fun p : Int => k (.exit 0) ⟨[(1, AV.int .i64 p)], []⟩) (fun _ : Unit => k .ret ⟨[(4, AV.int .i64 (-1))], []⟩)) (st30_0 t0 ce k) _ (t1, t5)
  · cases h
def q30 (a0 : List AV) (a1 : Int) : Bool := (ro (runW (R30_0 a0) (((a0.length : Int) - 0).toNat + 1) (a1, 0)) false (sumE (fun p6 => true) (fun _ => true)))
def v30_0 (a0 : List AV) (a1 : Int) : Int := (ro (runW (R30_0 a0) (((a0.length : Int) - 0).toNat + 1) (a1, 0)) 0 (sumE (fun p6 => p6) (fun _ => (-1))))
theorem e30 (a0 : List AV) (a1 : Int) : funA c30 0 30 [AV.sl [.int .i64, .int .i64] a0, AV.int .i64 a1] = (ro (runW (R30_0 a0) (((a0.length : Int) - 0).toNat + 1) (a1, 0)) none (sumE (fun p6 => some (AV.int .i64 p6)) (fun _ => some (AV.int .i64 (-1))))) := by kernel_rfl
theorem r30 (a0 : List AV) (a1 : Int) (h : q30 a0 a1 = true) : funA c30 0 30 [AV.sl [.int .i64, .int .i64] a0, AV.int .i64 a1] = some (AV.int .i64 (v30_0 a0 a1)) := (e30 a0 a1).trans ((brO (fun o : Option (Int ⊕ Unit) => some (AV.int .i64 (ro o 0 (sumE (fun p6 => p6) (fun _ => (-1)))))) (brS (fun o : Int ⊕ Unit => some (AV.int .i64 ((sumE (fun p6 => p6) (fun _ => (-1))) o))) (fun p6 => (fun _ => rfl)) (fun _ => (fun _ => rfl)))) h)
def m30 : TModel
  | [.sl g0 a0, .int .i64 a1] => bif ctsEq g0 ([.int .i64, .int .i64]) then some (q30 a0 a1, AV.int .i64 (v30_0 a0 a1)) else none
  | _ => none
theorem k30 : Known Try.prog 30 := ⟨Try.f30, Try.func30, by kernel_rfl, by kernel_rfl⟩
theorem meets30 : Meets Try.prog 30 m30 := by
  refine meet (f := Try.f30) (l := [(0, sub [1, 0, 1, 0, 0] (body Try.f30))]) (hs := [(30, 0, [0, 1, 5]), (30, 999, [4]), (30, 1000, [1]), (30, 1001, [0, 1, 5])]) (ts := []) (ws := []) (is := []) (ls := [(30, 0, l30_0)]) (lvl := 0) mixed k30 Try.func30 (by kernel_rfl) (loops_cons ok30_0 noLoop) allT_nil allM_nil noI fun w xs us r hl hv h => ?_
  unfold m30 at h
  split at h
  · rename_i g0 a0 a1
    obtain ⟨hg, h⟩ := bif_pair h
    have q0 := hg
    obtain rfl := ctsEq_eq _ _ q0
    obtain ⟨h1, rfl⟩ := pair_inj h
    exact r30 a0 a1 h1
  · cases h

/-! ### 5 loop.example/g01984/laws.FnExactMakeWorkload -/
noncomputable def c5 : Cfg := cfg Try.prog [(5, 999, [10])] [(17, m17), (27, m27), (28, m28), (30, m30)] [(29, m29)] [] []
def q5 (a0 : Int) (a1 : Int) (a2 : Int) (a3 : Int) (a4 : Int) : Bool := (q27 a0 a1 a2 a3 a4 && (q28 a0 a1 a2 a3 a4 && (q17 (v28_0 a0 a1 a2 a3 a4) (v27_0 a0 a1 a2 a3 a4) && (bif !(v17_0 (v28_0 a0 a1 a2 a3 a4) (v27_0 a0 a1 a2 a3 a4)) then true else (q29 1 (v28_0 a0 a1 a2 a3 a4) && (q30 (v29_1 1 (v28_0 a0 a1 a2 a3 a4)) 1 && (bif decide ((v30_0 (v29_1 1 (v28_0 a0 a1 a2 a3 a4)) 1) < 0) then true else (bif !decide ((v30_0 (v29_1 1 (v28_0 a0 a1 a2 a3 a4)) 1) = (v29_0 1 (v28_0 a0 a1 a2 a3 a4))) then true else (q28 a0 a1 a2 a3 a4 && (q17 (v28_0 a0 a1 a2 a3 a4) (v27_0 a0 a1 a2 a3 a4) && (bif !(v17_0 (v28_0 a0 a1 a2 a3 a4) (v27_0 a0 a1 a2 a3 a4)) then true else q30 (v29_1 1 (v28_0 a0 a1 a2 a3 a4)) 1)))))))))))
def v5_0 (a0 : Int) (a1 : Int) (a2 : Int) (a3 : Int) (a4 : Int) : Bool := (bif !(v17_0 (v28_0 a0 a1 a2 a3 a4) (v27_0 a0 a1 a2 a3 a4)) then false else (bif decide ((v30_0 (v29_1 1 (v28_0 a0 a1 a2 a3 a4)) 1) < 0) then false else (bif !decide ((v30_0 (v29_1 1 (v28_0 a0 a1 a2 a3 a4)) 1) = (v29_0 1 (v28_0 a0 a1 a2 a3 a4))) then false else (bif !(v17_0 (v28_0 a0 a1 a2 a3 a4) (v27_0 a0 a1 a2 a3 a4)) then false else (bif decide ((v30_0 (v29_1 1 (v28_0 a0 a1 a2 a3 a4)) 1) < 0) then false else (bif !decide ((v30_0 (v29_1 1 (v28_0 a0 a1 a2 a3 a4)) 1) = (v29_0 1 (v28_0 a0 a1 a2 a3 a4))) then false else true))))))
theorem e5 (a0 : Int) (a1 : Int) (a2 : Int) (a3 : Int) (a4 : Int) : funA c5 0 5 [AV.int .i64 a0, AV.int .i64 a1, AV.int .i64 a2, AV.int .i64 a3, AV.int .i64 a4] = (bif q27 a0 a1 a2 a3 a4 then (bif q28 a0 a1 a2 a3 a4 then (bif q17 (v28_0 a0 a1 a2 a3 a4) (v27_0 a0 a1 a2 a3 a4) then (bif !(v17_0 (v28_0 a0 a1 a2 a3 a4) (v27_0 a0 a1 a2 a3 a4)) then some (AV.bool false)
     else (bif q29 1 (v28_0 a0 a1 a2 a3 a4) then (bif q30 (v29_1 1 (v28_0 a0 a1 a2 a3 a4)) 1 then (bif decide ((v30_0 (v29_1 1 (v28_0 a0 a1 a2 a3 a4)) 1) < 0) then some (AV.bool false)
        else (bif !decide ((v30_0 (v29_1 1 (v28_0 a0 a1 a2 a3 a4)) 1) = (v29_0 1 (v28_0 a0 a1 a2 a3 a4))) then some (AV.bool false)
         else (bif q28 a0 a1 a2 a3 a4 then (bif q17 (v28_0 a0 a1 a2 a3 a4) (v27_0 a0 a1 a2 a3 a4) then (bif !(v17_0 (v28_0 a0 a1 a2 a3 a4) (v27_0 a0 a1 a2 a3 a4)) then some (AV.bool false)
            else (bif q30 (v29_1 1 (v28_0 a0 a1 a2 a3 a4)) 1 then (bif decide ((v30_0 (v29_1 1 (v28_0 a0 a1 a2 a3 a4)) 1) < 0) then some (AV.bool false)
              else (bif !decide ((v30_0 (v29_1 1 (v28_0 a0 a1 a2 a3 a4)) 1) = (v29_0 1 (v28_0 a0 a1 a2 a3 a4))) then some (AV.bool false)
               else some (AV.bool true)))
             else none))
           else none)
          else none)))
       else none)
      else none))
    else none)
   else none)
  else none) := by kernel_rfl
theorem r5 (a0 : Int) (a1 : Int) (a2 : Int) (a3 : Int) (a4 : Int) (h : q5 a0 a1 a2 a3 a4 = true) : funA c5 0 5 [AV.int .i64 a0, AV.int .i64 a1, AV.int .i64 a2, AV.int .i64 a3, AV.int .i64 a4] = some (AV.bool (v5_0 a0 a1 a2 a3 a4)) := (e5 a0 a1 a2 a3 a4).trans ((brL (brL (brL (br (fun b => some (AV.bool (bif b then false else (bif decide ((v30_0 (v29_1 1 (v28_0 a0 a1 a2 a3 a4)) 1) < 0) then false else (bif !decide ((v30_0 (v29_1 1 (v28_0 a0 a1 a2 a3 a4)) 1) = (v29_0 1 (v28_0 a0 a1 a2 a3 a4))) then false else (bif !(v17_0 (v28_0 a0 a1 a2 a3 a4) (v27_0 a0 a1 a2 a3 a4)) then false else (bif decide ((v30_0 (v29_1 1 (v28_0 a0 a1 a2 a3 a4)) 1) < 0) then false else (bif !decide ((v30_0 (v29_1 1 (v28_0 a0 a1 a2 a3 a4)) 1) = (v29_0 1 (v28_0 a0 a1 a2 a3 a4))) then false else true)))))))) (fun _ => rfl) (brL (brL (br (fun b => some (AV.bool (bif b then false else (bif !decide ((v30_0 (v29_1 1 (v28_0 a0 a1 a2 a3 a4)) 1) = (v29_0 1 (v28_0 a0 a1 a2 a3 a4))) then false else (bif !(v17_0 (v28_0 a0 a1 a2 a3 a4) (v27_0 a0 a1 a2 a3 a4)) then false else (bif decide ((v30_0 (v29_1 1 (v28_0 a0 a1 a2 a3 a4)) 1) < 0) then false else (bif !decide ((v30_0 (v29_1 1 (v28_0 a0 a1 a2 a3 a4)) 1) = (v29_0 1 (v28_0 a0 a1 a2 a3 a4))) then false else true))))))) (fun _ => rfl) (br (fun b => some (AV.bool (bif b then false else (bif !(v17_0 (v28_0 a0 a1 a2 a3 a4) (v27_0 a0 a1 a2 a3 a4)) then false else (bif decide ((v30_0 (v29_1 1 (v28_0 a0 a1 a2 a3 a4)) 1) < 0) then false else (bif !decide ((v30_0 (v29_1 1 (v28_0 a0 a1 a2 a3 a4)) 1) = (v29_0 1 (v28_0 a0 a1 a2 a3 a4))) then false else true)))))) (fun _ => rfl) (brL (brL (br (fun b => some (AV.bool (bif b then false else (bif decide ((v30_0 (v29_1 1 (v28_0 a0 a1 a2 a3 a4)) 1) < 0) then false else (bif !decide ((v30_0 (v29_1 1 (v28_0 a0 a1 a2 a3 a4)) 1) = (v29_0 1 (v28_0 a0 a1 a2 a3 a4))) then false else true))))) (fun _ => rfl) (brL1 (brT (fun b => some (AV.bool (bif b then false else (bif !decide ((v30_0 (v29_1 1 (v28_0 a0 a1 a2 a3 a4)) 1) = (v29_0 1 (v28_0 a0 a1 a2 a3 a4))) then false else true)))) (fun _ => rfl) (brT (fun b => some (AV.bool (bif b then false else true))) (fun _ => rfl) (fun _ => rfl))))))))))))))) h)
def m5 : TModel
  | [.int .i64 a0, .int .i64 a1, .int .i64 a2, .int .i64 a3, .int .i64 a4] => some (q5 a0 a1 a2 a3 a4, AV.bool (v5_0 a0 a1 a2 a3 a4))
  | _ => none
theorem k5 : Known Try.prog 5 := ⟨Try.f5, Try.func5, by kernel_rfl, by kernel_rfl⟩
theorem meets5 : Meets Try.prog 5 m5 := by
  refine meet (f := Try.f5) (l := []) (hs := [(5, 999, [10])]) (ts := [(17, m17), (27, m27), (28, m28), (30, m30)]) (ws := [(29, m29)]) (is := []) (ls := []) (lvl := 0) mixed k5 Try.func5 (by kernel_rfl) noLoop (allT_cons meets17 (allT_cons meets27 (allT_cons meets28 (allT_cons meets30 allT_nil)))) (allM_cons meets29 allM_nil) noI fun w xs us r hl hv h => ?_
  unfold m5 at h
  split at h
  · rename_i a0 a1 a2 a3 a4
    obtain ⟨h1, rfl⟩ := pair_inj h
    exact r5 a0 a1 a2 a3 a4 h1
  · cases h
end Go.Proofs.Ytbomegcdjhljeaa
