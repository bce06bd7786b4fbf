/- The walk of what this claim reaches: printed by a program, each equation checked by the kernel. -/
import Derived.Test.YtiokajbmckcklaaDoorVEzc
import Derived.Test.YtiokajbmckcklaaDoorLAY4a
import Derived.Test.YtiokajbmckcklaaDoorLAY4b
import Derived.Test.YtiokajbmckcklaaDoorGL4
import Derived.Test.YtiokajbmckcklaaDoorProg
import Derived.KernelRfl
namespace Go.Proofs.YtiokajbmckcklaaDoor
open Go Go.Proofs.VE
set_option linter.unusedVariables false
set_option linter.unusedSimpArgs false
set_option maxRecDepth 100000
set_option maxHeartbeats 4000000
theorem mixed : Tryd.prog.follows .mixedOrders = true := by kernel_rfl
/-! ### 18 loop.example/g01984/laws.toOutcome -/
noncomputable def c18 : Cfg := cfg Tryd.prog [(18, 999, [2])] [] [] [] []
def q18 (a0_0 : Int) (a0_1 : Int) (a0_2 : Int) (a0_3 : Int) (a0_4 : Int) : Bool := true
def v18_0 (a0_0 : Int) (a0_1 : Int) (a0_2 : Int) (a0_3 : Int) (a0_4 : Int) : Int := a0_0
def v18_1 (a0_0 : Int) (a0_1 : Int) (a0_2 : Int) (a0_3 : Int) (a0_4 : Int) : Int := a0_1
def v18_2 (a0_0 : Int) (a0_1 : Int) (a0_2 : Int) (a0_3 : Int) (a0_4 : Int) : Int := a0_2
def v18_3 (a0_0 : Int) (a0_1 : Int) (a0_2 : Int) (a0_3 : Int) (a0_4 : Int) : Int := a0_3
def v18_4 (a0_0 : Int) (a0_1 : Int) (a0_2 : Int) (a0_3 : Int) (a0_4 : Int) : Int := a0_4
theorem e18 (a0_0 : Int) (a0_1 : Int) (a0_2 : Int) (a0_3 : Int) (a0_4 : Int) : funA c18 0 18 [AV.agg [AV.int .i64 a0_0, AV.int .i64 a0_1, AV.int .i64 a0_2, AV.int .i64 a0_3, AV.int .i64 a0_4]] = some (AV.agg [AV.int .i64 a0_0, AV.int .i64 a0_1, AV.int .i64 a0_2, AV.int .i64 a0_3, AV.int .i64 a0_4]) := by kernel_rfl
theorem r18 (a0_0 : Int) (a0_1 : Int) (a0_2 : Int) (a0_3 : Int) (a0_4 : Int) : funA c18 0 18 [AV.agg [AV.int .i64 a0_0, AV.int .i64 a0_1, AV.int .i64 a0_2, AV.int .i64 a0_3, AV.int .i64 a0_4]] = some (AV.agg [AV.int .i64 (v18_0 a0_0 a0_1 a0_2 a0_3 a0_4), AV.int .i64 (v18_1 a0_0 a0_1 a0_2 a0_3 a0_4), AV.int .i64 (v18_2 a0_0 a0_1 a0_2 a0_3 a0_4), AV.int .i64 (v18_3 a0_0 a0_1 a0_2 a0_3 a0_4), AV.int .i64 (v18_4 a0_0 a0_1 a0_2 a0_3 a0_4)]) := (e18 a0_0 a0_1 a0_2 a0_3 a0_4).trans (of_tt (fun _ => rfl))
def m18 : TModel
  | [.agg [.int .i64 a0_0, .int .i64 a0_1, .int .i64 a0_2, .int .i64 a0_3, .int .i64 a0_4]] => some (true, AV.agg [AV.int .i64 (v18_0 a0_0 a0_1 a0_2 a0_3 a0_4), AV.int .i64 (v18_1 a0_0 a0_1 a0_2 a0_3 a0_4), AV.int .i64 (v18_2 a0_0 a0_1 a0_2 a0_3 a0_4), AV.int .i64 (v18_3 a0_0 a0_1 a0_2 a0_3 a0_4), AV.int .i64 (v18_4 a0_0 a0_1 a0_2 a0_3 a0_4)])
  | _ => none
theorem k18 : Known Tryd.prog 18 := ⟨Tryd.f18, Tryd.func18, by kernel_rfl, by kernel_rfl⟩
theorem meets18 : Meets Tryd.prog 18 m18 := by
  refine meet (f := Tryd.f18) (l := []) (hs := [(18, 999, [2])]) (ts := []) (ws := []) (is := []) (ls := []) (lvl := 0) mixed k18 Tryd.func18 (by kernel_rfl) noLoop allT_nil allM_nil noI fun w xs us r hl hv h => ?_
  unfold m18 at h
  split at h
  · rename_i a0_0 a0_1 a0_2 a0_3 a0_4
    obtain ⟨h1, rfl⟩ := pair_inj h
    exact r18 a0_0 a0_1 a0_2 a0_3 a0_4
  · cases h

/-! ### 42 loop.example/g01984/spec.l1In -/
noncomputable def c42 : Cfg := cfg Tryd.prog [(42, 999, [6])] [] [] [] []
def q42 (a0 : Int) (a1 : Int) (a2 : Int) : Bool := true
def v42_0 (a0 : Int) (a1 : Int) (a2 : Int) : Bool := (bif decide (a0 ≥ a1) then decide (a0 ≤ a2) else false)
theorem e42 (a0 : Int) (a1 : Int) (a2 : Int) : funA c42 0 42 [AV.int .i64 a0, AV.int .i64 a1, AV.int .i64 a2] = (bif decide (a0 ≥ a1) then some (AV.bool (decide (a0 ≤ a2)))
  else some (AV.bool false)) := by kernel_rfl
theorem r42 (a0 : Int) (a1 : Int) (a2 : Int) : funA c42 0 42 [AV.int .i64 a0, AV.int .i64 a1, AV.int .i64 a2] = some (AV.bool (v42_0 a0 a1 a2)) := (e42 a0 a1 a2).trans (of_tt (brT (fun b => some (AV.bool (bif b then decide (a0 ≤ a2) else false))) (fun _ => rfl) (fun _ => rfl)))
def m42 : TModel
  | [.int .i64 a0, .int .i64 a1, .int .i64 a2] => some (true, AV.bool (v42_0 a0 a1 a2))
  | _ => none
theorem k42 : Known Tryd.prog 42 := ⟨Tryd.f42, Tryd.func42, by kernel_rfl, by kernel_rfl⟩
theorem meets42 : Meets Tryd.prog 42 m42 := by
  refine meet (f := Tryd.f42) (l := []) (hs := [(42, 999, [6])]) (ts := []) (ws := []) (is := []) (ls := []) (lvl := 0) mixed k42 Tryd.func42 (by kernel_rfl) noLoop allT_nil allM_nil noI fun w xs us r hl hv h => ?_
  unfold m42 at h
  split at h
  · rename_i a0 a1 a2
    obtain ⟨h1, rfl⟩ := pair_inj h
    exact r42 a0 a1 a2
  · cases h

/-! ### 48 loop.example/g01984/spec.PolicyName -/
noncomputable def c48 : Cfg := cfg Tryd.prog [(48, 999, [2])] [(42, m42)] [] [] []
def q48 (a0 : Int) : Bool := (bif !(v42_0 a0 0 2) then true else (decide (0 ≤ a0) && decide (a0 < 3)))
def v48_0 (a0 : Int) : ByteArray := (bif !(v42_0 a0 0 2) then ByteArray.empty else fS (([AV.str (ByteArray.mk #[112, 108, 97, 105, 110]), AV.str (ByteArray.mk #[99, 101, 110, 116, 101, 114]), AV.str (ByteArray.mk #[114, 97, 110, 100, 111, 109])]).getD a0.toNat AV.undef) 0)
theorem e48 (a0 : Int) : funA c48 0 48 [AV.int .i64 a0] = (bif !(v42_0 a0 0 2) then some (AV.str ByteArray.empty)
  else (bif (decide (0 ≤ a0) && decide (a0 < 3)) then some (AV.str (fS (([AV.str (ByteArray.mk #[112, 108, 97, 105, 110]), AV.str (ByteArray.mk #[99, 101, 110, 116, 101, 114]), AV.str (ByteArray.mk #[114, 97, 110, 100, 111, 109])]).getD a0.toNat AV.undef) 0))
  else none)) := by kernel_rfl
theorem r48 (a0 : Int) (h : q48 a0 = true) : funA c48 0 48 [AV.int .i64 a0] = some (AV.str (v48_0 a0)) := (e48 a0).trans ((br (fun b => some (AV.str (bif b then ByteArray.empty else fS (([AV.str (ByteArray.mk #[112, 108, 97, 105, 110]), AV.str (ByteArray.mk #[99, 101, 110, 116, 101, 114]), AV.str (ByteArray.mk #[114, 97, 110, 100, 111, 109])]).getD a0.toNat AV.undef) 0))) (fun _ => rfl) (brL1 (fun _ => rfl))) h)
def m48 : TModel
  | [.int .i64 a0] => some (q48 a0, AV.str (v48_0 a0))
  | _ => none
theorem k48 : Known Tryd.prog 48 := ⟨Tryd.f48, Tryd.func48, by kernel_rfl, by kernel_rfl⟩
theorem meets48 : Meets Tryd.prog 48 m48 := by
  refine meet (f := Tryd.f48) (l := []) (hs := [(48, 999, [2])]) (ts := [(42, m42)]) (ws := []) (is := []) (ls := []) (lvl := 0) mixed k48 Tryd.func48 (by kernel_rfl) noLoop (allT_cons meets42 allT_nil) allM_nil noI fun w xs us r hl hv h => ?_
  unfold m48 at h
  split at h
  · rename_i a0
    obtain ⟨h1, rfl⟩ := pair_inj h
    exact r48 a0 h1
  · cases h

/-! ### 43 loop.example/g01984/spec.FormatInt -/
def F43_0 (t4 : Bool) (t0 : Int) (t3 : ByteArray) : Out ((Int × ByteArray)) (ByteArray) := (bif !decide (t0 = 0) then (bif !decide (10 = 0) then (bif decide (Int.tmod t0 10 < 0) then (bif decide ((bytesA ([AV.int .u8 (IntKind.u8.wrap (IntKind.i64.wrap (48 + IntKind.i64.wrap (0 - (Int.tmod t0 10)))))])).size + t3.size ≤ 4611686018427387904) then (bif !decide (10 = 0) then .next (IntKind.i64.wrap (Int.tdiv t0 10), (bytesA ([AV.int .u8 (IntKind.u8.wrap (IntKind.i64.wrap (48 + IntKind.i64.wrap (0 - (Int.tmod t0 10)))))])) ++ t3)
  else .fail)
  else .fail)
  else (bif decide ((bytesA ([AV.int .u8 (IntKind.u8.wrap (IntKind.i64.wrap (48 + Int.tmod t0 10)))])).size + t3.size ≤ 4611686018427387904) then (bif !decide (10 = 0) then .next (IntKind.i64.wrap (Int.tdiv t0 10), (bytesA ([AV.int .u8 (IntKind.u8.wrap (IntKind.i64.wrap (48 + Int.tmod t0 10)))])) ++ t3)
  else .fail)
  else .fail))
  else .fail)
  else .stop t3)
def R43_0 (t4 : Bool) : ((Int × ByteArray)) → Out ((Int × ByteArray)) (ByteArray) := fun s : Int × ByteArray => F43_0 t4 s.1 s.2
def l43_0 : LModel := fun _ _ st k => match st with
  | ⟨[(0, .int .i64 t0), (3, .str t3), (4, .bool t4)], []⟩ => ro (runW (R43_0 t4) (t0.natAbs + 1) (t0, t3)) none (fun p : ByteArray => k (.exit 0) ⟨[(3, AV.str p), (4, AV.bool t4)], []⟩)
  | _ => none
noncomputable def c43 : Cfg := cfg Tryd.prog [(43, 0, [0, 3, 4]), (43, 999, [2]), (43, 1000, [3, 4]), (43, 1001, [0, 3, 4])] [] [] [] [(43, 0, l43_0)]
theorem s43_0 (ce : CallE) (t0 : Int) (t3 : ByteArray) (t4 : Bool) (next : St → Option AV) (k : Kont) : stepA (codeA c43 ce [] 43 0 (sub [1, 1, 1, 1, 0, 0, 0] (body Tryd.f43))) (normA [] [0, 3, 4]) next ⟨[(0, AV.int .i64 t0), (3, AV.str t3), (4, AV.bool t4)], []⟩ k = (bif !decide (t0 = 0) then (bif !decide (10 = 0) then (bif decide (Int.tmod t0 10 < 0) then (bif decide ((bytesA ([AV.int .u8 (IntKind.u8.wrap (IntKind.i64.wrap (48 + IntKind.i64.wrap (0 - (Int.tmod t0 10)))))])).size + t3.size ≤ 4611686018427387904) then (bif !decide (10 = 0) then next ⟨[(0, AV.int .i64 (IntKind.i64.wrap (Int.tdiv t0 10))), (3, AV.str ((bytesA ([AV.int .u8 (IntKind.u8.wrap (IntKind.i64.wrap (48 + IntKind.i64.wrap (0 - (Int.tmod t0 10)))))])) ++ t3)), (4, AV.bool t4)], []⟩
  else none)
  else none)
  else (bif decide ((bytesA ([AV.int .u8 (IntKind.u8.wrap (IntKind.i64.wrap (48 + Int.tmod t0 10)))])).size + t3.size ≤ 4611686018427387904) then (bif !decide (10 = 0) then next ⟨[(0, AV.int .i64 (IntKind.i64.wrap (Int.tdiv t0 10))), (3, AV.str ((bytesA ([AV.int .u8 (IntKind.u8.wrap (IntKind.i64.wrap (48 + Int.tmod t0 10)))])) ++ t3)), (4, AV.bool t4)], []⟩
  else none)
  else none))
  else none)
  else k (.exit 0) ⟨[(3, AV.str t3), (4, AV.bool t4)], []⟩) := by kernel_rfl
theorem st43_0 (t4 : Bool) (ce : CallE) (k : Kont) (s : (Int × ByteArray)) (next : St → Option AV) : stepA (codeA c43 ce [] 43 0 (sub [1, 1, 1, 1, 0, 0, 0] (body Tryd.f43))) (normA [] [0, 3, 4]) next ((fun s : Int × ByteArray => ⟨[(0, AV.int .i64 s.1), (3, AV.str s.2), (4, AV.bool t4)], []⟩) s) k = (R43_0 t4 s).el none (fun s => next ((fun s : Int × ByteArray => ⟨[(0, AV.int .i64 s.1), (3, AV.str s.2), (4, AV.bool t4)], []⟩) s)) (fun p : ByteArray => k (.exit 0) ⟨[(3, AV.str p), (4, AV.bool t4)], []⟩) := (s43_0 ce s.1 s.2 t4 next k).trans (by unfold R43_0; unfold F43_0; simp only [el_cond, el_ro, el_sum, el_fail, el_next, el_stop] <;> rfl)
theorem ok43_0 {ce : CallE} : LoopOK c43 ce [] 43 0 (sub [1, 1, 1, 1, 0, 0, 0] (body Tryd.f43)) := by
  intro m hm st k r h
  obtain rfl : l43_0 = m := Option.some.inj hm
  unfold l43_0 at h
  split at h
  · rename_i t0 t3 t4
    refine ⟨(t0.natAbs + 1), ?_⟩
    rw [← h]
    exact loop_run (fun s : Int × ByteArray => ⟨[(0, AV.int .i64 s.1), (3, AV.str s.2), (4, AV.bool t4)], []⟩) (fun p : ByteArray => k (.exit 0) ⟨[(3, AV.str p), (4, AV.bool t4)], []⟩) (st43_0 t4 ce k) _ (t0, t3)
  · cases h
def q43 (a0 : Int) : Bool := (bif decide (a0 = 0) then true else (ro (runW (R43_0 (decide (a0 < 0))) (a0.natAbs + 1) (a0, ByteArray.empty)) false (fun p1 => (bif decide (a0 < 0) then decide ((ByteArray.mk #[45]).size + p1.size ≤ 4611686018427387904) else true))))
def v43_0 (a0 : Int) : ByteArray := (bif decide (a0 = 0) then (ByteArray.mk #[48]) else (ro (runW (R43_0 (decide (a0 < 0))) (a0.natAbs + 1) (a0, ByteArray.empty)) ByteArray.empty (fun p1 => (bif decide (a0 < 0) then (ByteArray.mk #[45]) ++ p1 else p1))))
theorem e43 (a0 : Int) : funA c43 0 43 [AV.int .i64 a0] = (bif decide (a0 = 0) then some (AV.str (ByteArray.mk #[48]))
  else (ro (runW (R43_0 (decide (a0 < 0))) (a0.natAbs + 1) (a0, ByteArray.empty)) none (fun p1 => (bif decide (a0 < 0) then (bif decide ((ByteArray.mk #[45]).size + p1.size ≤ 4611686018427387904) then some (AV.str ((ByteArray.mk #[45]) ++ p1))
  else none)
  else some (AV.str p1))))) := by kernel_rfl
theorem r43 (a0 : Int) (h : q43 a0 = true) : funA c43 0 43 [AV.int .i64 a0] = some (AV.str (v43_0 a0)) := (e43 a0).trans ((br (fun b => some (AV.str (bif b then (ByteArray.mk #[48]) else (ro (runW (R43_0 (decide (a0 < 0))) (a0.natAbs + 1) (a0, ByteArray.empty)) ByteArray.empty (fun p1 => (bif decide (a0 < 0) then (ByteArray.mk #[45]) ++ p1 else p1)))))) (fun _ => rfl) (brO (fun o : Option (ByteArray) => some (AV.str (ro o ByteArray.empty (fun p1 => (bif decide (a0 < 0) then (ByteArray.mk #[45]) ++ p1 else p1))))) (fun p1 => (br (fun b => some (AV.str (bif b then (ByteArray.mk #[45]) ++ p1 else p1))) (brL1 (fun _ => rfl)) (fun _ => rfl))))) h)
def m43 : TModel
  | [.int .i64 a0] => some (q43 a0, AV.str (v43_0 a0))
  | _ => none
theorem k43 : Known Tryd.prog 43 := ⟨Tryd.f43, Tryd.func43, by kernel_rfl, by kernel_rfl⟩
theorem meets43 : Meets Tryd.prog 43 m43 := by
  refine meet (f := Tryd.f43) (l := [(0, sub [1, 1, 1, 1, 0, 0, 0] (body Tryd.f43))]) (hs := [(43, 0, [0, 3, 4]), (43, 999, [2]), (43, 1000, [3, 4]), (43, 1001, [0, 3, 4])]) (ts := []) (ws := []) (is := []) (ls := [(43, 0, l43_0)]) (lvl := 0) mixed k43 Tryd.func43 (by kernel_rfl) (loops_cons ok43_0 noLoop) allT_nil allM_nil noI fun w xs us r hl hv h => ?_
  unfold m43 at h
  split at h
  · rename_i a0
    obtain ⟨h1, rfl⟩ := pair_inj h
    exact r43 a0 h1
  · cases h

/-! ### 17 loop.example/g01984/spec.FormatOutcome -/
noncomputable def c17 : Cfg := cfg Tryd.prog [(17, 999, [2])] [(43, m43), (48, m48)] [] [] []
def q17 (a0_0 : Int) (a0_1 : Int) (a0_2 : Int) (a0_3 : Int) (a0_4 : Int) : Bool := (q48 a0_0 && (bif ((v48_0 a0_0).toList == ByteArray.empty.toList) then true else (q48 a0_0 && (decide ((v48_0 a0_0).size + (ByteArray.mk #[32, 115, 119, 97, 112, 115, 32]).size ≤ 4611686018427387904) && (q43 a0_1 && (decide (((v48_0 a0_0) ++ (ByteArray.mk #[32, 115, 119, 97, 112, 115, 32])).size + (v43_0 a0_1).size ≤ 4611686018427387904) && (decide ((((v48_0 a0_0) ++ (ByteArray.mk #[32, 115, 119, 97, 112, 115, 32])) ++ (v43_0 a0_1)).size + (ByteArray.mk #[32, 119, 111, 114, 115, 116, 32]).size ≤ 4611686018427387904) && (q43 a0_2 && (decide (((((v48_0 a0_0) ++ (ByteArray.mk #[32, 115, 119, 97, 112, 115, 32])) ++ (v43_0 a0_1)) ++ (ByteArray.mk #[32, 119, 111, 114, 115, 116, 32])).size + (v43_0 a0_2).size ≤ 4611686018427387904) && (decide ((((((v48_0 a0_0) ++ (ByteArray.mk #[32, 115, 119, 97, 112, 115, 32])) ++ (v43_0 a0_1)) ++ (ByteArray.mk #[32, 119, 111, 114, 115, 116, 32])) ++ (v43_0 a0_2)).size + (ByteArray.mk #[32, 112, 105, 101, 99, 101, 115, 32]).size ≤ 4611686018427387904) && (q43 a0_3 && (decide (((((((v48_0 a0_0) ++ (ByteArray.mk #[32, 115, 119, 97, 112, 115, 32])) ++ (v43_0 a0_1)) ++ (ByteArray.mk #[32, 119, 111, 114, 115, 116, 32])) ++ (v43_0 a0_2)) ++ (ByteArray.mk #[32, 112, 105, 101, 99, 101, 115, 32])).size + (v43_0 a0_3).size ≤ 4611686018427387904) && (decide ((((((((v48_0 a0_0) ++ (ByteArray.mk #[32, 115, 119, 97, 112, 115, 32])) ++ (v43_0 a0_1)) ++ (ByteArray.mk #[32, 119, 111, 114, 115, 116, 32])) ++ (v43_0 a0_2)) ++ (ByteArray.mk #[32, 112, 105, 101, 99, 101, 115, 32])) ++ (v43_0 a0_3)).size + (ByteArray.mk #[32, 108, 97, 114, 103, 101, 115, 116, 32]).size ≤ 4611686018427387904) && (q43 a0_4 && decide (((((((((v48_0 a0_0) ++ (ByteArray.mk #[32, 115, 119, 97, 112, 115, 32])) ++ (v43_0 a0_1)) ++ (ByteArray.mk #[32, 119, 111, 114, 115, 116, 32])) ++ (v43_0 a0_2)) ++ (ByteArray.mk #[32, 112, 105, 101, 99, 101, 115, 32])) ++ (v43_0 a0_3)) ++ (ByteArray.mk #[32, 108, 97, 114, 103, 101, 115, 116, 32])).size + (v43_0 a0_4).size ≤ 4611686018427387904)))))))))))))))
def v17_0 (a0_0 : Int) (a0_1 : Int) (a0_2 : Int) (a0_3 : Int) (a0_4 : Int) : ByteArray := (bif ((v48_0 a0_0).toList == ByteArray.empty.toList) then ByteArray.empty else ((((((((v48_0 a0_0) ++ (ByteArray.mk #[32, 115, 119, 97, 112, 115, 32])) ++ (v43_0 a0_1)) ++ (ByteArray.mk #[32, 119, 111, 114, 115, 116, 32])) ++ (v43_0 a0_2)) ++ (ByteArray.mk #[32, 112, 105, 101, 99, 101, 115, 32])) ++ (v43_0 a0_3)) ++ (ByteArray.mk #[32, 108, 97, 114, 103, 101, 115, 116, 32])) ++ (v43_0 a0_4))
theorem e17 (a0_0 : Int) (a0_1 : Int) (a0_2 : Int) (a0_3 : Int) (a0_4 : Int) : funA c17 0 17 [AV.agg [AV.int .i64 a0_0, AV.int .i64 a0_1, AV.int .i64 a0_2, AV.int .i64 a0_3, AV.int .i64 a0_4]] = (bif q48 a0_0 then (bif ((v48_0 a0_0).toList == ByteArray.empty.toList) then some (AV.str ByteArray.empty)
  else (bif q48 a0_0 then (bif decide ((v48_0 a0_0).size + (ByteArray.mk #[32, 115, 119, 97, 112, 115, 32]).size ≤ 4611686018427387904) then (bif q43 a0_1 then (bif decide (((v48_0 a0_0) ++ (ByteArray.mk #[32, 115, 119, 97, 112, 115, 32])).size + (v43_0 a0_1).size ≤ 4611686018427387904) then (bif decide ((((v48_0 a0_0) ++ (ByteArray.mk #[32, 115, 119, 97, 112, 115, 32])) ++ (v43_0 a0_1)).size + (ByteArray.mk #[32, 119, 111, 114, 115, 116, 32]).size ≤ 4611686018427387904) then (bif q43 a0_2 then (bif decide (((((v48_0 a0_0) ++ (ByteArray.mk #[32, 115, 119, 97, 112, 115, 32])) ++ (v43_0 a0_1)) ++ (ByteArray.mk #[32, 119, 111, 114, 115, 116, 32])).size + (v43_0 a0_2).size ≤ 4611686018427387904) then (bif decide ((((((v48_0 a0_0) ++ (ByteArray.mk #[32, 115, 119, 97, 112, 115, 32])) ++ (v43_0 a0_1)) ++ (ByteArray.mk #[32, 119, 111, 114, 115, 116, 32])) ++ (v43_0 a0_2)).size + (ByteArray.mk #[32, 112, 105, 101, 99, 101, 115, 32]).size ≤ 4611686018427387904) then (bif q43 a0_3 then (bif decide (((((((v48_0 a0_0) ++ (ByteArray.mk #[32, 115, 119, 97, 112, 115, 32])) ++ (v43_0 a0_1)) ++ (ByteArray.mk #[32, 119, 111, 114, 115, 116, 32])) ++ (v43_0 a0_2)) ++ (ByteArray.mk #[32, 112, 105, 101, 99, 101, 115, 32])).size + (v43_0 a0_3).size ≤ 4611686018427387904) then (bif decide ((((((((v48_0 a0_0) ++ (ByteArray.mk #[32, 115, 119, 97, 112, 115, 32])) ++ (v43_0 a0_1)) ++ (ByteArray.mk #[32, 119, 111, 114, 115, 116, 32])) ++ (v43_0 a0_2)) ++ (ByteArray.mk #[32, 112, 105, 101, 99, 101, 115, 32])) ++ (v43_0 a0_3)).size + (ByteArray.mk #[32, 108, 97, 114, 103, 101, 115, 116, 32]).size ≤ 4611686018427387904) then (bif q43 a0_4 then (bif decide (((((((((v48_0 a0_0) ++ (ByteArray.mk #[32, 115, 119, 97, 112, 115, 32])) ++ (v43_0 a0_1)) ++ (ByteArray.mk #[32, 119, 111, 114, 115, 116, 32])) ++ (v43_0 a0_2)) ++ (ByteArray.mk #[32, 112, 105, 101, 99, 101, 115, 32])) ++ (v43_0 a0_3)) ++ (ByteArray.mk #[32, 108, 97, 114, 103, 101, 115, 116, 32])).size + (v43_0 a0_4).size ≤ 4611686018427387904) then some (AV.str (((((((((v48_0 a0_0) ++ (ByteArray.mk #[32, 115, 119, 97, 112, 115, 32])) ++ (v43_0 a0_1)) ++ (ByteArray.mk #[32, 119, 111, 114, 115, 116, 32])) ++ (v43_0 a0_2)) ++ (ByteArray.mk #[32, 112, 105, 101, 99, 101, 115, 32])) ++ (v43_0 a0_3)) ++ (ByteArray.mk #[32, 108, 97, 114, 103, 101, 115, 116, 32])) ++ (v43_0 a0_4)))
  else none)
  else none)
  else none)
  else none)
  else none)
  else none)
  else none)
  else none)
  else none)
  else none)
  else none)
  else none)
  else none))
  else none) := by kernel_rfl
theorem r17 (a0_0 : Int) (a0_1 : Int) (a0_2 : Int) (a0_3 : Int) (a0_4 : Int) (h : q17 a0_0 a0_1 a0_2 a0_3 a0_4 = true) : funA c17 0 17 [AV.agg [AV.int .i64 a0_0, AV.int .i64 a0_1, AV.int .i64 a0_2, AV.int .i64 a0_3, AV.int .i64 a0_4]] = some (AV.str (v17_0 a0_0 a0_1 a0_2 a0_3 a0_4)) := (e17 a0_0 a0_1 a0_2 a0_3 a0_4).trans ((brL (br (fun b => some (AV.str (bif b then ByteArray.empty else ((((((((v48_0 a0_0) ++ (ByteArray.mk #[32, 115, 119, 97, 112, 115, 32])) ++ (v43_0 a0_1)) ++ (ByteArray.mk #[32, 119, 111, 114, 115, 116, 32])) ++ (v43_0 a0_2)) ++ (ByteArray.mk #[32, 112, 105, 101, 99, 101, 115, 32])) ++ (v43_0 a0_3)) ++ (ByteArray.mk #[32, 108, 97, 114, 103, 101, 115, 116, 32])) ++ (v43_0 a0_4)))) (fun _ => rfl) (brL (brL (brL (brL (brL (brL (brL (brL (brL (brL (brL (brL (brL1 (fun _ => rfl)))))))))))))))) h)
def m17 : TModel
  | [.agg [.int .i64 a0_0, .int .i64 a0_1, .int .i64 a0_2, .int .i64 a0_3, .int .i64 a0_4]] => some (q17 a0_0 a0_1 a0_2 a0_3 a0_4, AV.str (v17_0 a0_0 a0_1 a0_2 a0_3 a0_4))
  | _ => none
theorem k17 : Known Tryd.prog 17 := ⟨Tryd.f17, Tryd.func17, by kernel_rfl, by kernel_rfl⟩
theorem meets17 : Meets Tryd.prog 17 m17 := by
  refine meet (f := Tryd.f17) (l := []) (hs := [(17, 999, [2])]) (ts := [(43, m43), (48, m48)]) (ws := []) (is := []) (ls := []) (lvl := 0) mixed k17 Tryd.func17 (by kernel_rfl) noLoop (allT_cons meets43 (allT_cons meets48 allT_nil)) allM_nil noI fun w xs us r hl hv h => ?_
  unfold m17 at h
  split at h
  · rename_i a0_0 a0_1 a0_2 a0_3 a0_4
    obtain ⟨h1, rfl⟩ := pair_inj h
    exact r17 a0_0 a0_1 a0_2 a0_3 a0_4 h1
  · cases h

/-! ### 49 loop.example/g01984/impl.PolicyName -/
noncomputable def c49 : Cfg := cfg Tryd.prog [(49, 999, [2])] [] [] [] []
def q49 (a0 : Int) : Bool := (bif decide (a0 < 0) then true else (bif decide (a0 > 2) then true else (decide (0 ≤ a0) && decide (a0 < 3))))
def v49_0 (a0 : Int) : ByteArray := (bif decide (a0 < 0) then ByteArray.empty else (bif decide (a0 > 2) then ByteArray.empty else fS (([AV.str (ByteArray.mk #[112, 108, 97, 105, 110]), AV.str (ByteArray.mk #[99, 101, 110, 116, 101, 114]), AV.str (ByteArray.mk #[114, 97, 110, 100, 111, 109])]).getD a0.toNat AV.undef) 0))
theorem e49 (a0 : Int) : funA c49 0 49 [AV.int .i64 a0] = (bif decide (a0 < 0) then some (AV.str ByteArray.empty)
  else (bif decide (a0 > 2) then some (AV.str ByteArray.empty)
  else (bif (decide (0 ≤ a0) && decide (a0 < 3)) then some (AV.str (fS (([AV.str (ByteArray.mk #[112, 108, 97, 105, 110]), AV.str (ByteArray.mk #[99, 101, 110, 116, 101, 114]), AV.str (ByteArray.mk #[114, 97, 110, 100, 111, 109])]).getD a0.toNat AV.undef) 0))
  else none))) := by kernel_rfl
theorem r49 (a0 : Int) (h : q49 a0 = true) : funA c49 0 49 [AV.int .i64 a0] = some (AV.str (v49_0 a0)) := (e49 a0).trans ((br (fun b => some (AV.str (bif b then ByteArray.empty else (bif decide (a0 > 2) then ByteArray.empty else fS (([AV.str (ByteArray.mk #[112, 108, 97, 105, 110]), AV.str (ByteArray.mk #[99, 101, 110, 116, 101, 114]), AV.str (ByteArray.mk #[114, 97, 110, 100, 111, 109])]).getD a0.toNat AV.undef) 0)))) (fun _ => rfl) (br (fun b => some (AV.str (bif b then ByteArray.empty else fS (([AV.str (ByteArray.mk #[112, 108, 97, 105, 110]), AV.str (ByteArray.mk #[99, 101, 110, 116, 101, 114]), AV.str (ByteArray.mk #[114, 97, 110, 100, 111, 109])]).getD a0.toNat AV.undef) 0))) (fun _ => rfl) (brL1 (fun _ => rfl)))) h)
def m49 : TModel
  | [.int .i64 a0] => some (q49 a0, AV.str (v49_0 a0))
  | _ => none
theorem k49 : Known Tryd.prog 49 := ⟨Tryd.f49, Tryd.func49, by kernel_rfl, by kernel_rfl⟩
theorem meets49 : Meets Tryd.prog 49 m49 := by
  refine meet (f := Tryd.f49) (l := []) (hs := [(49, 999, [2])]) (ts := []) (ws := []) (is := []) (ls := []) (lvl := 0) mixed k49 Tryd.func49 (by kernel_rfl) noLoop allT_nil allM_nil noI fun w xs us r hl hv h => ?_
  unfold m49 at h
  split at h
  · rename_i a0
    obtain ⟨h1, rfl⟩ := pair_inj h
    exact r49 a0 h1
  · cases h

/-! ### 78 strconv.Itoa -/
def q78 (a0 : Int) : Bool := decide (-9223372036854775808 ≤ a0) && decide (a0 ≤ 9223372036854775807)
def v78_0 (a0 : Int) : ByteArray := itoaB a0
def m78 : TModel := itoaM
theorem k78 : Known Tryd.prog 78 := ⟨Tryd.f78, Tryd.func78, by kernel_rfl, by kernel_rfl⟩
theorem meets78 : Meets Tryd.prog 78 m78 := itoa_meets ⟨k78, fun n w h0 h1 hG => Any.strconv_Itoa lays171 n h0 h1 w hG⟩

/-! ### 44 loop.example/g01984/impl.FormatInt -/
noncomputable def c44 : Cfg := cfg Tryd.prog [(44, 999, [2])] [(78, m78)] [] [] []
def q44 (a0 : Int) : Bool := q78 a0
def v44_0 (a0 : Int) : ByteArray := (v78_0 a0)
theorem e44 (a0 : Int) : funA c44 0 44 [AV.int .i64 a0] = (bif q78 a0 then some (AV.str (v78_0 a0))
  else none) := by kernel_rfl
theorem r44 (a0 : Int) (h : q44 a0 = true) : funA c44 0 44 [AV.int .i64 a0] = some (AV.str (v44_0 a0)) := (e44 a0).trans ((brL1 (fun _ => rfl)) h)
def m44 : TModel
  | [.int .i64 a0] => some (q44 a0, AV.str (v44_0 a0))
  | _ => none
theorem k44 : Known Tryd.prog 44 := ⟨Tryd.f44, Tryd.func44, by kernel_rfl, by kernel_rfl⟩
theorem meets44 : Meets Tryd.prog 44 m44 := by
  refine meet (f := Tryd.f44) (l := []) (hs := [(44, 999, [2])]) (ts := [(78, m78)]) (ws := []) (is := []) (ls := []) (lvl := 0) mixed k44 Tryd.func44 (by kernel_rfl) noLoop (allT_cons meets78 allT_nil) allM_nil noI fun w xs us r hl hv h => ?_
  unfold m44 at h
  split at h
  · rename_i a0
    obtain ⟨h1, rfl⟩ := pair_inj h
    exact r44 a0 h1
  · cases h

/-! ### 50 strings.Join -/
def q50 (a0 : List AV) (a1 : ByteArray) : Bool := decide (a0.length ≤ 140737488355328) && decide ((joinB a0 a1).size ≤ 140737488355328)
def v50_0 (a0 : List AV) (a1 : ByteArray) : ByteArray := joinB a0 a1
def m50 : TModel := joinM
theorem k50 : Known Tryd.prog 50 := ⟨Tryd.f50, Tryd.func50, by kernel_rfl, by kernel_rfl⟩
theorem meets50 : Meets Tryd.prog 50 m50 := join_meets ⟨k50, fun a c sep w => Any.strings_Join_none lays156 extra156 a c sep w, fun bk o c xs sep w h1 h2 h3 h4 h5 => Any.strings_Join lays156 extra156 bk o c xs sep w h1 h2 h3 h4 h5⟩

/-! ### 19 loop.example/g01984/impl.FormatOutcome -/
noncomputable def c19 : Cfg := cfg Tryd.prog [(19, 999, [2])] [(44, m44), (49, m49), (50, m50)] [] [] []
def q19 (a0_0 : Int) (a0_1 : Int) (a0_2 : Int) (a0_3 : Int) (a0_4 : Int) : Bool := (q49 a0_0 && (bif ((v49_0 a0_0).toList == ByteArray.empty.toList) then true else (q44 a0_1 && (q44 a0_2 && (q44 a0_3 && (q44 a0_4 && q50 ([AV.str (v49_0 a0_0), AV.str (ByteArray.mk #[115, 119, 97, 112, 115]), AV.str (v44_0 a0_1), AV.str (ByteArray.mk #[119, 111, 114, 115, 116]), AV.str (v44_0 a0_2), AV.str (ByteArray.mk #[112, 105, 101, 99, 101, 115]), AV.str (v44_0 a0_3), AV.str (ByteArray.mk #[108, 97, 114, 103, 101, 115, 116]), AV.str (v44_0 a0_4)]) (ByteArray.mk #[32])))))))
def v19_0 (a0_0 : Int) (a0_1 : Int) (a0_2 : Int) (a0_3 : Int) (a0_4 : Int) : ByteArray := (bif ((v49_0 a0_0).toList == ByteArray.empty.toList) then ByteArray.empty else (v50_0 ([AV.str (v49_0 a0_0), AV.str (ByteArray.mk #[115, 119, 97, 112, 115]), AV.str (v44_0 a0_1), AV.str (ByteArray.mk #[119, 111, 114, 115, 116]), AV.str (v44_0 a0_2), AV.str (ByteArray.mk #[112, 105, 101, 99, 101, 115]), AV.str (v44_0 a0_3), AV.str (ByteArray.mk #[108, 97, 114, 103, 101, 115, 116]), AV.str (v44_0 a0_4)]) (ByteArray.mk #[32])))
theorem e19 (a0_0 : Int) (a0_1 : Int) (a0_2 : Int) (a0_3 : Int) (a0_4 : Int) : funA c19 0 19 [AV.agg [AV.int .i64 a0_0, AV.int .i64 a0_1, AV.int .i64 a0_2, AV.int .i64 a0_3, AV.int .i64 a0_4]] = (bif q49 a0_0 then (bif ((v49_0 a0_0).toList == ByteArray.empty.toList) then some (AV.str ByteArray.empty)
  else (bif q44 a0_1 then (bif q44 a0_2 then (bif q44 a0_3 then (bif q44 a0_4 then (bif q50 ([AV.str (v49_0 a0_0), AV.str (ByteArray.mk #[115, 119, 97, 112, 115]), AV.str (v44_0 a0_1), AV.str (ByteArray.mk #[119, 111, 114, 115, 116]), AV.str (v44_0 a0_2), AV.str (ByteArray.mk #[112, 105, 101, 99, 101, 115]), AV.str (v44_0 a0_3), AV.str (ByteArray.mk #[108, 97, 114, 103, 101, 115, 116]), AV.str (v44_0 a0_4)]) (ByteArray.mk #[32]) then some (AV.str (v50_0 ([AV.str (v49_0 a0_0), AV.str (ByteArray.mk #[115, 119, 97, 112, 115]), AV.str (v44_0 a0_1), AV.str (ByteArray.mk #[119, 111, 114, 115, 116]), AV.str (v44_0 a0_2), AV.str (ByteArray.mk #[112, 105, 101, 99, 101, 115]), AV.str (v44_0 a0_3), AV.str (ByteArray.mk #[108, 97, 114, 103, 101, 115, 116]), AV.str (v44_0 a0_4)]) (ByteArray.mk #[32])))
  else none)
  else none)
  else none)
  else none)
  else none))
  else none) := by kernel_rfl
theorem r19 (a0_0 : Int) (a0_1 : Int) (a0_2 : Int) (a0_3 : Int) (a0_4 : Int) (h : q19 a0_0 a0_1 a0_2 a0_3 a0_4 = true) : funA c19 0 19 [AV.agg [AV.int .i64 a0_0, AV.int .i64 a0_1, AV.int .i64 a0_2, AV.int .i64 a0_3, AV.int .i64 a0_4]] = some (AV.str (v19_0 a0_0 a0_1 a0_2 a0_3 a0_4)) := (e19 a0_0 a0_1 a0_2 a0_3 a0_4).trans ((brL (br (fun b => some (AV.str (bif b then ByteArray.empty else (v50_0 ([AV.str (v49_0 a0_0), AV.str (ByteArray.mk #[115, 119, 97, 112, 115]), AV.str (v44_0 a0_1), AV.str (ByteArray.mk #[119, 111, 114, 115, 116]), AV.str (v44_0 a0_2), AV.str (ByteArray.mk #[112, 105, 101, 99, 101, 115]), AV.str (v44_0 a0_3), AV.str (ByteArray.mk #[108, 97, 114, 103, 101, 115, 116]), AV.str (v44_0 a0_4)]) (ByteArray.mk #[32]))))) (fun _ => rfl) (brL (brL (brL (brL (brL1 (fun _ => rfl)))))))) h)
def m19 : TModel
  | [.agg [.int .i64 a0_0, .int .i64 a0_1, .int .i64 a0_2, .int .i64 a0_3, .int .i64 a0_4]] => some (q19 a0_0 a0_1 a0_2 a0_3 a0_4, AV.str (v19_0 a0_0 a0_1 a0_2 a0_3 a0_4))
  | _ => none
theorem k19 : Known Tryd.prog 19 := ⟨Tryd.f19, Tryd.func19, by kernel_rfl, by kernel_rfl⟩
theorem meets19 : Meets Tryd.prog 19 m19 := by
  refine meet (f := Tryd.f19) (l := []) (hs := [(19, 999, [2])]) (ts := [(44, m44), (49, m49), (50, m50)]) (ws := []) (is := []) (ls := []) (lvl := 0) mixed k19 Tryd.func19 (by kernel_rfl) noLoop (allT_cons meets44 (allT_cons meets49 (allT_cons meets50 allT_nil))) allM_nil noI fun w xs us r hl hv h => ?_
  unfold m19 at h
  split at h
  · rename_i a0_0 a0_1 a0_2 a0_3 a0_4
    obtain ⟨h1, rfl⟩ := pair_inj h
    exact r19 a0_0 a0_1 a0_2 a0_3 a0_4 h1
  · cases h

/-! ### 5 loop.example/g01984/laws.FnExactFormatOutcome -/
noncomputable def c5 : Cfg := cfg Tryd.prog [(5, 999, [2])] [(17, m17), (18, m18), (19, m19)] [] [] []
def raw5 (a0_0 : Int) (a0_1 : Int) (a0_2 : Int) (a0_3 : Int) (a0_4 : Int) : Option AV := (bif q17 (v18_0 a0_0 a0_1 a0_2 a0_3 a0_4) (v18_1 a0_0 a0_1 a0_2 a0_3 a0_4) (v18_2 a0_0 a0_1 a0_2 a0_3 a0_4) (v18_3 a0_0 a0_1 a0_2 a0_3 a0_4) (v18_4 a0_0 a0_1 a0_2 a0_3 a0_4) then (bif q19 (v18_0 a0_0 a0_1 a0_2 a0_3 a0_4) (v18_1 a0_0 a0_1 a0_2 a0_3 a0_4) (v18_2 a0_0 a0_1 a0_2 a0_3 a0_4) (v18_3 a0_0 a0_1 a0_2 a0_3 a0_4) (v18_4 a0_0 a0_1 a0_2 a0_3 a0_4) then (bif !((v19_0 (v18_0 a0_0 a0_1 a0_2 a0_3 a0_4) (v18_1 a0_0 a0_1 a0_2 a0_3 a0_4) (v18_2 a0_0 a0_1 a0_2 a0_3 a0_4) (v18_3 a0_0 a0_1 a0_2 a0_3 a0_4) (v18_4 a0_0 a0_1 a0_2 a0_3 a0_4)).toList == (v17_0 (v18_0 a0_0 a0_1 a0_2 a0_3 a0_4) (v18_1 a0_0 a0_1 a0_2 a0_3 a0_4) (v18_2 a0_0 a0_1 a0_2 a0_3 a0_4) (v18_3 a0_0 a0_1 a0_2 a0_3 a0_4) (v18_4 a0_0 a0_1 a0_2 a0_3 a0_4)).toList) then some (AV.bool false)
  else some (AV.bool true))
  else none)
  else none)
theorem e5 (a0_0 : Int) (a0_1 : Int) (a0_2 : Int) (a0_3 : Int) (a0_4 : Int) : funA c5 0 5 [AV.agg [AV.int .i64 a0_0, AV.int .i64 a0_1, AV.int .i64 a0_2, AV.int .i64 a0_3, AV.int .i64 a0_4]] = raw5 a0_0 a0_1 a0_2 a0_3 a0_4 := by kernel_rfl
def m5 : TModel
  | [.agg [.int .i64 a0_0, .int .i64 a0_1, .int .i64 a0_2, .int .i64 a0_3, .int .i64 a0_4]] => (raw5 a0_0 a0_1 a0_2 a0_3 a0_4).map fun r => (true, r)
  | _ => none
theorem k5 : Known Tryd.prog 5 := ⟨Tryd.f5, Tryd.func5, by kernel_rfl, by kernel_rfl⟩
theorem meets5 : Meets Tryd.prog 5 m5 := by
  refine meet (f := Tryd.f5) (l := []) (hs := [(5, 999, [2])]) (ts := [(17, m17), (18, m18), (19, m19)]) (ws := []) (is := []) (ls := []) (lvl := 0) mixed k5 Tryd.func5 (by kernel_rfl) noLoop (allT_cons meets17 (allT_cons meets18 (allT_cons meets19 allT_nil))) allM_nil noI fun w xs us r hl hv h => ?_
  unfold m5 at h
  split at h
  · rename_i a0_0 a0_1 a0_2 a0_3 a0_4
    obtain ⟨r', h1, h2⟩ := Option.map_eq_some_iff.1 h
    obtain ⟨_, rfl⟩ := Prod.mk.inj h2
    exact (e5 a0_0 a0_1 a0_2 a0_3 a0_4).trans h1
  · cases h
end Go.Proofs.YtiokajbmckcklaaDoor
