/- The walk of what this claim reaches: printed by a program, each equation checked by the kernel. -/
import Derived.Test.YtiokajbmckcklaaDoorVEzc
import Derived.Test.YtiokajbmckcklaaDoorLAY4a
import Derived.Test.YtiokajbmckcklaaDoorGL4
import Derived.Test.YtiokajbmckcklaaDoorProg
import Derived.KernelRfl
namespace Go.Proofs.YtiokajbmckcklaaDoor
open Go Go.Proofs.VE
set_option linter.unusedVariables false
set_option linter.unusedSimpArgs false
set_option maxRecDepth 100000
set_option maxHeartbeats 4000000
theorem mixed : Tryd.prog.follows .mixedOrders = true := by kernel_rfl
/-! ### 14 loop.example/g01984/laws.toIntS -/
def F14_0 (t0 : List AV) (t4 : Int) (h0 : List AV) : Out ((Int × (List AV))) (((List AV))) := (bif decide (t4 < (t0.length : Int)) then (bif (decide (0 ≤ t4) && decide (t4 < (t0.length : Int))) then (bif (decide (0 ≤ t4) && decide (t4 < (h0.length : Int))) then .next (IntKind.i64.wrap (t4 + 1), h0.set t4.toNat (AV.agg [AV.int .i64 (fI (t0.getD t4.toNat AV.undef) 0)]))
  else .fail)
  else .fail)
  else .stop h0)
def R14_0 (t0 : List AV) : ((Int × (List AV))) → Out ((Int × (List AV))) (((List AV))) := fun s : Int × (List AV) => F14_0 t0 s.1 s.2
def l14_0 : LModel := fun _ _ st k => match st with
  | ⟨[(0, .sl g0 t0), (3, .own g1), (4, .int .i64 t4)], [(g2, ⟨false, g3, h0⟩)]⟩ => bif ctsEq g0 ([.int .i64]) && nmEq g1 ([0, 3]) && nmEq g2 ([0, 3]) && ctsEq g3 ([.int .i64]) then ro (runW (R14_0 t0) (((t0.length : Int) - t4).toNat + 1) (t4, h0)) none (fun p : (List AV) => k (.exit 0) ⟨[(3, AV.own [0, 3])], [([0, 3], ⟨false, [.int .i64], p⟩)]⟩) else none
  | _ => none
noncomputable def c14 : Cfg := cfg Tryd.prog [(14, 0, [0, 3, 4]), (14, 999, [2]), (14, 1000, [3]), (14, 1001, [0, 3, 4])] [] [] [] [(14, 0, l14_0)]
theorem s14_0 (ce : CallE) (t0 : List AV) (t4 : Int) (h0 : List AV) (next : St → Option AV) (k : Kont) : stepA (codeA c14 ce [] 14 0 (sub [1, 1, 0, 1, 0, 0] (body Tryd.f14))) (normA [] [0, 3, 4]) next ⟨[(0, AV.sl [.int .i64] t0), (3, AV.own [0, 3]), (4, AV.int .i64 t4)], [([0, 3], ⟨false, [.int .i64], h0⟩)]⟩ k = (bif decide (t4 < (t0.length : Int)) then (bif (decide (0 ≤ t4) && decide (t4 < (t0.length : Int))) then (bif (decide (0 ≤ t4) && decide (t4 < (h0.length : Int))) then next ⟨[(0, AV.sl [.int .i64] t0), (3, AV.own [0, 3]), (4, AV.int .i64 (IntKind.i64.wrap (t4 + 1)))], [([0, 3], ⟨false, [.int .i64], h0.set t4.toNat (AV.agg [AV.int .i64 (fI (t0.getD t4.toNat AV.undef) 0)])⟩)]⟩
  else none)
  else none)
  else k (.exit 0) ⟨[(3, AV.own [0, 3])], [([0, 3], ⟨false, [.int .i64], h0⟩)]⟩) := by kernel_rfl
theorem st14_0 (t0 : List AV) (ce : CallE) (k : Kont) (s : (Int × (List AV))) (next : St → Option AV) : stepA (codeA c14 ce [] 14 0 (sub [1, 1, 0, 1, 0, 0] (body Tryd.f14))) (normA [] [0, 3, 4]) next ((fun s : Int × (List AV) => ⟨[(0, AV.sl [.int .i64] t0), (3, AV.own [0, 3]), (4, AV.int .i64 s.1)], [([0, 3], ⟨false, [.int .i64], s.2⟩)]⟩) s) k = (R14_0 t0 s).el none (fun s => next ((fun s : Int × (List AV) => ⟨[(0, AV.sl [.int .i64] t0), (3, AV.own [0, 3]), (4, AV.int .i64 s.1)], [([0, 3], ⟨false, [.int .i64], s.2⟩)]⟩) s)) (fun p : (List AV) => k (.exit 0) ⟨[(3, AV.own [0, 3])], [([0, 3], ⟨false, [.int .i64], p⟩)]⟩) := (s14_0 ce t0 s.1 s.2 next k).trans (by unfold R14_0; unfold F14_0; simp only [el_cond, el_ro, el_sum, el_fail, el_next, el_stop] <;> rfl)
theorem ok14_0 {ce : CallE} : LoopOK c14 ce [] 14 0 (sub [1, 1, 0, 1, 0, 0] (body Tryd.f14)) := by
  intro m hm st k r h
  obtain rfl : l14_0 = m := Option.some.inj hm
  unfold l14_0 at h
  split at h
  · rename_i g0 t0 g1 t4 g2 g3 h0
    obtain ⟨hg, h⟩ := bif_some h
    simp only [Bool.and_eq_true] at hg
    obtain ⟨⟨⟨q0, q1⟩, q2⟩, q3⟩ := hg
    obtain rfl := ctsEq_eq _ _ q0
    obtain rfl := (nmEq_iff _ _).1 q1
    obtain rfl := (nmEq_iff _ _).1 q2
    obtain rfl := ctsEq_eq _ _ q3
    refine ⟨(((t0.length : Int) - t4).toNat + 1), ?_⟩
    rw [← h]
    exact loop_run (fun s : Int × (List AV) => ⟨[(0, AV.sl [.int .i64] t0), (3, AV.own [0, 3]), (4, AV.int .i64 s.1)], [([0, 3], ⟨false, [.int .i64], s.2⟩)]⟩) (fun p : (List AV) => k (.exit 0) ⟨[(3, AV.own [0, 3])], [([0, 3], ⟨false, [.int .i64], p⟩)]⟩) (st14_0 t0 ce k) _ (t4, h0)
  · cases h
def q14 (a0 : List AV) : Bool := ((decide (0 ≤ (a0.length : Int)) && decide ((a0.length : Int) ≤ (a0.length : Int)) && decide ((a0.length : Int) * 8 ≤ 140737488355328) && decide ((a0.length : Int) ≤ 140737488355328)) && (ro (runW (R14_0 a0) (((a0.length : Int) - 0).toNat + 1) (0, List.replicate (Int.toNat (a0.length : Int)) (AV.int .i64 0))) false (fun p1 => true)))
def v14_0 (a0 : List AV) : List AV := (ro (runW (R14_0 a0) (((a0.length : Int) - 0).toNat + 1) (0, List.replicate (Int.toNat (a0.length : Int)) (AV.int .i64 0))) [] (fun p1 => p1))
theorem e14 (a0 : List AV) : funA c14 0 14 [AV.sl [.int .i64] a0] = (bif (decide (0 ≤ (a0.length : Int)) && decide ((a0.length : Int) ≤ (a0.length : Int)) && decide ((a0.length : Int) * 8 ≤ 140737488355328) && decide ((a0.length : Int) ≤ 140737488355328)) then (ro (runW (R14_0 a0) (((a0.length : Int) - 0).toNat + 1) (0, List.replicate (Int.toNat (a0.length : Int)) (AV.int .i64 0))) none (fun p1 => some (AV.fl [.int .i64] p1)))
  else none) := by kernel_rfl
theorem r14 (a0 : List AV) (h : q14 a0 = true) : funA c14 0 14 [AV.sl [.int .i64] a0] = some (AV.fl [.int .i64] (v14_0 a0)) := (e14 a0).trans ((brL (brO (fun o : Option (((List AV))) => some (AV.fl [.int .i64] (ro o [] (fun p1 => p1)))) (fun p1 => (fun _ => rfl)))) h)
def m14 : TModel
  | [.sl g0 a0] => bif ctsEq g0 ([.int .i64]) then some (q14 a0, AV.fl [.int .i64] (v14_0 a0)) else none
  | _ => none
theorem k14 : Known Tryd.prog 14 := ⟨Tryd.f14, Tryd.func14, by kernel_rfl, by kernel_rfl⟩
theorem meets14 : Meets Tryd.prog 14 m14 := by
  refine meet (f := Tryd.f14) (l := [(0, sub [1, 1, 0, 1, 0, 0] (body Tryd.f14))]) (hs := [(14, 0, [0, 3, 4]), (14, 999, [2]), (14, 1000, [3]), (14, 1001, [0, 3, 4])]) (ts := []) (ws := []) (is := []) (ls := [(14, 0, l14_0)]) (lvl := 0) mixed k14 Tryd.func14 (by kernel_rfl) (loops_cons ok14_0 noLoop) allT_nil allM_nil noI fun w xs us r hl hv h => ?_
  unfold m14 at h
  split at h
  · rename_i g0 a0
    obtain ⟨hg, h⟩ := bif_pair h
    have q0 := hg
    obtain rfl := ctsEq_eq _ _ q0
    obtain ⟨h1, rfl⟩ := pair_inj h
    exact r14 a0 h1
  · cases h

/-! ### 43 loop.example/g01984/spec.FormatInt -/
def F43_0 (t4 : Bool) (t0 : Int) (t3 : ByteArray) : Out ((Int × ByteArray)) (ByteArray) := (bif !decide (t0 = 0) then (bif !decide (10 = 0) then (bif decide (Int.tmod t0 10 < 0) then (bif decide ((bytesA ([AV.int .u8 (IntKind.u8.wrap (IntKind.i64.wrap (48 + IntKind.i64.wrap (0 - (Int.tmod t0 10)))))])).size + t3.size ≤ 4611686018427387904) then (bif !decide (10 = 0) then .next (IntKind.i64.wrap (Int.tdiv t0 10), (bytesA ([AV.int .u8 (IntKind.u8.wrap (IntKind.i64.wrap (48 + IntKind.i64.wrap (0 - (Int.tmod t0 10)))))])) ++ t3)
  else .fail)
  else .fail)
  else (bif decide ((bytesA ([AV.int .u8 (IntKind.u8.wrap (IntKind.i64.wrap (48 + Int.tmod t0 10)))])).size + t3.size ≤ 4611686018427387904) then (bif !decide (10 = 0) then .next (IntKind.i64.wrap (Int.tdiv t0 10), (bytesA ([AV.int .u8 (IntKind.u8.wrap (IntKind.i64.wrap (48 + Int.tmod t0 10)))])) ++ t3)
  else .fail)
  else .fail))
  else .fail)
  else .stop t3)
def R43_0 (t4 : Bool) : ((Int × ByteArray)) → Out ((Int × ByteArray)) (ByteArray) := fun s : Int × ByteArray => F43_0 t4 s.1 s.2
def l43_0 : LModel := fun _ _ st k => match st with
  | ⟨[(0, .int .i64 t0), (3, .str t3), (4, .bool t4)], []⟩ => ro (runW (R43_0 t4) (t0.natAbs + 1) (t0, t3)) none (fun p : ByteArray => k (.exit 0) ⟨[(3, AV.str p), (4, AV.bool t4)], []⟩)
  | _ => none
noncomputable def c43 : Cfg := cfg Tryd.prog [(43, 0, [0, 3, 4]), (43, 999, [2]), (43, 1000, [3, 4]), (43, 1001, [0, 3, 4])] [] [] [] [(43, 0, l43_0)]
theorem s43_0 (ce : CallE) (t0 : Int) (t3 : ByteArray) (t4 : Bool) (next : St → Option AV) (k : Kont) : stepA (codeA c43 ce [] 43 0 (sub [1, 1, 1, 1, 0, 0, 0] (body Tryd.f43))) (normA [] [0, 3, 4]) next ⟨[(0, AV.int .i64 t0), (3, AV.str t3), (4, AV.bool t4)], []⟩ k = (bif !decide (t0 = 0) then (bif !decide (10 = 0) then (bif decide (Int.tmod t0 10 < 0) then (bif decide ((bytesA ([AV.int .u8 (IntKind.u8.wrap (IntKind.i64.wrap (48 + IntKind.i64.wrap (0 - (Int.tmod t0 10)))))])).size + t3.size ≤ 4611686018427387904) then (bif !decide (10 = 0) then next ⟨[(0, AV.int .i64 (IntKind.i64.wrap (Int.tdiv t0 10))), (3, AV.str ((bytesA ([AV.int .u8 (IntKind.u8.wrap (IntKind.i64.wrap (48 + IntKind.i64.wrap (0 - (Int.tmod t0 10)))))])) ++ t3)), (4, AV.bool t4)], []⟩
  else none)
  else none)
  else (bif decide ((bytesA ([AV.int .u8 (IntKind.u8.wrap (IntKind.i64.wrap (48 + Int.tmod t0 10)))])).size + t3.size ≤ 4611686018427387904) then (bif !decide (10 = 0) then next ⟨[(0, AV.int .i64 (IntKind.i64.wrap (Int.tdiv t0 10))), (3, AV.str ((bytesA ([AV.int .u8 (IntKind.u8.wrap (IntKind.i64.wrap (48 + Int.tmod t0 10)))])) ++ t3)), (4, AV.bool t4)], []⟩
  else none)
  else none))
  else none)
  else k (.exit 0) ⟨[(3, AV.str t3), (4, AV.bool t4)], []⟩) := by kernel_rfl
theorem st43_0 (t4 : Bool) (ce : CallE) (k : Kont) (s : (Int × ByteArray)) (next : St → Option AV) : stepA (codeA c43 ce [] 43 0 (sub [1, 1, 1, 1, 0, 0, 0] (body Tryd.f43))) (normA [] [0, 3, 4]) next ((fun s : Int × ByteArray => ⟨[(0, AV.int .i64 s.1), (3, AV.str s.2), (4, AV.bool t4)], []⟩) s) k = (R43_0 t4 s).el none (fun s => next ((fun s : Int × ByteArray => ⟨[(0, AV.int .i64 s.1), (3, AV.str s.2), (4, AV.bool t4)], []⟩) s)) (fun p : ByteArray => k (.exit 0) ⟨[(3, AV.str p), (4, AV.bool t4)], []⟩) := (s43_0 ce s.1 s.2 t4 next k).trans (by unfold R43_0; unfold F43_0; simp only [el_cond, el_ro, el_sum, el_fail, el_next, el_stop] <;> rfl)
theorem ok43_0 {ce : CallE} : LoopOK c43 ce [] 43 0 (sub [1, 1, 1, 1, 0, 0, 0] (body Tryd.f43)) := by
  intro m hm st k r h
  obtain rfl : l43_0 = m := Option.some.inj hm
  unfold l43_0 at h
  split at h
  · rename_i t0 t3 t4
    refine ⟨(t0.natAbs + 1), ?_⟩
    rw [← h]
    exact loop_run (fun s : Int × ByteArray => ⟨[(0, AV.int .i64 s.1), (3, AV.str s.2), (4, AV.bool t4)], []⟩) (fun p : ByteArray => k (.exit 0) ⟨[(3, AV.str p), (4, AV.bool t4)], []⟩) (st43_0 t4 ce k) _ (t0, t3)
  · cases h
def q43 (a0 : Int) : Bool := (bif decide (a0 = 0) then true else (ro (runW (R43_0 (decide (a0 < 0))) (a0.natAbs + 1) (a0, ByteArray.empty)) false (fun p2 => (bif decide (a0 < 0) then decide ((ByteArray.mk #[45]).size + p2.size ≤ 4611686018427387904) else true))))
def v43_0 (a0 : Int) : ByteArray := (bif decide (a0 = 0) then (ByteArray.mk #[48]) else (ro (runW (R43_0 (decide (a0 < 0))) (a0.natAbs + 1) (a0, ByteArray.empty)) ByteArray.empty (fun p2 => (bif decide (a0 < 0) then (ByteArray.mk #[45]) ++ p2 else p2))))
theorem e43 (a0 : Int) : funA c43 0 43 [AV.int .i64 a0] = (bif decide (a0 = 0) then some (AV.str (ByteArray.mk #[48]))
  else (ro (runW (R43_0 (decide (a0 < 0))) (a0.natAbs + 1) (a0, ByteArray.empty)) none (fun p2 => (bif decide (a0 < 0) then (bif decide ((ByteArray.mk #[45]).size + p2.size ≤ 4611686018427387904) then some (AV.str ((ByteArray.mk #[45]) ++ p2))
  else none)
  else some (AV.str p2))))) := by kernel_rfl
theorem r43 (a0 : Int) (h : q43 a0 = true) : funA c43 0 43 [AV.int .i64 a0] = some (AV.str (v43_0 a0)) := (e43 a0).trans ((br (fun b => some (AV.str (bif b then (ByteArray.mk #[48]) else (ro (runW (R43_0 (decide (a0 < 0))) (a0.natAbs + 1) (a0, ByteArray.empty)) ByteArray.empty (fun p2 => (bif decide (a0 < 0) then (ByteArray.mk #[45]) ++ p2 else p2)))))) (fun _ => rfl) (brO (fun o : Option (ByteArray) => some (AV.str (ro o ByteArray.empty (fun p2 => (bif decide (a0 < 0) then (ByteArray.mk #[45]) ++ p2 else p2))))) (fun p2 => (br (fun b => some (AV.str (bif b then (ByteArray.mk #[45]) ++ p2 else p2))) (brL1 (fun _ => rfl)) (fun _ => rfl))))) h)
def m43 : TModel
  | [.int .i64 a0] => some (q43 a0, AV.str (v43_0 a0))
  | _ => none
theorem k43 : Known Tryd.prog 43 := ⟨Tryd.f43, Tryd.func43, by kernel_rfl, by kernel_rfl⟩
theorem meets43 : Meets Tryd.prog 43 m43 := by
  refine meet (f := Tryd.f43) (l := [(0, sub [1, 1, 1, 1, 0, 0, 0] (body Tryd.f43))]) (hs := [(43, 0, [0, 3, 4]), (43, 999, [2]), (43, 1000, [3, 4]), (43, 1001, [0, 3, 4])]) (ts := []) (ws := []) (is := []) (ls := [(43, 0, l43_0)]) (lvl := 0) mixed k43 Tryd.func43 (by kernel_rfl) (loops_cons ok43_0 noLoop) allT_nil allM_nil noI fun w xs us r hl hv h => ?_
  unfold m43 at h
  split at h
  · rename_i a0
    obtain ⟨h1, rfl⟩ := pair_inj h
    exact r43 a0 h1
  · cases h

/-! ### 46 loop.example/g01984/spec.l8Sum -/
def F46_0 (t0 : List AV) (t3 : Int) (t4 : Int) : Out ((Int × Int)) (Int) := (bif decide (t4 < (t0.length : Int)) then (bif (decide (0 ≤ t4) && decide (t4 < (t0.length : Int))) then .next (IntKind.i64.wrap (t3 + fI (t0.getD t4.toNat AV.undef) 0), IntKind.i64.wrap (t4 + 1))
  else .fail)
  else .stop t3)
def R46_0 (t0 : List AV) : ((Int × Int)) → Out ((Int × Int)) (Int) := fun s : Int × Int => F46_0 t0 s.1 s.2
def l46_0 : LModel := fun _ _ st k => match st with
  | ⟨[(0, .sl g0 t0), (3, .int .i64 t3), (4, .int .i64 t4)], []⟩ => bif ctsEq g0 ([.int .i64]) then ro (runW (R46_0 t0) (((t0.length : Int) - t4).toNat + 1) (t3, t4)) none (fun p : Int => k (.exit 0) ⟨[(3, AV.int .i64 p)], []⟩) else none
  | _ => none
noncomputable def c46 : Cfg := cfg Tryd.prog [(46, 0, [0, 3, 4]), (46, 999, [2]), (46, 1000, [3]), (46, 1001, [0, 3, 4])] [] [] [] [(46, 0, l46_0)]
theorem s46_0 (ce : CallE) (t0 : List AV) (t3 : Int) (t4 : Int) (next : St → Option AV) (k : Kont) : stepA (codeA c46 ce [] 46 0 (sub [1, 1, 0, 1, 0, 0] (body Tryd.f46))) (normA [] [0, 3, 4]) next ⟨[(0, AV.sl [.int .i64] t0), (3, AV.int .i64 t3), (4, AV.int .i64 t4)], []⟩ k = (bif decide (t4 < (t0.length : Int)) then (bif (decide (0 ≤ t4) && decide (t4 < (t0.length : Int))) then next ⟨[(0, AV.sl [.int .i64] t0), (3, AV.int .i64 (IntKind.i64.wrap (t3 + fI (t0.getD t4.toNat AV.undef) 0))), (4, AV.int .i64 (IntKind.i64.wrap (t4 + 1)))], []⟩
  else none)
  else k (.exit 0) ⟨[(3, AV.int .i64 t3)], []⟩) := by kernel_rfl
theorem st46_0 (t0 : List AV) (ce : CallE) (k : Kont) (s : (Int × Int)) (next : St → Option AV) : stepA (codeA c46 ce [] 46 0 (sub [1, 1, 0, 1, 0, 0] (body Tryd.f46))) (normA [] [0, 3, 4]) next ((fun s : Int × Int => ⟨[(0, AV.sl [.int .i64] t0), (3, AV.int .i64 s.1), (4, AV.int .i64 s.2)], []⟩) s) k = (R46_0 t0 s).el none (fun s => next ((fun s : Int × Int => ⟨[(0, AV.sl [.int .i64] t0), (3, AV.int .i64 s.1), (4, AV.int .i64 s.2)], []⟩) s)) (fun p : Int => k (.exit 0) ⟨[(3, AV.int .i64 p)], []⟩) := (s46_0 ce t0 s.1 s.2 next k).trans (by unfold R46_0; unfold F46_0; simp only [el_cond, el_ro, el_sum, el_fail, el_next, el_stop] <;> rfl)
theorem ok46_0 {ce : CallE} : LoopOK c46 ce [] 46 0 (sub [1, 1, 0, 1, 0, 0] (body Tryd.f46)) := by
  intro m hm st k r h
  obtain rfl : l46_0 = m := Option.some.inj hm
  unfold l46_0 at h
  split at h
  · rename_i g0 t0 t3 t4
    obtain ⟨hg, h⟩ := bif_some h
    have q0 := hg
    obtain rfl := ctsEq_eq _ _ q0
    refine ⟨(((t0.length : Int) - t4).toNat + 1), ?_⟩
    rw [← h]
    exact loop_run (fun s : Int × Int => ⟨[(0, AV.sl [.int .i64] t0), (3, AV.int .i64 s.1), (4, AV.int .i64 s.2)], []⟩) (fun p : Int => k (.exit 0) ⟨[(3, AV.int .i64 p)], []⟩) (st46_0 t0 ce k) _ (t3, t4)
  · cases h
def q46 (a0 : List AV) : Bool := (ro (runW (R46_0 a0) (((a0.length : Int) - 0).toNat + 1) (0, 0)) false (fun p4 => true))
def v46_0 (a0 : List AV) : Int := (ro (runW (R46_0 a0) (((a0.length : Int) - 0).toNat + 1) (0, 0)) 0 (fun p4 => p4))
theorem e46 (a0 : List AV) : funA c46 0 46 [AV.sl [.int .i64] a0] = (ro (runW (R46_0 a0) (((a0.length : Int) - 0).toNat + 1) (0, 0)) none (fun p4 => some (AV.int .i64 p4))) := by kernel_rfl
theorem r46 (a0 : List AV) (h : q46 a0 = true) : funA c46 0 46 [AV.sl [.int .i64] a0] = some (AV.int .i64 (v46_0 a0)) := (e46 a0).trans ((brO (fun o : Option (Int) => some (AV.int .i64 (ro o 0 (fun p4 => p4)))) (fun p4 => (fun _ => rfl))) h)
def m46 : TModel
  | [.sl g0 a0] => bif ctsEq g0 ([.int .i64]) then some (q46 a0, AV.int .i64 (v46_0 a0)) else none
  | _ => none
theorem k46 : Known Tryd.prog 46 := ⟨Tryd.f46, Tryd.func46, by kernel_rfl, by kernel_rfl⟩
theorem meets46 : Meets Tryd.prog 46 m46 := by
  refine meet (f := Tryd.f46) (l := [(0, sub [1, 1, 0, 1, 0, 0] (body Tryd.f46))]) (hs := [(46, 0, [0, 3, 4]), (46, 999, [2]), (46, 1000, [3]), (46, 1001, [0, 3, 4])]) (ts := []) (ws := []) (is := []) (ls := [(46, 0, l46_0)]) (lvl := 0) mixed k46 Tryd.func46 (by kernel_rfl) (loops_cons ok46_0 noLoop) allT_nil allM_nil noI fun w xs us r hl hv h => ?_
  unfold m46 at h
  split at h
  · rename_i g0 a0
    obtain ⟨hg, h⟩ := bif_pair h
    have q0 := hg
    obtain rfl := ctsEq_eq _ _ q0
    obtain ⟨h1, rfl⟩ := pair_inj h
    exact r46 a0 h1
  · cases h

/-! ### 13 loop.example/g01984/spec.CostLine -/
def F13_0 (t0 : List AV) (t3 : ByteArray) (t4 : Int) : Out ((ByteArray × Int)) (ByteArray) := (bif decide (t4 < (t0.length : Int)) then (bif decide (t4 < 30) then (bif (decide (0 ≤ t4) && decide (t4 < (t0.length : Int))) then (bif q43 (fI (t0.getD t4.toNat AV.undef) 0) then (bif decide (t3.size + (v43_0 (fI (t0.getD t4.toNat AV.undef) 0)).size ≤ 4611686018427387904) then (bif decide ((t3 ++ (v43_0 (fI (t0.getD t4.toNat AV.undef) 0))).size + (ByteArray.mk #[32]).size ≤ 4611686018427387904) then .next ((t3 ++ (v43_0 (fI (t0.getD t4.toNat AV.undef) 0))) ++ (ByteArray.mk #[32]), IntKind.i64.wrap (t4 + 1))
  else .fail)
  else .fail)
  else .fail)
  else .fail)
  else .stop t3)
  else .stop t3)
def R13_0 (t0 : List AV) : ((ByteArray × Int)) → Out ((ByteArray × Int)) (ByteArray) := fun s : ByteArray × Int => F13_0 t0 s.1 s.2
def l13_0 : LModel := fun _ _ st k => match st with
  | ⟨[(0, .sl g0 t0), (3, .str t3), (4, .int .i64 t4)], []⟩ => bif ctsEq g0 ([.int .i64]) then ro (runW (R13_0 t0) (((t0.length : Int) - t4).toNat + 1) (t3, t4)) none (fun p : ByteArray => k (.exit 0) ⟨[(0, AV.sl [.int .i64] t0), (3, AV.str p)], []⟩) else none
  | _ => none
noncomputable def c13 : Cfg := cfg Tryd.prog [(13, 0, [0, 3, 4]), (13, 999, [2]), (13, 1000, [0, 3]), (13, 1001, [0, 3, 4])] [(43, m43), (46, m46)] [] [] [(13, 0, l13_0)]
theorem s13_0 (ce : CallE) (t0 : List AV) (t3 : ByteArray) (t4 : Int) (next : St → Option AV) (k : Kont) : stepA (codeA c13 ce [] 13 0 (sub [1, 1, 0, 1, 0, 0] (body Tryd.f13))) (normA [] [0, 3, 4]) next ⟨[(0, AV.sl [.int .i64] t0), (3, AV.str t3), (4, AV.int .i64 t4)], []⟩ k = (bif decide (t4 < (t0.length : Int)) then (bif decide (t4 < 30) then (bif (decide (0 ≤ t4) && decide (t4 < (t0.length : Int))) then (bif q43 (fI (t0.getD t4.toNat AV.undef) 0) then (bif decide (t3.size + (v43_0 (fI (t0.getD t4.toNat AV.undef) 0)).size ≤ 4611686018427387904) then (bif decide ((t3 ++ (v43_0 (fI (t0.getD t4.toNat AV.undef) 0))).size + (ByteArray.mk #[32]).size ≤ 4611686018427387904) then next ⟨[(0, AV.sl [.int .i64] t0), (3, AV.str ((t3 ++ (v43_0 (fI (t0.getD t4.toNat AV.undef) 0))) ++ (ByteArray.mk #[32]))), (4, AV.int .i64 (IntKind.i64.wrap (t4 + 1)))], []⟩
  else none)
  else none)
  else none)
  else none)
  else k (.exit 0) ⟨[(0, AV.sl [.int .i64] t0), (3, AV.str t3)], []⟩)
  else k (.exit 0) ⟨[(0, AV.sl [.int .i64] t0), (3, AV.str t3)], []⟩) := by kernel_rfl
theorem st13_0 (t0 : List AV) (ce : CallE) (k : Kont) (s : (ByteArray × Int)) (next : St → Option AV) : stepA (codeA c13 ce [] 13 0 (sub [1, 1, 0, 1, 0, 0] (body Tryd.f13))) (normA [] [0, 3, 4]) next ((fun s : ByteArray × Int => ⟨[(0, AV.sl [.int .i64] t0), (3, AV.str s.1), (4, AV.int .i64 s.2)], []⟩) s) k = (R13_0 t0 s).el none (fun s => next ((fun s : ByteArray × Int => ⟨[(0, AV.sl [.int .i64] t0), (3, AV.str s.1), (4, AV.int .i64 s.2)], []⟩) s)) (fun p : ByteArray => k (.exit 0) ⟨[(0, AV.sl [.int .i64] t0), (3, AV.str p)], []⟩) := (s13_0 ce t0 s.1 s.2 next k).trans (by unfold R13_0; unfold F13_0; simp only [el_cond, el_ro, el_sum, el_fail, el_next, el_stop] <;> rfl)
theorem ok13_0 {ce : CallE} : LoopOK c13 ce [] 13 0 (sub [1, 1, 0, 1, 0, 0] (body Tryd.f13)) := by
  intro m hm st k r h
  obtain rfl : l13_0 = m := Option.some.inj hm
  unfold l13_0 at h
  split at h
  · rename_i g0 t0 t3 t4
    obtain ⟨hg, h⟩ := bif_some h
    have q0 := hg
    obtain rfl := ctsEq_eq _ _ q0
    refine ⟨(((t0.length : Int) - t4).toNat + 1), ?_⟩
    rw [← h]
    exact loop_run (fun s : ByteArray × Int => ⟨[(0, AV.sl [.int .i64] t0), (3, AV.str s.1), (4, AV.int .i64 s.2)], []⟩) (fun p : ByteArray => k (.exit 0) ⟨[(0, AV.sl [.int .i64] t0), (3, AV.str p)], []⟩) (st13_0 t0 ce k) _ (t3, t4)
  · cases h
def q13 (a0 : List AV) : Bool := (ro (runW (R13_0 a0) (((a0.length : Int) - 0).toNat + 1) (ByteArray.empty, 0)) false (fun p3 => (decide (p3.size + (ByteArray.mk #[116, 111, 116, 97, 108, 32]).size ≤ 4611686018427387904) && (q46 a0 && (q43 (v46_0 a0) && decide ((p3 ++ (ByteArray.mk #[116, 111, 116, 97, 108, 32])).size + (v43_0 (v46_0 a0)).size ≤ 4611686018427387904))))))
def v13_0 (a0 : List AV) : ByteArray := (ro (runW (R13_0 a0) (((a0.length : Int) - 0).toNat + 1) (ByteArray.empty, 0)) ByteArray.empty (fun p3 => (p3 ++ (ByteArray.mk #[116, 111, 116, 97, 108, 32])) ++ (v43_0 (v46_0 a0))))
theorem e13 (a0 : List AV) : funA c13 0 13 [AV.sl [.int .i64] a0] = (ro (runW (R13_0 a0) (((a0.length : Int) - 0).toNat + 1) (ByteArray.empty, 0)) none (fun p3 => (bif decide (p3.size + (ByteArray.mk #[116, 111, 116, 97, 108, 32]).size ≤ 4611686018427387904) then (bif q46 a0 then (bif q43 (v46_0 a0) then (bif decide ((p3 ++ (ByteArray.mk #[116, 111, 116, 97, 108, 32])).size + (v43_0 (v46_0 a0)).size ≤ 4611686018427387904) then some (AV.str ((p3 ++ (ByteArray.mk #[116, 111, 116, 97, 108, 32])) ++ (v43_0 (v46_0 a0))))
  else none)
  else none)
  else none)
  else none))) := by kernel_rfl
theorem r13 (a0 : List AV) (h : q13 a0 = true) : funA c13 0 13 [AV.sl [.int .i64] a0] = some (AV.str (v13_0 a0)) := (e13 a0).trans ((brO (fun o : Option (ByteArray) => some (AV.str (ro o ByteArray.empty (fun p3 => (p3 ++ (ByteArray.mk #[116, 111, 116, 97, 108, 32])) ++ (v43_0 (v46_0 a0)))))) (fun p3 => (brL (brL (brL (brL1 (fun _ => rfl))))))) h)
def m13 : TModel
  | [.sl g0 a0] => bif ctsEq g0 ([.int .i64]) then some (q13 a0, AV.str (v13_0 a0)) else none
  | _ => none
theorem k13 : Known Tryd.prog 13 := ⟨Tryd.f13, Tryd.func13, by kernel_rfl, by kernel_rfl⟩
theorem meets13 : Meets Tryd.prog 13 m13 := by
  refine meet (f := Tryd.f13) (l := [(0, sub [1, 1, 0, 1, 0, 0] (body Tryd.f13))]) (hs := [(13, 0, [0, 3, 4]), (13, 999, [2]), (13, 1000, [0, 3]), (13, 1001, [0, 3, 4])]) (ts := [(43, m43), (46, m46)]) (ws := []) (is := []) (ls := [(13, 0, l13_0)]) (lvl := 0) mixed k13 Tryd.func13 (by kernel_rfl) (loops_cons ok13_0 noLoop) (allT_cons meets43 (allT_cons meets46 allT_nil)) allM_nil noI fun w xs us r hl hv h => ?_
  unfold m13 at h
  split at h
  · rename_i g0 a0
    obtain ⟨hg, h⟩ := bif_pair h
    have q0 := hg
    obtain rfl := ctsEq_eq _ _ q0
    obtain ⟨h1, rfl⟩ := pair_inj h
    exact r13 a0 h1
  · cases h

/-! ### 78 strconv.Itoa -/
def q78 (a0 : Int) : Bool := decide (-9223372036854775808 ≤ a0) && decide (a0 ≤ 9223372036854775807)
def v78_0 (a0 : Int) : ByteArray := itoaB a0
def m78 : TModel := itoaM
theorem k78 : Known Tryd.prog 78 := ⟨Tryd.f78, Tryd.func78, by kernel_rfl, by kernel_rfl⟩
theorem meets78 : Meets Tryd.prog 78 m78 := itoa_meets ⟨k78, fun n w h0 h1 hG => Any.strconv_Itoa lays171 n h0 h1 w hG⟩

/-! ### 44 loop.example/g01984/impl.FormatInt -/
noncomputable def c44 : Cfg := cfg Tryd.prog [(44, 999, [2])] [(78, m78)] [] [] []
def q44 (a0 : Int) : Bool := q78 a0
def v44_0 (a0 : Int) : ByteArray := (v78_0 a0)
theorem e44 (a0 : Int) : funA c44 0 44 [AV.int .i64 a0] = (bif q78 a0 then some (AV.str (v78_0 a0))
  else none) := by kernel_rfl
theorem r44 (a0 : Int) (h : q44 a0 = true) : funA c44 0 44 [AV.int .i64 a0] = some (AV.str (v44_0 a0)) := (e44 a0).trans ((brL1 (fun _ => rfl)) h)
def m44 : TModel
  | [.int .i64 a0] => some (q44 a0, AV.str (v44_0 a0))
  | _ => none
theorem k44 : Known Tryd.prog 44 := ⟨Tryd.f44, Tryd.func44, by kernel_rfl, by kernel_rfl⟩
theorem meets44 : Meets Tryd.prog 44 m44 := by
  refine meet (f := Tryd.f44) (l := []) (hs := [(44, 999, [2])]) (ts := [(78, m78)]) (ws := []) (is := []) (ls := []) (lvl := 0) mixed k44 Tryd.func44 (by kernel_rfl) noLoop (allT_cons meets78 allT_nil) allM_nil noI fun w xs us r hl hv h => ?_
  unfold m44 at h
  split at h
  · rename_i a0
    obtain ⟨h1, rfl⟩ := pair_inj h
    exact r44 a0 h1
  · cases h

/-! ### 47 loop.example/g01984/impl.sum -/
def F47_0 (t6 : List AV) (t7 : Int) (t3 : Int) (t8 : Int) : Out ((Int × Int)) (Int) := (bif decide (t8 < t7) then (bif (decide (0 ≤ t8) && decide (t8 < (t6.length : Int))) then .next (IntKind.i64.wrap (t3 + fI (t6.getD t8.toNat AV.undef) 0), IntKind.i64.wrap (t8 + 1))
  else .fail)
  else .stop t3)
def R47_0 (t6 : List AV) (t7 : Int) : ((Int × Int)) → Out ((Int × Int)) (Int) := fun s : Int × Int => F47_0 t6 t7 s.1 s.2
def l47_0 : LModel := fun _ _ st k => match st with
  | ⟨[(3, .int .i64 t3), (6, .sl g0 t6), (7, .int .i64 t7), (8, .int .i64 t8)], []⟩ => bif ctsEq g0 ([.int .i64]) then ro (runW (R47_0 t6 t7) ((t7 - t8).toNat + 1) (t3, t8)) none (fun p : Int => k (.exit 0) ⟨[(3, AV.int .i64 p)], []⟩) else none
  | _ => none
noncomputable def c47 : Cfg := cfg Tryd.prog [(47, 0, [3, 6, 7, 8]), (47, 999, [2]), (47, 1000, [3]), (47, 1001, [3, 6, 7, 8])] [] [] [] [(47, 0, l47_0)]
theorem s47_0 (ce : CallE) (t3 : Int) (t6 : List AV) (t7 : Int) (t8 : Int) (next : St → Option AV) (k : Kont) : stepA (codeA c47 ce [] 47 0 (sub [1, 1, 0, 1, 0, 0] (body Tryd.f47))) (normA [] [3, 6, 7, 8]) next ⟨[(3, AV.int .i64 t3), (6, AV.sl [.int .i64] t6), (7, AV.int .i64 t7), (8, AV.int .i64 t8)], []⟩ k = (bif decide (t8 < t7) then (bif (decide (0 ≤ t8) && decide (t8 < (t6.length : Int))) then next ⟨[(3, AV.int .i64 (IntKind.i64.wrap (t3 + fI (t6.getD t8.toNat AV.undef) 0))), (6, AV.sl [.int .i64] t6), (7, AV.int .i64 t7), (8, AV.int .i64 (IntKind.i64.wrap (t8 + 1)))], []⟩
  else none)
  else k (.exit 0) ⟨[(3, AV.int .i64 t3)], []⟩) := by kernel_rfl
theorem st47_0 (t6 : List AV) (t7 : Int) (ce : CallE) (k : Kont) (s : (Int × Int)) (next : St → Option AV) : stepA (codeA c47 ce [] 47 0 (sub [1, 1, 0, 1, 0, 0] (body Tryd.f47))) (normA [] [3, 6, 7, 8]) next ((fun s : Int × Int => ⟨[(3, AV.int .i64 s.1), (6, AV.sl [.int .i64] t6), (7, AV.int .i64 t7), (8, AV.int .i64 s.2)], []⟩) s) k = (R47_0 t6 t7 s).el none (fun s => next ((fun s : Int × Int => ⟨[(3, AV.int .i64 s.1), (6, AV.sl [.int .i64] t6), (7, AV.int .i64 t7), (8, AV.int .i64 s.2)], []⟩) s)) (fun p : Int => k (.exit 0) ⟨[(3, AV.int .i64 p)], []⟩) := (s47_0 ce s.1 t6 t7 s.2 next k).trans (by unfold R47_0; unfold F47_0; simp only [el_cond, el_ro, el_sum, el_fail, el_next, el_stop] <;> rfl)
theorem ok47_0 {ce : CallE} : LoopOK c47 ce [] 47 0 (sub [1, 1, 0, 1, 0, 0] (body Tryd.f47)) := by
  intro m hm st k r h
  obtain rfl : l47_0 = m := Option.some.inj hm
  unfold l47_0 at h
  split at h
  · rename_i t3 g0 t6 t7 t8
    obtain ⟨hg, h⟩ := bif_some h
    have q0 := hg
    obtain rfl := ctsEq_eq _ _ q0
    refine ⟨((t7 - t8).toNat + 1), ?_⟩
    rw [← h]
    exact loop_run (fun s : Int × Int => ⟨[(3, AV.int .i64 s.1), (6, AV.sl [.int .i64] t6), (7, AV.int .i64 t7), (8, AV.int .i64 s.2)], []⟩) (fun p : Int => k (.exit 0) ⟨[(3, AV.int .i64 p)], []⟩) (st47_0 t6 t7 ce k) _ (t3, t8)
  · cases h
def q47 (a0 : List AV) : Bool := (ro (runW (R47_0 a0 (a0.length : Int)) (((a0.length : Int) - 0).toNat + 1) (0, 0)) false (fun p6 => true))
def v47_0 (a0 : List AV) : Int := (ro (runW (R47_0 a0 (a0.length : Int)) (((a0.length : Int) - 0).toNat + 1) (0, 0)) 0 (fun p6 => p6))
theorem e47 (a0 : List AV) : funA c47 0 47 [AV.sl [.int .i64] a0] = (ro (runW (R47_0 a0 (a0.length : Int)) (((a0.length : Int) - 0).toNat + 1) (0, 0)) none (fun p6 => some (AV.int .i64 p6))) := by kernel_rfl
theorem r47 (a0 : List AV) (h : q47 a0 = true) : funA c47 0 47 [AV.sl [.int .i64] a0] = some (AV.int .i64 (v47_0 a0)) := (e47 a0).trans ((brO (fun o : Option (Int) => some (AV.int .i64 (ro o 0 (fun p6 => p6)))) (fun p6 => (fun _ => rfl))) h)
def m47 : TModel
  | [.sl g0 a0] => bif ctsEq g0 ([.int .i64]) then some (q47 a0, AV.int .i64 (v47_0 a0)) else none
  | _ => none
theorem k47 : Known Tryd.prog 47 := ⟨Tryd.f47, Tryd.func47, by kernel_rfl, by kernel_rfl⟩
theorem meets47 : Meets Tryd.prog 47 m47 := by
  refine meet (f := Tryd.f47) (l := [(0, sub [1, 1, 0, 1, 0, 0] (body Tryd.f47))]) (hs := [(47, 0, [3, 6, 7, 8]), (47, 999, [2]), (47, 1000, [3]), (47, 1001, [3, 6, 7, 8])]) (ts := []) (ws := []) (is := []) (ls := [(47, 0, l47_0)]) (lvl := 0) mixed k47 Tryd.func47 (by kernel_rfl) (loops_cons ok47_0 noLoop) allT_nil allM_nil noI fun w xs us r hl hv h => ?_
  unfold m47 at h
  split at h
  · rename_i g0 a0
    obtain ⟨hg, h⟩ := bif_pair h
    have q0 := hg
    obtain rfl := ctsEq_eq _ _ q0
    obtain ⟨h1, rfl⟩ := pair_inj h
    exact r47 a0 h1
  · cases h

/-! ### 15 loop.example/g01984/impl.CostLine -/
def F15_0 (t0 : List AV) (t10 : List AV) (t11 : Int) (t3 : ByteArray) (t12 : Int) : Out ((ByteArray × Int)) (ByteArray) := (bif decide (t12 < t11) then (bif (decide (0 ≤ t12) && decide (t12 < (t10.length : Int))) then (bif q44 (fI (t10.getD t12.toNat AV.undef) 0) then (bif decide ((v44_0 (fI (t10.getD t12.toNat AV.undef) 0)).size + (ByteArray.mk #[32]).size ≤ 4611686018427387904) then (bif decide (t3.size + ((v44_0 (fI (t10.getD t12.toNat AV.undef) 0)) ++ (ByteArray.mk #[32])).size ≤ 4611686018427387904) then .next (t3 ++ ((v44_0 (fI (t10.getD t12.toNat AV.undef) 0)) ++ (ByteArray.mk #[32])), IntKind.i64.wrap (t12 + 1))
  else .fail)
  else .fail)
  else .fail)
  else .fail)
  else .stop t3)
def R15_0 (t0 : List AV) (t10 : List AV) (t11 : Int) : ((ByteArray × Int)) → Out ((ByteArray × Int)) (ByteArray) := fun s : ByteArray × Int => F15_0 t0 t10 t11 s.1 s.2
def l15_0 : LModel := fun _ _ st k => match st with
  | ⟨[(0, .sl g0 t0), (3, .str t3), (10, .sl g1 t10), (11, .int .i64 t11), (12, .int .i64 t12)], []⟩ => bif ctsEq g0 ([.int .i64]) && ctsEq g1 ([.int .i64]) then ro (runW (R15_0 t0 t10 t11) ((t11 - t12).toNat + 1) (t3, t12)) none (fun p : ByteArray => k (.exit 0) ⟨[(0, AV.sl [.int .i64] t0), (3, AV.str p)], []⟩) else none
  | _ => none
noncomputable def c15 : Cfg := cfg Tryd.prog [(15, 0, [0, 3, 10, 11, 12]), (15, 999, [2]), (15, 1000, [0, 3]), (15, 1001, [0, 3, 10, 11, 12])] [(44, m44), (47, m47)] [] [] [(15, 0, l15_0)]
theorem s15_0 (ce : CallE) (t0 : List AV) (t3 : ByteArray) (t10 : List AV) (t11 : Int) (t12 : Int) (next : St → Option AV) (k : Kont) : stepA (codeA c15 ce [] 15 0 (sub [1, 1, 0, 1, 0, 0] (body Tryd.f15))) (normA [] [0, 3, 10, 11, 12]) next ⟨[(0, AV.sl [.int .i64] t0), (3, AV.str t3), (10, AV.sl [.int .i64] t10), (11, AV.int .i64 t11), (12, AV.int .i64 t12)], []⟩ k = (bif decide (t12 < t11) then (bif (decide (0 ≤ t12) && decide (t12 < (t10.length : Int))) then (bif q44 (fI (t10.getD t12.toNat AV.undef) 0) then (bif decide ((v44_0 (fI (t10.getD t12.toNat AV.undef) 0)).size + (ByteArray.mk #[32]).size ≤ 4611686018427387904) then (bif decide (t3.size + ((v44_0 (fI (t10.getD t12.toNat AV.undef) 0)) ++ (ByteArray.mk #[32])).size ≤ 4611686018427387904) then next ⟨[(0, AV.sl [.int .i64] t0), (3, AV.str (t3 ++ ((v44_0 (fI (t10.getD t12.toNat AV.undef) 0)) ++ (ByteArray.mk #[32])))), (10, AV.sl [.int .i64] t10), (11, AV.int .i64 t11), (12, AV.int .i64 (IntKind.i64.wrap (t12 + 1)))], []⟩
  else none)
  else none)
  else none)
  else none)
  else k (.exit 0) ⟨[(0, AV.sl [.int .i64] t0), (3, AV.str t3)], []⟩) := by kernel_rfl
theorem st15_0 (t0 : List AV) (t10 : List AV) (t11 : Int) (ce : CallE) (k : Kont) (s : (ByteArray × Int)) (next : St → Option AV) : stepA (codeA c15 ce [] 15 0 (sub [1, 1, 0, 1, 0, 0] (body Tryd.f15))) (normA [] [0, 3, 10, 11, 12]) next ((fun s : ByteArray × Int => ⟨[(0, AV.sl [.int .i64] t0), (3, AV.str s.1), (10, AV.sl [.int .i64] t10), (11, AV.int .i64 t11), (12, AV.int .i64 s.2)], []⟩) s) k = (R15_0 t0 t10 t11 s).el none (fun s => next ((fun s : ByteArray × Int => ⟨[(0, AV.sl [.int .i64] t0), (3, AV.str s.1), (10, AV.sl [.int .i64] t10), (11, AV.int .i64 t11), (12, AV.int .i64 s.2)], []⟩) s)) (fun p : ByteArray => k (.exit 0) ⟨[(0, AV.sl [.int .i64] t0), (3, AV.str p)], []⟩) := (s15_0 ce t0 s.1 t10 t11 s.2 next k).trans (by unfold R15_0; unfold F15_0; simp only [el_cond, el_ro, el_sum, el_fail, el_next, el_stop] <;> rfl)
theorem ok15_0 {ce : CallE} : LoopOK c15 ce [] 15 0 (sub [1, 1, 0, 1, 0, 0] (body Tryd.f15)) := by
  intro m hm st k r h
  obtain rfl : l15_0 = m := Option.some.inj hm
  unfold l15_0 at h
  split at h
  · rename_i g0 t0 t3 g1 t10 t11 t12
    obtain ⟨hg, h⟩ := bif_some h
    simp only [Bool.and_eq_true] at hg
    obtain ⟨q0, q1⟩ := hg
    obtain rfl := ctsEq_eq _ _ q0
    obtain rfl := ctsEq_eq _ _ q1
    refine ⟨((t11 - t12).toNat + 1), ?_⟩
    rw [← h]
    exact loop_run (fun s : ByteArray × Int => ⟨[(0, AV.sl [.int .i64] t0), (3, AV.str s.1), (10, AV.sl [.int .i64] t10), (11, AV.int .i64 t11), (12, AV.int .i64 s.2)], []⟩) (fun p : ByteArray => k (.exit 0) ⟨[(0, AV.sl [.int .i64] t0), (3, AV.str p)], []⟩) (st15_0 t0 t10 t11 ce k) _ (t3, t12)
  · cases h
def q15 (a0 : List AV) : Bool := ((decide (0 ≤ 0) && decide (0 ≤ (if (a0.length : Int) < 30 then (a0.length : Int) else 30)) && decide ((if (a0.length : Int) < 30 then (a0.length : Int) else 30) ≤ (a0.length : Int))) && (ro (runW (R15_0 a0 ((a0.take (Int.toNat (if (a0.length : Int) < 30 then (a0.length : Int) else 30))).drop (Int.toNat 0)) (((a0.take (Int.toNat (if (a0.length : Int) < 30 then (a0.length : Int) else 30))).drop (Int.toNat 0)).length : Int)) (((((a0.take (Int.toNat (if (a0.length : Int) < 30 then (a0.length : Int) else 30))).drop (Int.toNat 0)).length : Int) - 0).toNat + 1) (ByteArray.empty, 0)) false (fun p5 => (decide (p5.size + (ByteArray.mk #[116, 111, 116, 97, 108, 32]).size ≤ 4611686018427387904) && (q47 a0 && (q44 (v47_0 a0) && decide ((p5 ++ (ByteArray.mk #[116, 111, 116, 97, 108, 32])).size + (v44_0 (v47_0 a0)).size ≤ 4611686018427387904)))))))
def v15_0 (a0 : List AV) : ByteArray := (ro (runW (R15_0 a0 ((a0.take (Int.toNat (if (a0.length : Int) < 30 then (a0.length : Int) else 30))).drop (Int.toNat 0)) (((a0.take (Int.toNat (if (a0.length : Int) < 30 then (a0.length : Int) else 30))).drop (Int.toNat 0)).length : Int)) (((((a0.take (Int.toNat (if (a0.length : Int) < 30 then (a0.length : Int) else 30))).drop (Int.toNat 0)).length : Int) - 0).toNat + 1) (ByteArray.empty, 0)) ByteArray.empty (fun p5 => (p5 ++ (ByteArray.mk #[116, 111, 116, 97, 108, 32])) ++ (v44_0 (v47_0 a0))))
theorem e15 (a0 : List AV) : funA c15 0 15 [AV.sl [.int .i64] a0] = (bif (decide (0 ≤ 0) && decide (0 ≤ (if (a0.length : Int) < 30 then (a0.length : Int) else 30)) && decide ((if (a0.length : Int) < 30 then (a0.length : Int) else 30) ≤ (a0.length : Int))) then (ro (runW (R15_0 a0 ((a0.take (Int.toNat (if (a0.length : Int) < 30 then (a0.length : Int) else 30))).drop (Int.toNat 0)) (((a0.take (Int.toNat (if (a0.length : Int) < 30 then (a0.length : Int) else 30))).drop (Int.toNat 0)).length : Int)) (((((a0.take (Int.toNat (if (a0.length : Int) < 30 then (a0.length : Int) else 30))).drop (Int.toNat 0)).length : Int) - 0).toNat + 1) (ByteArray.empty, 0)) none (fun p5 => (bif decide (p5.size + (ByteArray.mk #[116, 111, 116, 97, 108, 32]).size ≤ 4611686018427387904) then (bif q47 a0 then (bif q44 (v47_0 a0) then (bif decide ((p5 ++ (ByteArray.mk #[116, 111, 116, 97, 108, 32])).size + (v44_0 (v47_0 a0)).size ≤ 4611686018427387904) then some (AV.str ((p5 ++ (ByteArray.mk #[116, 111, 116, 97, 108, 32])) ++ (v44_0 (v47_0 a0))))
  else none)
  else none)
  else none)
  else none)))
  else none) := by kernel_rfl
theorem r15 (a0 : List AV) (h : q15 a0 = true) : funA c15 0 15 [AV.sl [.int .i64] a0] = some (AV.str (v15_0 a0)) := (e15 a0).trans ((brL (brO (fun o : Option (ByteArray) => some (AV.str (ro o ByteArray.empty (fun p5 => (p5 ++ (ByteArray.mk #[116, 111, 116, 97, 108, 32])) ++ (v44_0 (v47_0 a0)))))) (fun p5 => (brL (brL (brL (brL1 (fun _ => rfl)))))))) h)
def m15 : TModel
  | [.sl g0 a0] => bif ctsEq g0 ([.int .i64]) then some (q15 a0, AV.str (v15_0 a0)) else none
  | _ => none
theorem k15 : Known Tryd.prog 15 := ⟨Tryd.f15, Tryd.func15, by kernel_rfl, by kernel_rfl⟩
theorem meets15 : Meets Tryd.prog 15 m15 := by
  refine meet (f := Tryd.f15) (l := [(0, sub [1, 1, 0, 1, 0, 0] (body Tryd.f15))]) (hs := [(15, 0, [0, 3, 10, 11, 12]), (15, 999, [2]), (15, 1000, [0, 3]), (15, 1001, [0, 3, 10, 11, 12])]) (ts := [(44, m44), (47, m47)]) (ws := []) (is := []) (ls := [(15, 0, l15_0)]) (lvl := 0) mixed k15 Tryd.func15 (by kernel_rfl) (loops_cons ok15_0 noLoop) (allT_cons meets44 (allT_cons meets47 allT_nil)) allM_nil noI fun w xs us r hl hv h => ?_
  unfold m15 at h
  split at h
  · rename_i g0 a0
    obtain ⟨hg, h⟩ := bif_pair h
    have q0 := hg
    obtain rfl := ctsEq_eq _ _ q0
    obtain ⟨h1, rfl⟩ := pair_inj h
    exact r15 a0 h1
  · cases h

/-! ### 16 loop.example/g01984/laws.eqIntS -/
def F16_0 (t0 : List AV) (t1 : List AV) (t5 : Int) : Out (Int) (Unit ⊕ Unit) := (bif decide (t5 < (t0.length : Int)) then (bif (decide (0 ≤ t5) && decide (t5 < (t0.length : Int))) then (bif (decide (0 ≤ t5) && decide (t5 < (t1.length : Int))) then (bif !decide (fI (t0.getD t5.toNat AV.undef) 0 = fI (t1.getD t5.toNat AV.undef) 0) then .stop (.inr ())
  else .next (IntKind.i64.wrap (t5 + 1)))
  else .fail)
  else .fail)
  else .stop (.inl ()))
def R16_0 (t0 : List AV) (t1 : List AV) : (Int) → Out (Int) (Unit ⊕ Unit) := fun s : Int => F16_0 t0 t1 s
def l16_0 : LModel := fun _ _ st k => match st with
  | ⟨[(0, .sl g0 t0), (1, .sl g1 t1), (5, .int .i64 t5)], []⟩ => bif ctsEq g0 ([.int .i64]) && ctsEq g1 ([.int .i64]) then ro (runW (R16_0 t0 t1) (((t0.length : Int) - t5).toNat + 1) t5) none (sumE (fun _ : Unit => k (.exit 0) ⟨[], []⟩) (fun _ : Unit => k .ret ⟨[(4, AV.bool false)], []⟩)) else none
  | _ => none
noncomputable def c16 : Cfg := cfg Tryd.prog [(16, 0, [0, 1, 5]), (16, 999, [4]), (16, 1000, []), (16, 1001, [0, 1, 5])] [] [] [] [(16, 0, l16_0)]
theorem s16_0 (ce : CallE) (t0 : List AV) (t1 : List AV) (t5 : Int) (next : St → Option AV) (k : Kont) : stepA (codeA c16 ce [] 16 0 (sub [1, 1, 0, 1, 0, 0] (body Tryd.f16))) (normA [] [0, 1, 5]) next ⟨[(0, AV.sl [.int .i64] t0), (1, AV.sl [.int .i64] t1), (5, AV.int .i64 t5)], []⟩ k = (bif decide (t5 < (t0.length : Int)) then (bif (decide (0 ≤ t5) && decide (t5 < (t0.length : Int))) then (bif (decide (0 ≤ t5) && decide (t5 < (t1.length : Int))) then (bif !decide (fI (t0.getD t5.toNat AV.undef) 0 = fI (t1.getD t5.toNat AV.undef) 0) then k .ret ⟨[(4, AV.bool false)], []⟩
  else next ⟨[(0, AV.sl [.int .i64] t0), (1, AV.sl [.int .i64] t1), (5, AV.int .i64 (IntKind.i64.wrap (t5 + 1)))], []⟩)
  else none)
  else none)
  else k (.exit 0) ⟨[], []⟩) := by kernel_rfl
theorem st16_0 (t0 : List AV) (t1 : List AV) (ce : CallE) (k : Kont) (s : Int) (next : St → Option AV) : stepA (codeA c16 ce [] 16 0 (sub [1, 1, 0, 1, 0, 0] (body Tryd.f16))) (normA [] [0, 1, 5]) next ((fun s : Int => ⟨[(0, AV.sl [.int .i64] t0), (1, AV.sl [.int .i64] t1), (5, AV.int .i64 s)], []⟩) s) k = (R16_0 t0 t1 s).el none (fun s => next ((fun s : Int => ⟨[(0, AV.sl [.int .i64] t0), (1, AV.sl [.int .i64] t1), (5, AV.int .i64 s)], []⟩) s)) (sumE (fun _ : Unit => k (.exit 0) ⟨[], []⟩) (fun _ : Unit => k .ret ⟨[(4, AV.bool false)], []⟩)) := (s16_0 ce t0 t1 s next k).trans (by unfold R16_0; unfold F16_0; simp only [el_cond, el_ro, el_sum, el_fail, el_next, el_stop] <;> rfl)
theorem ok16_0 {ce : CallE} : LoopOK c16 ce [] 16 0 (sub [1, 1, 0, 1, 0, 0] (body Tryd.f16)) := by
  intro m hm st k r h
  obtain rfl : l16_0 = m := Option.some.inj hm
  unfold l16_0 at h
  split at h
  · rename_i g0 t0 g1 t1 t5
    obtain ⟨hg, h⟩ := bif_some h
    simp only [Bool.and_eq_true] at hg
    obtain ⟨q0, q1⟩ := hg
    obtain rfl := ctsEq_eq _ _ q0
    obtain rfl := ctsEq_eq _ _ q1
    refine ⟨(((t0.length : Int) - t5).toNat + 1), ?_⟩
    rw [← h]
    exact loop_run (fun s : Int => ⟨[(0, AV.sl [.int .i64] t0), (1, AV.sl [.int .i64] t1), (5, AV.int .i64 s)], []⟩) (sumE (fun _ : Unit => k (.exit 0) ⟨[], []⟩) (fun _ : Unit => k .ret ⟨[(4, AV.bool false)], []⟩)) (st16_0 t0 t1 ce k) _ t5
  · cases h
def q16 (a0 : List AV) (a1 : List AV) : Bool := (bif !decide ((a0.length : Int) = (a1.length : Int)) then true else (ro (runW (R16_0 a0 a1) (((a0.length : Int) - 0).toNat + 1) 0) false (sumE (fun _ => true) (fun _ => true))))
def v16_0 (a0 : List AV) (a1 : List AV) : Bool := (bif !decide ((a0.length : Int) = (a1.length : Int)) then false else (ro (runW (R16_0 a0 a1) (((a0.length : Int) - 0).toNat + 1) 0) false (sumE (fun _ => true) (fun _ => false))))
theorem e16 (a0 : List AV) (a1 : List AV) : funA c16 0 16 [AV.sl [.int .i64] a0, AV.sl [.int .i64] a1] = (bif !decide ((a0.length : Int) = (a1.length : Int)) then some (AV.bool false)
  else (ro (runW (R16_0 a0 a1) (((a0.length : Int) - 0).toNat + 1) 0) none (sumE (fun _ => some (AV.bool true)) (fun _ => some (AV.bool false))))) := by kernel_rfl
theorem r16 (a0 : List AV) (a1 : List AV) (h : q16 a0 a1 = true) : funA c16 0 16 [AV.sl [.int .i64] a0, AV.sl [.int .i64] a1] = some (AV.bool (v16_0 a0 a1)) := (e16 a0 a1).trans ((br (fun b => some (AV.bool (bif b then false else (ro (runW (R16_0 a0 a1) (((a0.length : Int) - 0).toNat + 1) 0) false (sumE (fun _ => true) (fun _ => false)))))) (fun _ => rfl) (brO (fun o : Option (Unit ⊕ Unit) => some (AV.bool (ro o false (sumE (fun _ => true) (fun _ => false))))) (brS (fun o : Unit ⊕ Unit => some (AV.bool ((sumE (fun _ => true) (fun _ => false)) o))) (fun _ => (fun _ => rfl)) (fun _ => (fun _ => rfl))))) h)
def m16 : TModel
  | [.sl g0 a0, .sl g1 a1] => bif ctsEq g0 ([.int .i64]) && ctsEq g1 ([.int .i64]) then some (q16 a0 a1, AV.bool (v16_0 a0 a1)) else none
  | _ => none
theorem k16 : Known Tryd.prog 16 := ⟨Tryd.f16, Tryd.func16, by kernel_rfl, by kernel_rfl⟩
theorem meets16 : Meets Tryd.prog 16 m16 := by
  refine meet (f := Tryd.f16) (l := [(0, sub [1, 1, 0, 1, 0, 0] (body Tryd.f16))]) (hs := [(16, 0, [0, 1, 5]), (16, 999, [4]), (16, 1000, []), (16, 1001, [0, 1, 5])]) (ts := []) (ws := []) (is := []) (ls := [(16, 0, l16_0)]) (lvl := 0) mixed k16 Tryd.func16 (by kernel_rfl) (loops_cons ok16_0 noLoop) allT_nil allM_nil noI fun w xs us r hl hv h => ?_
  unfold m16 at h
  split at h
  · rename_i g0 a0 g1 a1
    obtain ⟨hg, h⟩ := bif_pair h
    simp only [Bool.and_eq_true] at hg
    obtain ⟨q0, q1⟩ := hg
    obtain rfl := ctsEq_eq _ _ q0
    obtain rfl := ctsEq_eq _ _ q1
    obtain ⟨h1, rfl⟩ := pair_inj h
    exact r16 a0 a1 h1
  · cases h

/-! ### 4 loop.example/g01984/laws.FnExactCostLine -/
noncomputable def c4 : Cfg := cfg Tryd.prog [(4, 999, [2])] [(13, m13), (14, m14), (15, m15), (16, m16)] [] [] []
def raw4 (a0 : List AV) : Option AV := (bif decide ((a0.length : Int) > 1048576) then some (AV.bool true)
  else (bif q14 a0 then (bif q13 (v14_0 a0) then (bif q14 a0 then (bif q15 (v14_0 a0) then (bif !((v15_0 (v14_0 a0)).toList == (v13_0 (v14_0 a0)).toList) then some (AV.bool false)
  else (bif q14 a0 then (bif q16 (v14_0 a0) (v14_0 a0) then (bif !(v16_0 (v14_0 a0) (v14_0 a0)) then some (AV.bool false)
  else some (AV.bool true))
  else none)
  else none))
  else none)
  else none)
  else none)
  else none))
theorem e4 (a0 : List AV) : funA c4 0 4 [AV.sl [.int .i64] a0] = raw4 a0 := by kernel_rfl
def m4 : TModel
  | [.sl g0 a0] => bif ctsEq g0 ([.int .i64]) then (raw4 a0).map fun r => (true, r) else none
  | _ => none
theorem k4 : Known Tryd.prog 4 := ⟨Tryd.f4, Tryd.func4, by kernel_rfl, by kernel_rfl⟩
theorem meets4 : Meets Tryd.prog 4 m4 := by
  refine meet (f := Tryd.f4) (l := []) (hs := [(4, 999, [2])]) (ts := [(13, m13), (14, m14), (15, m15), (16, m16)]) (ws := []) (is := []) (ls := []) (lvl := 0) mixed k4 Tryd.func4 (by kernel_rfl) noLoop (allT_cons meets13 (allT_cons meets14 (allT_cons meets15 (allT_cons meets16 allT_nil)))) allM_nil noI fun w xs us r hl hv h => ?_
  unfold m4 at h
  split at h
  · rename_i g0 a0
    obtain ⟨hg, h⟩ := bif_pair h
    have q0 := hg
    obtain rfl := ctsEq_eq _ _ q0
    obtain ⟨r', h1, h2⟩ := Option.map_eq_some_iff.1 h
    obtain ⟨_, rfl⟩ := Prod.mk.inj h2
    exact (e4 a0).trans h1
  · cases h
end Go.Proofs.YtiokajbmckcklaaDoor
