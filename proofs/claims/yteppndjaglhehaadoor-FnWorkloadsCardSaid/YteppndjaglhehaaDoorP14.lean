import Derived.Test.YteppndjaglhehaaDoorP9
import Derived.Test.YteppndjaglhehaaDoorP7
import Derived.Test.YteppndjaglhehaaDoorP10
import Derived.Test.YteppndjaglhehaaDoorP11
import Derived.Test.YteppndjaglhehaaDoorP12
import Derived.Test.YteppndjaglhehaaDoorP13
import Derived.Lib.AtoiErrMem
import Derived.WalkKit
import Derived.BigCall
import Derived.BigGuard
namespace Go.Proofs.YteppndjaglhehaaDoor
open Go Go.Proofs.VE Go.Shelf Go.RowKit Go.Proofs
set_option linter.unusedVariables false
theorem splitWalk (k:Known Tryd.prog 57):SplitWalk Tryd.prog 57:=⟨k,fun s sep w (hG:GOk w) h0 h1=>by
 obtain ⟨m,hm⟩:=hG.max
 refine (Any.strings_Split { lays146 with } lays146.i9 s sep m w h0 hm h1).mono fun e w' hw=>?_
 obtain ⟨rfl,rfl⟩:=hw
 exact ⟨rfl,_,rfl⟩⟩
theorem cutWalk (k:Known Tryd.prog 78):CutWalk Tryd.prog 78:=⟨k,fun s sep w (hG:GOk w) h0=>by
 obtain ⟨m,hm⟩:=hG.max
 exact Any.strings_Cut lays145 s sep m w h0 hm⟩
theorem GOk.below {w w':World} (h:GOk w) (hn:8≤w.heap.size) (hb:Below w.heap.size w w'):GOk w':=ok_stable w w' (fun k hk=>hb.block k (by omega)) h
theorem pint_ok {s:ByteArray} {v:Int} (h:Lib.atoiAll s.data.toList = .ok v):pintN s=if Lib.itoa v=s.toList∧v≤999999999 ∧ -999999999≤v then some v else none:=by
 unfold pintN
 rw [h,Lib.toList_data]
 by_cases h1:Lib.itoa v=s.data.toList
 ·by_cases h2:v≤999999999
  ·by_cases h3 : -999999999≤v
   ·simp [h1,h2,h3]
   ·simp [h1,h2,h3]
  ·simp [h1,h2]
 ·rw [if_neg (fun g=>h1 g.1)]
  show (bif Lib.itoa v == s.data.toList && (decide (-999999999≤v) && decide (v≤999999999)) then some v else none)=none
  rw [(beq_eq_false_iff_ne.2 h1:(Lib.itoa v == s.data.toList)=false)]
  rfl
set_option maxRecDepth 100000 in
theorem fintCalls (n:Int) (w:World) (h0 : -9223372036854775808≤n) (h1:n≤9223372036854775807) (hG:GOk w) :
  Calls Tryd.prog 41 #[.int .i64 n] w fun e w'=>e = .returned (.string ⟨(Lib.itoa n).toArray⟩)∧Below w.heap.size w w':=by
 go_enter Tryd.func41,Tryd.ntmps41
 go_wp2_with (go_at_call 67;refine (Any.strconv_Itoa lays171 n h0 h1 _ hG.tab).mono ?_;rintro e w' ⟨rfl,k,os,rfl⟩)
 go_ret
 exact ⟨rfl,below_grow _ w k os (Nat.le_refl _)⟩
set_option maxRecDepth 100000 in
set_option maxHeartbeats 2000000 in
theorem pintCalls (s:ByteArray) (w:World) (hG:GOk w) (hn:8≤w.heap.size) (hs:s.size≤281474976710656) :
  Calls Tryd.prog 79 #[.string s] w fun e w'=>e = .returned (.tuple #[.int .i64 ((pintN s).getD 0),.bool (pintN s).isSome])∧Below w.heap.size w w':=by
 obtain ⟨ev0,hv0,he0⟩:=hG.syn
 obtain ⟨ev1,hv1,he1⟩:=hG.rng
 rcases h:Lib.atoiAll s.data.toList with v|_|_
 ·obtain ⟨b0,b1⟩:=Lib.atoiAll_bounds h
  go_enter Tryd.func79,Tryd.ntmps79
  go_wp2_with (go_at_call 96;refine (Any.strconv_Atoi_ok lays172 s (by omega) v h _).mono ?_)
  rintro e w1 ⟨rfl,hw⟩
  have hb1:Below w.heap.size w w1:=by
   rcases hw with rfl|⟨t,rfl⟩
   ·exact Below.refl _ _
   ·exact Lib.bytesWorld_below _ _ _
  clear hw
  go_wp2_with (go_at_call 41;refine (fintCalls v _ b0 b1 (hG.below hn hb1)).mono ?_)
  rintro e w2 ⟨rfl,hb2⟩
  go_wp2
  all_goals (go_ret2;refine ⟨?_,hb1.trans (hb2.mono hb1.size)⟩;rw [pint_ok h];first|(simp [*];done)|(rw [if_neg (by omega)];rfl)|(rw [if_neg (fun g=>by simp_all)];rfl))
 ·have hr:pintN s=none:=by unfold pintN;rw [h]
  rw [hr]
  go_enter Tryd.func79,Tryd.ntmps79
  go_wp2_with (go_at_call 96;refine (Any.strconv_Atoi_syntax lays172 s hs h ev0 _ ?_ he0).mono ?_)
  ·exact hv0
  rintro e W1 ⟨N,rfl,-,-,hb⟩
  go_wp2
  go_ret2
  exact ⟨rfl,hb⟩
 ·have hr:pintN s=none:=by unfold pintN;rw [h]
  rw [hr]
  go_enter Tryd.func79,Tryd.ntmps79
  go_wp2_with (go_at_call 96;refine (Any.strconv_Atoi_range lays172 s hs h ev1 _ ?_ he1).mono ?_)
  ·exact hv1
  rintro e W1 ⟨N,rfl,-,-,hb⟩
  go_wp2
  go_ret2
  exact ⟨rfl,hb⟩
theorem pintWalk (k:Known Tryd.prog 79):PintWalk Tryd.prog 79:=⟨k,fun s w hG hs=>pintCalls s w hG.1 hG.2 hs⟩
end Go.Proofs.YteppndjaglhehaaDoor
