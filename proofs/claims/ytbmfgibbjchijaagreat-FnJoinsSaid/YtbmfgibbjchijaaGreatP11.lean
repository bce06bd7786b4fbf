import Derived.Test.YtbmfgibbjchijaaGreatP10
import Derived.Shelf.SlicesG.Cmp
import Derived.Shelf.SlGeneric
import Derived.StillTailTactics
import Derived.Test.YtbmfgibbjchijaaGreatProg
import Derived.KernelRfl
namespace Go.Proofs.YtbmfgibbjchijaaGreat
open Go Go.Shelf Go.Proofs Go.RowKit Go.Lib Go.Sort
set_option maxRecDepth 100000
def layP_ren:Go.Shelf.Ren:=⟨fun|6=>112|15=>148|14=>147|28=>175|29=>176|20=>167|21=>168|22=>169|23=>170|24=>171|25=>172|26=>173|27=>174|46=>193|47=>194|48=>195|49=>196|50=>197|57=>206|n=>n,fun|22=>49|24=>55|25=>146|3=>3|39=>164|0=>0|53=>200|55=>202|4=>4|46=>194|45=>193|50=>140|5=>5|9=>9|66=>215|70=>219|76=>229|77=>167|n=>n,fun|n=>n⟩
theorem layP:Go.Proofs.SlLaysF0.n6 Tryz.prog layP_ren:={
 mixed:=by kernel_rfl
 f6:=⟨Tryz.f112.name,by decide,Tryz.func112.trans (congrArg some (by kernel_rfl))⟩
 f14:=⟨Tryz.f147.name,by decide,Tryz.func147.trans (congrArg some (by kernel_rfl))⟩
 f15:=Tryz.func148.trans (congrArg some (by kernel_rfl))
 f20:=⟨Tryz.f167.name,by decide,Tryz.func167.trans (congrArg some (by kernel_rfl))⟩
 f21:=⟨Tryz.f168.name,by decide,Tryz.func168.trans (congrArg some (by kernel_rfl))⟩
 f22:=⟨Tryz.f169.name,by decide,Tryz.func169.trans (congrArg some (by kernel_rfl))⟩
 f23:=⟨Tryz.f170.name,by decide,Tryz.func170.trans (congrArg some (by kernel_rfl))⟩
 f24:=⟨Tryz.f171.name,by decide,Tryz.func171.trans (congrArg some (by kernel_rfl))⟩
 f25:=⟨Tryz.f172.name,by decide,Tryz.func172.trans (congrArg some (by kernel_rfl))⟩
 f26:=⟨Tryz.f173.name,by decide,Tryz.func173.trans (congrArg some (by kernel_rfl))⟩
 f27:=⟨Tryz.f174.name,by decide,Tryz.func174.trans (congrArg some (by kernel_rfl))⟩
 f28:=Tryz.func175.trans (congrArg some (by kernel_rfl))
 f29:=Tryz.func176.trans (congrArg some (by kernel_rfl))
 f46:=⟨Tryz.f193.name,by decide,Tryz.func193.trans (congrArg some (by kernel_rfl))⟩
 f47:=Tryz.func194.trans (congrArg some (by kernel_rfl))
 f48:=Tryz.func195.trans (congrArg some (by kernel_rfl))
 f49:=⟨Tryz.f196.name,by decide,Tryz.func196.trans (congrArg some (by kernel_rfl))⟩
 f50:=⟨Tryz.f197.name,by decide,Tryz.func197.trans (congrArg some (by kernel_rfl))⟩
 f57:=⟨Tryz.f206.name,by decide,Tryz.func206.trans (congrArg some (by kernel_rfl))⟩
 t0:=Tryz.underlying0
 a0:=Tryz.isAgg0
 z0:=Tryz.sizeOf0
 v0:=Tryz.zeroValue0
 t3:=Tryz.underlying3
 a3:=Tryz.isAgg3
 z3:=Tryz.sizeOf3
 v3:=Tryz.zeroValue3
 t4:=Tryz.underlying4
 a4:=Tryz.isAgg4
 z4:=Tryz.sizeOf4
 v4:=Tryz.zeroValue4
 t5:=Tryz.underlying5
 a5:=Tryz.isAgg5
 z5:=Tryz.sizeOf5
 v5:=Tryz.zeroValue5
 t9:=Tryz.underlying9
 a9:=Tryz.isAgg9
 z9:=Tryz.sizeOf9
 v9:=Tryz.zeroValue9
 t22:=Tryz.underlying49
 a22:=Tryz.isAgg49
 z22:=Tryz.sizeOf49
 v22:=Tryz.zeroValue49
 t25:=Tryz.underlying146
 a25:=Tryz.isAgg146
 z25:=Tryz.sizeOf146
 v25:=Tryz.zeroValue146
 t39:=Tryz.underlying164
 a39:=Tryz.isAgg164
 z39:=Tryz.sizeOf164
 v39:=Tryz.zeroValue164
 t45:=Tryz.underlying193
 a45:=Tryz.isAgg193
 z45:=Tryz.sizeOf193
 v45:=Tryz.zeroValue193
 t46:=Tryz.underlying194
 a46:=Tryz.isAgg194
 z46:=Tryz.sizeOf194
 v46:=Tryz.zeroValue194
 t50:=Tryz.underlying140
 a50:=Tryz.isAgg140
 z50:=Tryz.sizeOf140
 v50:=Tryz.zeroValue140
 t53:=Tryz.underlying200
 a53:=Tryz.isAgg200
 z53:=Tryz.sizeOf200
 v53:=Tryz.zeroValue200
 t55:=Tryz.underlying202
 a55:=Tryz.isAgg202
 z55:=Tryz.sizeOf202
 v55:=Tryz.zeroValue202
 t66:=Tryz.underlying215
 a66:=Tryz.isAgg215
 z66:=Tryz.sizeOf215
 v66:=Tryz.zeroValue215
 t70:=Tryz.underlying219
 a70:=Tryz.isAgg219
 z70:=Tryz.sizeOf219
 v70:=Tryz.zeroValue219
 t76:=Tryz.underlying229
 a76:=Tryz.isAgg229
 z76:=Tryz.sizeOf229
 v76:=Tryz.zeroValue229
 t77:=Tryz.underlying167
 a77:=Tryz.isAgg167
 z77:=Tryz.sizeOf167
 v77:=Tryz.zeroValue167 }
def layC_ren:Go.Shelf.Ren:=⟨fun|5=>115|7=>149|n=>n,fun|22=>3|3=>3|4=>4|n=>n,fun|n=>n⟩
theorem layC:Go.Proofs.SlLaysC2.n5 Tryz.prog layC_ren:={
 mixed:=by kernel_rfl
 f5:=⟨Tryz.f115.name,by decide,Tryz.func115.trans (congrArg some (by kernel_rfl))⟩
 f7:=⟨Tryz.f149.name,by decide,Tryz.func149.trans (congrArg some (by kernel_rfl))⟩
 t3:=Tryz.underlying3
 a3:=Tryz.isAgg3
 z3:=Tryz.sizeOf3
 v3:=Tryz.zeroValue3
 t4:=Tryz.underlying4
 a4:=Tryz.isAgg4
 z4:=Tryz.sizeOf4
 v4:=Tryz.zeroValue4
 t22:=Tryz.underlying3
 a22:=Tryz.isAgg3
 z22:=Tryz.sizeOf3
 v22:=Tryz.zeroValue3 }
set_option maxHeartbeats 1000000 in
theorem or114 (a b:Int) (bk:Nat) (W:World) (h0:W.cell? ⟨bk,0,none⟩=some (.int .i64 a)) (h1:W.cell? ⟨bk,1,none⟩=some (.int .i64 b)) :
  Calls Tryz.prog 114 #[.slice (some ⟨bk,0,none⟩) 2 2] W fun e w'=>e = .returned (.int .i64 (if a ≠ 0 then a else b))∧w'=W:=by
 by_cases ha:a=0
 ·subst ha
  by_cases hb:b=0
  ·subst hb
   go_enter Tryz.func114,Tryz.ntmps114
   go_wp2
   refine wp_loop_rounds 3 ?_
   rw [rounds_succ]
   go_wp2
   rw [rounds_succ]
   go_wp2
   rw [rounds_succ]
   go_wp2
   go_ret
   exact ⟨rfl,rfl⟩
  ·have hb':(b != 0)=true:=by simpa using hb
   go_enter Tryz.func114,Tryz.ntmps114
   go_wp2
   refine wp_loop_rounds 3 ?_
   rw [rounds_succ]
   go_wp2
   rw [rounds_succ]
   go_wp2
   go_ret
   exact ⟨rfl,rfl⟩
 ·have ha':(a != 0)=true:=by simpa using ha
  go_enter Tryz.func114,Tryz.ntmps114
  go_wp2
  refine wp_loop_rounds 3 ?_
  rw [rounds_succ]
  go_wp2
  go_ret
  exact ⟨rfl,rfl⟩
set_option maxHeartbeats 4000000 in
theorem cmp113 (x1 x2 y1 y2:Int) (W:World):Calls Tryz.prog 113 #[.agg #[.int .i64 x1,.int .i64 x2],.agg #[.int .i64 y1,.int .i64 y2]] W fun e w' =>
  e = .returned (.int .i64 (if Lib.compareInt x1 y1 ≠ 0 then Lib.compareInt x1 y1 else Lib.compareInt x2 y2))∧∃ q os',w'=grow (W.drewN q) os':=by
 have hcon:=fun x y W'=>AnyG.cmp_Compare_int layC x y W'
 change ∀ x y W',Calls Tryz.prog 115 _ _ _ at hcon
 have hor:=or114
 generalize hf:Lib.compareInt=f at hcon ⊢
 clear hf
 generalize hr:(if f x1 y1 ≠ 0 then f x1 y1 else f x2 y2)=r
 go_enter Tryz.func113,Tryz.ntmps113
 go_wp2
 refine wp_region_still_tail 10 (by kernel_rfl) (by kernel_rfl) ?_
 simp only [List.take_succ_cons,List.take_zero,List.drop_succ_cons,List.drop_zero]
 generalize hW2:({ ((W.alloc (Obj.cells #[Value.int IntKind.i64 x1,Value.int IntKind.i64 x2] 55)).alloc (Obj.cells #[Value.int IntKind.i64 y1,Value.int IntKind.i64 y2] 55)) with drawn:=((W.alloc (Obj.cells #[Value.int IntKind.i64 x1,Value.int IntKind.i64 x2] 55)).alloc (Obj.cells #[Value.int IntKind.i64 y1,Value.int IntKind.i64 y2] 55)).drawn+1 }:World)=W2
 replace hW2:W2=((W.alloc (Obj.cells #[Value.int IntKind.i64 x1,Value.int IntKind.i64 x2] 55)).alloc (Obj.cells #[Value.int IntKind.i64 y1,Value.int IntKind.i64 y2] 55)).drew:=hW2.symm
 have c1:W2.cell? ⟨W.heap.size,0,none⟩=some (.int .i64 x1):=by rw [hW2];go_simp
 have c2:W2.cell? ⟨W.heap.size,1,none⟩=some (.int .i64 x2):=by rw [hW2];go_simp
 have c3:W2.cell? ⟨W.heap.size+1,0,none⟩=some (.int .i64 y1):=by rw [hW2];go_simp
 have c4:W2.cell? ⟨W.heap.size+1,1,none⟩=some (.int .i64 y2):=by rw [hW2];go_simp
 still_step
 still_step
 still_step
 still_step
 still_call (hcon _ _ _)
 still_step
 still_step
 still_step
 still_step
 still_call (hcon _ _ _)
 refine wpStill_nil ?_
 refine wpList_step (fun K hK=>?_)
 go_simp
 refine hK _ _ ?_
 clear hK K
 refine wpList_step (fun K hK=>?_)
 go_simp
 refine (or114 (f x1 y1) (f x2 y2) _ _ ?_ ?_).mono ?_
 ·go_simp
 ·go_simp
 rintro e w' ⟨rfl,rfl⟩
 rw [hr]
 go_simp
 refine hK _ _ ?_
 clear hK K
 go_wp2
 go_ret
 exact ⟨rfl,1,_,by rw [alloc_eq_grow,alloc_eq_grow,alloc_eq_grow,grow_grow,grow_grow];rfl⟩
theorem cmpLays113 (blk off size:Nat) (w:World):CmpLays Tryz.prog 113 #[] VE.encP 2 VE.cmpP blk off size w :=
 fun _ _ _ _ x y=>cmp113 x.1 x.2 y.1 y.2 _
theorem sortPWalk (k:VE.Known Tryz.prog 112):VE.SortPWalk Tryz.prog 112 113 where
 known:=k
 some_ blk off cap zs w hH hb hs:=by
  have eg:∀ args w,(callFunc 113 args).run Tryz.prog w = .ok (.enter 113 args) w:=enters_of Tryz.func113 (by kernel_rfl) rfl
  have:=AnyQ.slices_SortFunc_total layP 2 Tryz.isAgg55 Tryz.sizeOf55 VE.encP (fun _=>rfl) (fun x v hv=>by simp [VE.encP] at hv;rcases hv with rfl|rfl <;> rfl) VE.cmpP VE.swoP 113 #[] blk off cap zs.toArray w eg (cmpLays113 blk off _ w) hH hb (by simpa using hs) VE.antiP
  rw [VE.leP_lt] at this
  exact this
 none_ p cap fv w:=AnyF.slices_SortFunc_none layP p cap fv w
end Go.Proofs.YtbmfgibbjchijaaGreat
