import Derived.Test.YteppndjaglhehaaDoorP6
import Derived.Shelf.Strings.Cut
import Derived.Shelf.Strings.Split
import Derived.Lib.AtoiAllCases
namespace Go.Proofs.VE
open Go
theorem retOK_plain {w w':World} {r:AV} {u:Value} (hi:∀ p,impV p r=(r,[])) (h:∀ C:Ctx,VR C r u):RetOK w w' r u:=fun p=>⟨[],fun _=>none,by rw [hi p];exact .nil,.nil,(fun _ _ h=>by cases h),fun C _=>by rw [hi p];exact h C⟩
theorem retOK_new {w:World} {t:TypeId} {ct:CT} {cs:List AV} {us:Array Value} (hl:us.size=cs.length) (hmax:cs.length≤maxLen) (hc:∀ (i:Nat) (x:AV),cs[i]?=some x→x.cells=[x]∧∃ u,us[i]?=some u∧u.oneCell'=true∧∀ m,VC m ct x u) :
  RetOK w (w.alloc (.cells us t)) (.fl [ct] cs) (.slice (some ⟨w.heap.size,0,none⟩) cs.length cs.length):=fun p=>by
 refine ⟨[(p,⟨true,(w.heap.size,0),1,cs.length,cs.length⟩)],fun _=>none,.cons _ _ _ _ _ ?_ rfl .nil,.cons (fun _ h=>by cases h) .nil,(fun _ _ h=>by cases h),fun C hC=>?_⟩
 ·refine newBlk (w:=w) (ctxT_dat _ _ _) (Nat.le_refl _) (fun _=>rfl) (fun h=>by cases h) hmax (Nat.le_refl _) (by rw [hl,Nat.mul_one];exact Nat.le_refl _) (fun i x hx=>?_)
  obtain ⟨h1,u,h2,h3,h4⟩:=hc i x hx
  refine ⟨by rw [h1];rfl,fun j c hj=>?_⟩
  rw [h1] at hj
  cases j with
  | succ j=>cases hj
  | zero =>
   obtain rfl:=Option.some.inj hj
   exact ⟨u,by rw [Nat.mul_one];exact h2,h3,⟨ct,rfl,h4 _⟩⟩
 ·have e:C.dat p=⟨true,(w.heap.size,0),1,cs.length,cs.length⟩:=hC _ (List.mem_singleton.2 rfl)
  have g:VR C (.own p) (.slice (some (C.at p 0 0)) (C.len p) cs.length) := .own p cs.length (by unfold Ctx.real;rw [e]) (by unfold Ctx.len;rw [e];exact Nat.le_refl _) (by unfold Ctx.room;rw [e];exact Nat.le_refl _)
  have e1:C.at p 0 0=⟨w.heap.size,0,none⟩:=by unfold Ctx.at Ctx.loc Ctx.width at_;rw [e];simp
  have e2:C.len p=cs.length:=by unfold Ctx.len;rw [e]
  rw [e1,e2] at g
  exact g
def splitL (s sep:ByteArray):List AV:=(Lib.splitB sep 0 (Lib.countB s sep) s).map AV.str
def splitM:TModel
 | [.str s,.str sep]=>some (decide (s.size<4294967281) && decide (1≤sep.size),.fl [.str] (splitL s sep))
 | _=>none
structure SplitWalk [Glob] (P:Program) (g:FuncId):Prop where
 known:Known P g
 calls:∀ (s sep:ByteArray) (w:World),Glob.ok w→s.size<4294967281→1≤sep.size →
  Calls P g #[.string s,.string sep] w fun e w'=>e = .returned (.slice (some ⟨w.heap.size,0,none⟩) (Lib.countB s sep+1) (Lib.countB s sep+1))∧∃ t,w'=w.alloc (.cells ((Lib.splitB sep 0 (Lib.countB s sep) s).map Value.string).toArray t)
theorem below_alloc (w:World) (o:Obj):RowKit.Below w.heap.size w (w.alloc o) :=
 ⟨rfl,rfl,rfl,by simp,fun j hj=>RowKit.Below.heap_alloc w o j hj⟩
theorem split_meets [Glob] {P:Program} {g:FuncId} (h:SplitWalk P g):Meets P g splitM:=by
 refine ⟨h.known,fun xs r hm w us hG hl hv=>?_⟩
 unfold splitM at hm
 split at hm
 ·rename_i s sep
  simp only [Option.some.injEq,Prod.mk.injEq,Bool.and_eq_true,decide_eq_true_eq] at hm
  obtain ⟨⟨h0,h1⟩,rfl⟩:=hm
  match us,hl with
  | [u0,u1],_ =>
  have v0:=hv 0 _ _ rfl rfl
  have v1:=hv 1 _ _ rfl rfl
  cases v0
  cases v1
  refine (h.calls s sep w hG.1 h0 h1).mono fun e w' hw=>?_
  obtain ⟨rfl,t,rfl⟩:=hw
  have hn:(Lib.splitB sep 0 (Lib.countB s sep) s).length=Lib.countB s sep+1:=Lib.splitB_all sep h1 0 _ s rfl
  have hc:=Lib.countB_le sep h1 s.size s (Nat.le_refl _)
  refine ⟨_,rfl,below_alloc _ _,?_⟩
  have g:=retOK_new (w:=w) (t:=t) (ct := .str) (cs:=splitL s sep) (us:=((Lib.splitB sep 0 (Lib.countB s sep) s).map Value.string).toArray) (by unfold splitL;simp) (by unfold splitL maxLen;rw [List.length_map,hn];omega) (fun i x hx=>by
   unfold splitL at hx
   rw [List.getElem?_map] at hx
   obtain ⟨b,hb,rfl⟩:=Option.map_eq_some_iff.1 hx
   exact ⟨rfl,.string b,by simp [hb],rfl,fun m => .str b⟩)
  have e:(splitL s sep).length=Lib.countB s sep+1:=by unfold splitL;rw [List.length_map,hn]
  rw [e] at g
  exact g
 ·cases hm
def cutA (s sep:ByteArray):ByteArray:=⟨(Lib.cut s.data.toList sep.data.toList).1.toArray⟩
def cutB (s sep:ByteArray):ByteArray:=⟨(Lib.cut s.data.toList sep.data.toList).2.1.toArray⟩
def cutM:TModel
 | [.str s,.str sep]=>some (decide (s.size<4294967281),.tup [.str (cutA s sep),.str (cutB s sep),.bool (Lib.cut s.data.toList sep.data.toList).2.2])
 | _=>none
structure CutWalk [Glob] (P:Program) (g:FuncId):Prop where
 known:Known P g
 calls:∀ (s sep:ByteArray) (w:World),Glob.ok w→s.size<4294967281 →
  Calls P g #[.string s,.string sep] w fun e w'=>e = .returned (.tuple #[.string (cutA s sep),.string (cutB s sep),.bool (Lib.cut s.data.toList sep.data.toList).2.2])∧∃ n,w'=w.drewN n
theorem below_drewN (w:World) (n:Nat):RowKit.Below w.heap.size w (w.drewN n):=⟨rfl,rfl,rfl,Nat.le_refl _,fun _ _=>rfl⟩
theorem cut_meets [Glob] {P:Program} {g:FuncId} (h:CutWalk P g):Meets P g cutM:=by
 refine ⟨h.known,fun xs r hm w us hG hl hv=>?_⟩
 unfold cutM at hm
 split at hm
 ·rename_i s sep
  simp only [Option.some.injEq,Prod.mk.injEq,decide_eq_true_eq] at hm
  obtain ⟨h0,rfl⟩:=hm
  match us,hl with
  | [u0,u1],_ =>
  have v0:=hv 0 _ _ rfl rfl
  have v1:=hv 1 _ _ rfl rfl
  cases v0
  cases v1
  refine (h.calls s sep w hG.1 h0).mono fun e w' hw=>?_
  obtain ⟨rfl,n,rfl⟩:=hw
  refine ⟨_,rfl,below_drewN _ _,retOK_plain (fun p=>rfl) (fun C=>?_)⟩
  refine .tup _ [_,_,_] rfl (fun i c v hc hv=>?_)
  match i,hc,hv with
  | 0,hc,hv=>cases hc;cases hv;exact .str _
  | 1,hc,hv=>cases hc;cases hv;exact .str _
  | 2,hc,hv=>cases hc;cases hv;exact .bool _
  | i+3,hc,hv=>cases hc
 ·cases hm
def pintN (s:ByteArray):Option Int :=
 match Lib.atoiAll s.data.toList with
 | .ok v=>bif (Lib.itoa v == s.data.toList) && (decide (-999999999≤v) && decide (v≤999999999)) then some v else none
 | _=>none
def pintM:TModel
 | [.str s]=>some (decide (s.size≤281474976710656),.tup [.int .i64 ((pintN s).getD 0),.bool (pintN s).isSome])
 | _=>none
structure PintWalk [Glob] (P:Program) (g:FuncId):Prop where
 known:Known P g
 calls:∀ (s:ByteArray) (w:World),Glob.ok w∧Glob.n≤w.heap.size→s.size≤281474976710656 →
  Calls P g #[.string s] w fun e w'=>e = .returned (.tuple #[.int .i64 ((pintN s).getD 0),.bool (pintN s).isSome])∧RowKit.Below w.heap.size w w'
theorem pint_meets [Glob] {P:Program} {g:FuncId} (h:PintWalk P g):Meets P g pintM:=by
 refine ⟨h.known,fun xs r hm w us hG hl hv=>?_⟩
 unfold pintM at hm
 split at hm
 ·rename_i s
  simp only [Option.some.injEq,Prod.mk.injEq,decide_eq_true_eq] at hm
  obtain ⟨h0,rfl⟩:=hm
  match us,hl with
  | [u0],_ =>
  have v0:=hv 0 _ _ rfl rfl
  cases v0
  refine (h.calls s w hG h0).mono fun e w' hw=>?_
  obtain ⟨rfl,hb⟩:=hw
  refine ⟨_,rfl,hb,retOK_plain (fun p=>rfl) (fun C=>?_)⟩
  refine .tup _ [_,_] rfl (fun i c v hc hv=>?_)
  match i,hc,hv with
  | 0,hc,hv=>cases hc;cases hv;exact .int _ _
  | 1,hc,hv=>cases hc;cases hv;exact .bool _
  | i+2,hc,hv=>cases hc
 ·cases hm
end Go.Proofs.VE
