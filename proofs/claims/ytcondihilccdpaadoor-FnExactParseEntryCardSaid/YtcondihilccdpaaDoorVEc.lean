import Derived.Test.YtcondihilccdpaaDoorVEb
import Derived.Laws.Cells
import Derived.Laws.IdiomCopy
import Derived.Laws.Sem
import Derived.Below
namespace Go.Proofs.VE
open Go
theorem nmEq_iff:∀ a b:Nm,nmEq a b=true ↔ a=b
 | [],[]=>by simp [nmEq]
 | [],_ :: _=>by simp [nmEq]
 | _ :: _,[]=>by simp [nmEq]
 | a :: x,b :: y=>by
  have ih:=nmEq_iff x y
  unfold nmEq
  cases h:Nat.beq a b with
  | true=>simp [Nat.eq_of_beq_eq_true h,ih]
  | false=>simp [Nat.ne_of_beq_eq_false h]
theorem nmEq_refl (a:Nm):nmEq a a=true:=(nmEq_iff a a).2 rfl
theorem nmEq_ne {a b:Nm} (h:a ≠ b):nmEq a b=false:=by
 cases e:nmEq a b with
 | false=>rfl
 | true=>exact absurd ((nmEq_iff a b).1 e) h
theorem getE_setE:∀ (e:List (Nat × AV)) (d:Nat) (v:AV) (t:Nat),getE (setE e d v) t=if d=t then v else getE e t
 | [],d,v,t=>by
  unfold setE getE
  by_cases h:d=t
  ·subst h;simp
  ·have:Nat.beq d t=false:=by cases e:Nat.beq d t <;> simp_all
   simp [this,h,getE]
 | (s,u) :: r,d,v,t=>by
  have ih:=getE_setE r d v t
  unfold setE
  cases h1:Nat.beq s d with
  | true =>
   have e1:=Nat.eq_of_beq_eq_true h1
   subst e1
   simp only [cond_true,getE]
   by_cases h:s=t
   ·subst h;simp
   ·have:Nat.beq s t=false:=by cases e:Nat.beq s t <;> simp_all
    simp [this,h]
  | false =>
   have n1:=Nat.ne_of_beq_eq_false h1
   simp only [cond_false]
   cases h2:Nat.blt d s with
   | true =>
    simp only [cond_true]
    by_cases h:d=t
    ·subst h;simp [getE]
    ·have:Nat.beq d t=false:=by cases e:Nat.beq d t <;> simp_all
     conv=>lhs;unfold getE
     simp [this,h]
   | false =>
    simp only [cond_false]
    conv=>lhs;unfold getE
    cases h3:Nat.beq s t with
    | true =>
     have e3:=Nat.eq_of_beq_eq_true h3
     subst e3
     simp [getE,Ne.symm n1]
    | false =>
     simp only [cond_false,ih]
     conv=>rhs;unfold getE
     simp [h3]
theorem getH_setH:∀ (h:List (Nm × Blk)) (m:Nm) (b:Blk) (n:Nm),getH (setH h m b) n=if m=n then some b else getH h n
 | [],m,b,n=>by
  unfold setH getH
  by_cases e:m=n
  ·subst e;simp [nmEq_refl]
  ·simp [nmEq_ne e,e,getH]
 | (s,u) :: r,m,b,n=>by
  have ih:=getH_setH r m b n
  unfold setH
  by_cases e1:s=m
  ·subst e1
   simp only [nmEq_refl,cond_true,getH]
   by_cases e:s=n
   ·subst e;simp [nmEq_refl]
   ·simp [nmEq_ne e,e]
  ·simp only [nmEq_ne e1,cond_false]
   cases h2:nmLt m s with
   | true =>
    simp only [cond_true]
    by_cases e:m=n
    ·subst e;simp [getH,nmEq_refl]
    ·conv=>lhs;unfold getH
     simp [nmEq_ne e,e]
   | false =>
    simp only [cond_false]
    conv=>lhs;unfold getH
    by_cases e3:s=n
    ·subst e3
     simp [getH,nmEq_refl,Ne.symm e1]
    ·simp only [nmEq_ne e3,cond_false,ih]
     conv=>rhs;unfold getH
     simp [nmEq_ne e3]
theorem getH_delH:∀ (h:List (Nm × Blk)) (m n:Nm),getH (delH h m) n=if m=n then none else getH h n
 | [],m,n=>by simp [delH,getH]
 | (s,u) :: r,m,n=>by
  have ih:=getH_delH r m n
  unfold delH
  by_cases e1:s=m
  ·subst e1
   simp only [nmEq_refl,cond_true,ih]
   by_cases e:s=n
   ·subst e;simp
   ·simp [e,getH,nmEq_ne e]
  ·simp only [nmEq_ne e1,cond_false]
   conv=>lhs;unfold getH
   by_cases e3:s=n
   ·subst e3;simp [nmEq_refl,Ne.symm e1,getH]
   ·simp only [nmEq_ne e3,cond_false,ih]
    conv=>rhs;unfold getH
    simp [nmEq_ne e3]
theorem kEq_iff (a b:IntKind):kEq a b=true ↔ a=b:=by cases a <;> cases b <;> simp [kEq]
mutual
theorem ctEq_eq:∀ a b:CT,ctEq a b=true→a=b
 | .int k,b,h=>by cases b <;> simp_all [ctEq,kEq_iff]
 | .bool,b,h=>by cases b <;> simp_all [ctEq]
 | .str,b,h=>by cases b <;> simp_all [ctEq]
 | .sl a,.sl b,h=>by simp only [ctEq] at h;rw [ctsEq_eq a b h]
 | .sl a,.int _,h | .sl a,.bool,h | .sl a,.str,h | .sl a,.oth,h | .sl a,.fnc _,h=>by simp [ctEq] at h
 | .fnc a,b,h=>by cases b <;> simp_all [ctEq]
 | .oth,b,h=>by cases b <;> simp_all [ctEq]
theorem ctsEq_eq:∀ a b:List CT,ctsEq a b=true→a=b
 | [],[],_=>rfl
 | [],_ :: _,h=>by simp [ctsEq] at h
 | _ :: _,[],h=>by simp [ctsEq] at h
 | a :: x,b :: y,h=>by
  simp only [ctsEq,Bool.and_eq_true] at h
  rw [ctEq_eq a b h.1,ctsEq_eq x y h.2]
end
def at_ (b o sz i j:Nat):Addr:=⟨b,o+i*sz+j,none⟩
inductive VC (mem:Addr→Option Value):CT→AV→Value→Prop
 | int (k:IntKind) (n:Int):VC mem (.int k) (.int k n) (.int k n)
 | bool (b:Bool):VC mem .bool (.bool b) (.bool b)
 | str (s:ByteArray):VC mem .str (.str s) (.string s)
 | fn (f:Nat):VC mem (.fnc f) (.fn f []) (.func (.func f) #[] #[])
 | sl (e:List CT) (xs:List AV) (a:Option Addr) (cap:Nat) (U:Nat→Nat→Value) (hcap:xs.length≤cap) (hmax:xs.length≤maxLen)
   (hm:∀ i j,i<xs.length→j<e.length→∃ b o,a=some ⟨b,o,none⟩∧mem (at_ b o e.length i j)=some (U i j))
   (ha:0<xs.length→∃ b o,a=some ⟨b,o,none⟩)
   (hx:∀ (i:Nat) (x:AV),xs[i]?=some x→x.cells.length=e.length)
   (hv:∀ (i:Nat) (x:AV) (j:Nat) (ct:CT) (c:AV),xs[i]?=some x→e[j]?=some ct→x.cells[j]?=some c→VC mem ct c (U i j)) :
   VC mem (.sl e) (.sl e xs) (.slice a xs.length cap)
theorem VC.mono {mem mem':Addr→Option Value} (hm:∀ a v,mem a=some v→mem' a=some v) {ct:CT} {c:AV} {v:Value} (h:VC mem ct c v):VC mem' ct c v:=by
 induction h with
 | int k n=>exact .int k n
 | bool b=>exact .bool b
 | str s=>exact .str s
 | fn f=>exact .fn f
 | sl e xs a cap U hcap hmax h1 ha hx _ ih =>
  exact .sl e xs a cap U hcap hmax (fun i j hi hj=>by obtain ⟨b,o,e1,e2⟩:=h1 i j hi hj;exact ⟨b,o,e1,hm _ _ e2⟩) ha hx ih
theorem VC.flat {mem mem':Addr→Option Value} {ct:CT} {c:AV} {v:Value} (h:VC mem ct c v) (hf:flatCT ct=true):VC mem' ct c v:=by
 cases h with
 | int k n=>exact .int k n
 | bool b=>exact .bool b
 | str s=>exact .str s
 | fn=>cases hf
 | sl=>cases hf
theorem VC.oneCell' {mem:Addr→Option Value} {t:CT} {c:AV} {v:Value} (h:VC mem t c v):v.oneCell'=true:=by cases h <;> rfl
structure Dat where
 real:Bool
 loc:Nat × Nat
 width:Nat
 len:Nat
 room:Nat
structure Ctx where
 base:Nat
 w0:World
 mem:Addr→Option Value
 memF:Addr→Option Value:=fun _=>none
 fr:Nat→Prop:=fun _=>False
 dat:Nm→Dat
abbrev Ctx.real (C:Ctx) (nm:Nm):Bool:=(C.dat nm).real
abbrev Ctx.loc (C:Ctx) (nm:Nm):Nat × Nat:=(C.dat nm).loc
abbrev Ctx.width (C:Ctx) (nm:Nm):Nat:=(C.dat nm).width
abbrev Ctx.len (C:Ctx) (nm:Nm):Nat:=(C.dat nm).len
abbrev Ctx.room (C:Ctx) (nm:Nm):Nat:=(C.dat nm).room
def Ctx.at (C:Ctx) (nm:Nm) (i j:Nat):Addr:=at_ (C.loc nm).1 (C.loc nm).2 (C.width nm) i j
inductive VR (C:Ctx):AV→Value→Prop
 | undef (v:Value):VR C .undef v
 | bool (b:Bool):VR C (.bool b) (.bool b)
 | int (k:IntKind) (n:Int):VR C (.int k n) (.int k n)
 | str (s:ByteArray):VR C (.str s) (.string s)
 | nilp:VR C .nilp (.pointer none)
 | nilfn:VR C .nilfn .nilFunc
 | snil:VR C .snil (.slice none 0 0)
 | sle (b:Bool) (tys:List CT) (ad:Option Addr) (cap:Nat) (h:ad.isNone=b):VR C (.sle b tys) (.slice ad 0 cap)
 | ptr (nm:Nm) (i off:Nat) (hr:C.real nm=true) (hi:i<C.len nm):VR C (.ptr nm i off) (.pointer (some (C.at nm i off)))
 | rptr (tys:List CT) (x:AV) (off b o:Nat) (U:Nat→Value) (hm:∀ j,j<tys.length→C.mem ⟨b,o+j,none⟩=some (U j))
   (hx:x.cells.length=tys.length) (hv:∀ (j:Nat) (ct:CT) (c:AV),tys[j]?=some ct→x.cells[j]?=some c→VC C.mem ct c (U j)) :
   VR C (.rptr tys x off) (.pointer (some ⟨b,o+off,none⟩))
 | own (nm:Nm) (cap:Nat) (hr:C.real nm=true) (h1:C.len nm≤cap) (h2:cap≤C.room nm) :
   VR C (.own nm) (.slice (some (C.at nm 0 0)) (C.len nm) cap)
 | ownNil (nm:Nm) (h:C.len nm=0):VR C (.own nm) (.slice none 0 0)
 | sub (nm:Nm) (lo n cap:Nat) (a:Option Addr) (h1:n≤cap) (h2:0<n→C.real nm=true∧a=some (C.at nm lo 0))
   (h3:(C.real nm=true∧∃ l,a=some (C.at nm l 0)∧l+cap≤C.room nm)∨(a=none∧cap=0)) (h4:lo+n≤C.len nm) :
   VR C (.sub nm lo n) (.slice a n cap)
 | sl (tys:List CT) (xs:List AV) (v:Value) (h:VC C.mem (.sl tys) (.sl tys xs) v):VR C (.sl tys xs) v
 | fn (f:Nat) (cs:List AV) (vs:List Value) (h1:cs.length=vs.length) (h2:∀ (i:Nat) (c:AV) (v:Value),cs[i]?=some c→vs[i]?=some v→VR C c v) :
   VR C (.fn f cs) (.func (.func f) #[] vs.toArray)
 | agg (cs:List AV) (vs:List Value) (h1:cs.length=vs.length) (h2:∀ (i:Nat) (c:AV) (v:Value),cs[i]?=some c→vs[i]?=some v→VR C c v)
   (h3:∀ v,v ∈ vs→v.oneCell'=true):VR C (.agg cs) (.agg vs.toArray)
 | tup (cs:List AV) (vs:List Value) (h1:cs.length=vs.length) (h2:∀ (i:Nat) (c:AV) (v:Value),cs[i]?=some c→vs[i]?=some v→VR C c v) :
   VR C (.tup cs) (.tuple vs.toArray)
class Glob where
 ok:World→Prop
 n:Nat
 stable:∀ w w':World,(∀ k,k<n→w'.heap[k]?=w.heap[k]?)→ok w→ok w'
def cellR (C:Ctx) (b:Blk) (j:Nat) (c:AV) (u:Value):Prop :=
 u.oneCell'=true∧if b.box then VR C c u else ∃ ct,b.tys[j]?=some ct∧VC C.memF ct c u
structure BlkR (C:Ctx) (w:World) (nm:Nm) (b:Blk):Prop where
 max:b.xs.length≤maxLen
 len:C.len nm=b.xs.length
 width:b.box=false→C.width nm=b.tys.length
 box:b.box=true→b.xs.length=1∧C.real nm=true
 nilb:C.real nm=false→b.xs=[]
 cells:∀ i x,b.xs[i]?=some x→x.cells.length=C.width nm∧∀ j c,x.cells[j]?=some c→∃ u,w.cell? (C.at nm i j)=some u∧cellR C b j c u
 room:C.real nm=true→C.base≤(C.loc nm).1∧(C.loc nm).1<w.heap.size∧b.xs.length≤C.room nm∧∀ o,o<C.room nm*C.width nm →
  (w.cell? ⟨(C.loc nm).1,(C.loc nm).2+o,none⟩).isSome=true∧w.frozen? ⟨(C.loc nm).1,(C.loc nm).2+o,none⟩=false
 froz:C.real nm=true→0<C.room nm*C.width nm→∀ o,w.frozen? ⟨(C.loc nm).1,o,none⟩=false
structure HSim [Glob] (C:Ctx) (heap:List (Nm × Blk)) (w:World):Prop where
 blk:∀ nm b,getH heap nm=some b→BlkR C w nm b
 apart:∀ nm b nm' b',getH heap nm=some b→getH heap nm'=some b'→C.real nm=true→C.real nm'=true→nm ≠ nm'→(C.loc nm).1 ≠ (C.loc nm').1
 mem:∀ a v,C.mem a=some v→w.cell? a=some v∧a.block<w.heap.size∧∀ nm b,getH heap nm=some b→C.real nm=true→(C.loc nm).1 ≠ a.block
 grown:C.base≤w.heap.size
 kept:RowKit.Below C.base C.w0 w
 blk0:∀ a v,C.mem a=some v→C.memF a=none→w.heap[a.block]?=C.w0.heap[a.block]?
 own:∀ a v,C.memF a=some v→C.mem a=some v∧C.base≤a.block
 glob:Glob.ok C.w0∧Glob.n≤C.base
 frame:∀ k,C.fr k→k<C.w0.heap.size∧w.heap[k]?=C.w0.heap[k]?∧∀ nm b,getH heap nm=some b→C.real nm=true→(C.loc nm).1 ≠ k
theorem HSim.globW [Glob] {C:Ctx} {heap:List (Nm × Blk)} {w:World} (h:HSim C heap w):Glob.ok w∧Glob.n≤w.heap.size :=
 ⟨Glob.stable C.w0 w (fun k hk=>h.kept.block k (Nat.lt_of_lt_of_le hk h.glob.2)) h.glob.1,Nat.le_trans h.glob.2 h.grown⟩
structure Sim [Glob] (C:Ctx) (nt:Nat) (st:St) (a:Act) (w:World):Prop extends HSim C st.heap w where
 size:a.tmps.size=nt
 defers:a.defers=[]
 env:∀ t,VR C (getE st.env t) (a.tmps.getD t undef)
theorem VR.agg_inv {C:Ctx} {cs:List AV} {v:Value} (h:VR C (.agg cs) v):∃ vs:List Value,v = .agg vs.toArray∧cs.length=vs.length∧(∀ (i:Nat) (c:AV) (v:Value),cs[i]?=some c→vs[i]?=some v→VR C c v)∧∀ v,v ∈ vs→v.oneCell'=true:=by
 cases h with
 | agg cs vs h1 h2 h3=>exact ⟨vs,rfl,h1,h2,h3⟩
end Go.Proofs.VE
