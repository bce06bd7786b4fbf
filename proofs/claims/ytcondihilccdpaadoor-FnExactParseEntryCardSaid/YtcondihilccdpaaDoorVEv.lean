import Derived.Test.YtcondihilccdpaaDoorVEu
import Derived.WalkKit
import Derived.ProofKit
import Derived.OpenShut
import Derived.ShutString
import Derived.ChangeOld
import Derived.SizedLaws
namespace Go.Proofs.VE
open Go
inductive TW:CT→AV→Prop
 | int (k:IntKind) (n:Int) (h:(Lit.int k n).wf=true):TW (.int k) (.int k n)
 | bool (b:Bool):TW .bool (.bool b)
 | str (s:ByteArray) (h:s.size≤maxLen):TW .str (.str s)
 | sl (e:List CT) (xs:List AV) (hl:xs.length≤maxLen) (hx:∀ x ∈ xs,x.cells.length=e.length)
   (hv:∀ (x:AV) (j:Nat) (ct:CT) (c:AV),x ∈ xs→e[j]?=some ct→x.cells[j]?=some c→TW ct c):TW (.sl e) (.sl e xs)
def TWs (e:List CT) (cs:List AV):Prop:=cs.length=e.length∧∀ (j:Nat) (ct:CT) (c:AV),e[j]?=some ct→cs[j]?=some c→TW ct c
def TA (P:Program) (t:TypeId) (x:AV):Prop :=
 (aggT P t=some true∧∃ cs,x = .agg cs∧TWs (ctsT P 7 t) cs)∨(aggT P t=some false∧∃ ct,ctsT P 7 t=[ct]∧TW ct x)
def layB (P:Program) (n:Nat):Nat→List Field→Bool
 | _,[]=>true
 | off,f :: fs=>Nat.beq f.offset off && Nat.beq (ctsT P n f.type).length (P.cellsOf f.type) && layB P n (off+P.cellsOf f.type) fs
def goodT (P:Program):Nat→TypeId→Bool
 | 0,_=>false
 | n+1,t =>
  match P.underlying t with
  | some .bool|some (.int _)|some .string=>true
  | some (.slice e)=>goodT P n e && Nat.blt 0 (P.cellsOf e) && Nat.beq (ctsT P n e).length (P.cellsOf e)
  | some (.struct fs)=>fs.toList.all (fun f=>goodT P n f.type) && layB P n 0 fs.toList && Nat.beq (fs.toList.flatMap fun f=>ctsT P n f.type).length (P.cellsOf t)
  | _=>false
section
variable {H:Type} {enc:TypeId × Value→H} {P:Program} {w:World} {base:Nat} {spare:Nat→Bool} {held:Bool}
inductive Opn (w:World):List CT→List AV→List Value→Prop
 | nil:Opn w [] [] []
 | cons (t:CT) (c:AV) (v:Value) (ts:List CT) (cs:List AV) (vs:List Value) (h1:VC w.cell? t c v) (h2:TW t c) (h:Opn w ts cs vs):Opn w (t :: ts) (c :: cs) (v :: vs)
theorem Opn.append {a a':List CT} {b b':List AV} {c c':List Value} (h:Opn w a b c) (k:Opn w a' b' c'):Opn w (a++a') (b++b') (c++c'):=by
 induction h with
 | nil=>exact k
 | cons t x v ts cs vs h1 h2 _ ih=>exact .cons t x v _ _ _ h1 h2 ih
theorem Opn.spec {a:List CT} {b:List AV} {c:List Value} (h:Opn w a b c):b.length=a.length∧c.length=a.length∧∀ (j:Nat) (ct:CT) (x:AV),a[j]?=some ct→b[j]?=some x→TW ct x∧∃ v,c[j]?=some v∧VC w.cell? ct x v:=by
 induction h with
 | nil=>exact ⟨rfl,rfl,fun j ct x h=>by simp at h⟩
 | cons t x v ts cs vs h1 h2 _ ih =>
  obtain ⟨i1,i2,i3⟩:=ih
  refine ⟨by simp [i1],by simp [i2],fun j ct y hc hy=>?_⟩
  cases j with
  | zero=>simp at hc hy;subst hc;subst hy;exact ⟨h2,v,rfl,h1⟩
  | succ j=>exact i3 j ct y (by simpa using hc) (by simpa using hy)
theorem cells_get {a:Addr} {n:Nat} {cs:List Value} (h:w.cells? base a n=some cs):cs.length=n∧∀ j,j<n→w.cell? (a.add j)=cs[j]?:=by
 unfold World.cells? at h
 split at h
 ·refine ⟨by simpa using mapM_some_length h,fun j hj=>?_⟩
  have:=mapM_some_get h j j (by simp [hj])
  exact this
 ·cases h
theorem open_fields {n fuel:Nat} {cs:List Value} (ih:∀ (t:TypeId) (cs:List Value) (x:DataW H × List MemPlace),goodT P n t=true→DataW.trod enc P w base spare held fuel t cs=some x→∃ ys,Opn w (ctsT P n t) ys cs) :
  ∀ (fs:List Field) (off:Nat),layB P n off fs=true→(∀ f ∈ fs,goodT P n f.type=true∧∃ x,DataW.trod enc P w base spare held fuel f.type ((cs.drop f.offset).take (P.cellsOf f.type))=some x) →
   ∃ ys,Opn w (fs.flatMap fun f=>ctsT P n f.type) ys ((cs.drop off).take (fs.flatMap fun f=>ctsT P n f.type).length)
 | [],off,_,_=>⟨[],by simpa using Opn.nil⟩
 | f :: fs,off,hl,hf=>by
  simp only [layB,Bool.and_eq_true] at hl
  obtain ⟨⟨h1,h2⟩,h3⟩:=hl
  have h1:=Nat.eq_of_beq_eq_true h1
  have h2:=Nat.eq_of_beq_eq_true h2
  obtain ⟨g1,x,g2⟩:=hf f List.mem_cons_self
  obtain ⟨ys,k1⟩:=ih _ _ x g1 g2
  obtain ⟨zs,k2⟩:=open_fields ih fs (off+P.cellsOf f.type) h3 fun f' hf'=>hf f' (List.mem_cons_of_mem _ hf')
  refine ⟨ys++zs,?_⟩
  simp only [List.flatMap_cons,List.length_append]
  have e:(cs.drop off).take ((ctsT P n f.type).length+(fs.flatMap fun f=>ctsT P n f.type).length) =
    (cs.drop f.offset).take (P.cellsOf f.type)++(cs.drop (off+P.cellsOf f.type)).take (fs.flatMap fun f=>ctsT P n f.type).length:=by
   rw [List.take_add,h1,h2,List.drop_drop]
  rw [e]
  exact k1.append k2
theorem open_cells:∀ (n:Nat) (fuel:Nat) (t:TypeId) (cs:List Value) (x:DataW H × List MemPlace),goodT P n t=true→DataW.trod enc P w base spare held fuel t cs=some x→∃ ys,Opn w (ctsT P n t) ys cs
 | 0,_,_,_,_,h,_=>by cases h
 | n+1,fuel,t,cs,x,h,hd=>by
  unfold goodT at h
  cases ht:P.underlying t with
  | none=>rw [ht] at h;cases h
  | some d =>
   have hc:ctsT P (n+1) t=(match (some d:Option TypeDesc) with
    | some .bool=>[.bool]
    | some (.int k)=>[.int k]
    | some .string=>[.str]
    | some (.slice e)=>[.sl (ctsT P n e)]
    | some (.struct fs)=>fs.toList.flatMap fun f=>ctsT P n f.type
    | some (.array k e)=>(List.replicate k e).flatMap fun e=>ctsT P n e
    | _=>[.oth]):=by rw [← ht];rfl
   rw [ht] at h
   rw [hc]
   cases d <;> first|(cases h;done)|skip
   ·obtain ⟨b,rfl,_⟩:=DataW.trod_bool ht hd
    exact ⟨[.bool b],.cons _ _ _ _ _ _ (.bool b) (.bool b) .nil⟩
   ·obtain ⟨m,rfl,_,hw⟩:=DataW.trod_int ht hd
    exact ⟨[.int _ m],.cons _ _ _ _ _ _ (.int _ m) (.int _ m hw) .nil⟩
   ·obtain ⟨s,rfl,_,hs⟩:=DataW.trod_string ht hd
    exact ⟨[.str s],.cons _ _ _ _ _ _ (.str s) (.str s hs) .nil⟩
   all_goals first
    | (
      rename_i fs
      simp only [Bool.and_eq_true,List.all_eq_true] at h
      obtain ⟨⟨h1,h2⟩,h3⟩:=h
      obtain ⟨xs,m,rfl,rfl,hlen,hxs,hf⟩:=DataW.trod_struct ht hd
      obtain ⟨ys,hy⟩:=open_fields (cs:=cs) (fun t cs x g1 g2=>open_cells n m t cs x g1 g2) fs.toList 0 h2 fun f hf'=>by
       obtain ⟨i,hi⟩:=List.getElem?_of_mem hf'
       have hi':fs[i]?=some f:=by simpa using hi
       have hlt:i<xs.length:=by rw [hxs];exact (Array.getElem?_eq_some_iff.1 hi').1
       exact ⟨h1 f hf',xs[i],by rw [hf i f hi',List.getElem?_eq_getElem hlt]⟩
      refine ⟨ys,?_⟩
      rw [List.drop_zero,Nat.eq_of_beq_eq_true h3,← hlen,List.take_length] at hy
      exact hy)
    | (
      rename_i e
      simp only [Bool.and_eq_true] at h
      obtain ⟨⟨h1,h2⟩,h3⟩:=h
      have h2:0<P.cellsOf e:=Nat.le_of_ble_eq_true h2
      have h3:=Nat.eq_of_beq_eq_true h3
      rcases DataW.trod_slice ht hd with ⟨rfl,_⟩|⟨a,len,cap,elems,rest,m,rfl,rfl,_,_,hl,hm,hlen,hel,_⟩
      ·exact ⟨[.sl (ctsT P n e) []],.cons _ _ _ _ _ _ (.sl _ [] none 0 (fun _ _=>undef) (Nat.le_refl 0) (by simp) (fun i j hi=>by simp at hi) (fun h0=>by simp at h0) (fun i x hx=>by simp at hx) (fun i x j ct c hx=>by simp at hx))
        (.sl _ [] (by simp) (fun x hx=>by simp at hx) (fun x j ct c hx=>by simp at hx)) .nil⟩
      ·have each:∀ i,∃ p:List AV × List Value,i<len→Opn w (ctsT P n e) p.1 p.2∧∀ j,j<P.cellsOf e→w.cell? ((a.add (i*P.cellsOf e)).add j)=p.2[j]?:=fun i=>by
        by_cases hi:i<len
        ·have:=hel i hi
         rw [List.getElem?_eq_getElem (by omega)] at this
         obtain ⟨vs,g1,g2⟩:=Option.bind_eq_some_iff.1 this
         obtain ⟨ys,g3⟩:=open_cells n m e vs _ h1 g2
         exact ⟨(ys,vs),fun _=>⟨g3,(cells_get g1).2⟩⟩
        ·exact ⟨([],[]),fun h=>absurd h hi⟩
       obtain ⟨f,hf⟩:=Classical.skolem.1 each
       have hxs:((List.range len).map fun i=>AV.agg (f i).1).length=len:=by simp
       have get:∀ (i:Nat) (x:AV),((List.range len).map fun i=>AV.agg (f i).1)[i]?=some x→i<len∧x = .agg (f i).1:=fun i x hx=>by
        have hi:i<len:=by have:=(List.getElem?_eq_some_iff.1 hx).1;simpa using this
        rw [List.getElem?_map,List.getElem?_range hi] at hx
        exact ⟨hi,(Option.some.inj hx).symm⟩
       have spot:0<len→a.spot=none:=fun h0=>by
        obtain ⟨g1,g2⟩:=hf 0 h0
        obtain ⟨_,k2,_⟩:=g1.spec
        have:=g2 0 h2
        rw [List.getElem?_eq_getElem (by rw [k2,h3];exact h2)] at this
        have e0:(a.add (0*P.cellsOf e)).add 0=a:=by simp [Addr.add]
        rw [e0] at this
        unfold World.cell? at this
        split at this
        ·split at this
         ·cases this
         ·rename_i hsp
          simpa using hsp
        ·cases this
       refine ⟨[.sl (ctsT P n e) ((List.range len).map fun i=>AV.agg (f i).1)],?_⟩
       have hVC:VC w.cell? (.sl (ctsT P n e)) (.sl (ctsT P n e) ((List.range len).map fun i=>AV.agg (f i).1)) (.slice (some a) ((List.range len).map fun i=>AV.agg (f i).1).length cap):=by
        refine .sl _ _ (some a) cap (fun i j=>((f i).2[j]?).getD undef) (by rw [hxs];exact hl) (by rw [hxs];omega) ?_ ?_ ?_ ?_
        ·intro i j hi hj
         rw [hxs] at hi
         have hs:=spot (by omega)
         obtain ⟨b,o,sp⟩:=a
         simp only at hs
         subst hs
         refine ⟨b,o,rfl,?_⟩
         obtain ⟨g1,g2⟩:=hf i hi
         obtain ⟨_,k2,_⟩:=g1.spec
         have:=g2 j (by rw [← h3];exact hj)
         rw [add_at,add_at] at this
         unfold at_
         rw [h3,this,List.getElem?_eq_getElem (by rw [k2];exact hj)]
         rfl
        ·intro h0
         rw [hxs] at h0
         have hs:=spot h0
         obtain ⟨b,o,sp⟩:=a
         simp only at hs
         subst hs
         exact ⟨b,o,rfl⟩
        ·intro i x hx
         obtain ⟨hi,rfl⟩:=get i x hx
         exact (hf i hi).1.spec.1
        ·intro i x j ct c hx hct hc
         obtain ⟨hi,rfl⟩:=get i x hx
         obtain ⟨_,v,k1,k2⟩:=(hf i hi).1.spec.2.2 j ct c hct hc
         rw [k1]
         exact k2
       rw [hxs] at hVC
       refine .cons _ _ _ _ _ _ hVC (.sl _ _ (by rw [hxs];omega) (fun x hx=>?_) (fun x j ct c hx hct hc=>?_)) .nil
       ·obtain ⟨i,hi,rfl⟩:=List.mem_map.1 hx
        exact (hf i (List.mem_range.1 hi)).1.spec.1
       ·obtain ⟨i,hi,rfl⟩:=List.mem_map.1 hx
        exact ((hf i (List.mem_range.1 hi)).1.spec.2.2 j ct c hct hc).1)
theorem open_arg {r:Reach} {b0:Nat} {t:TypeId} {v:Value} {d:DataW H} {ps:List MemPlace} (hg:goodT P 7 t=true) (hv:Value.okWide P w r b0 t v) (hd:DataW.Trod enc P w base spare held t v d ps) :
  ∃ x,TA P t x∧VR (C0 w) x v:=by
 obtain ⟨fuel,hf⟩:=hd
 obtain ⟨ys,hy⟩:=open_cells 7 fuel t _ _ hg hf
 obtain ⟨h1,h2,h3⟩:=hy.spec
 have hg':=hg
 unfold goodT at hg'
 have one:∀ ct,ctsT P 7 t=[ct]→aggT P t=some false→v.cells=#[v]→∃ x,TA P t x∧VR (C0 w) x v:=fun ct hc ha hcell=>by
  rw [hc] at h1 h2 h3
  match ys,h1 with
  | [y],_ =>
   obtain ⟨g1,u,g2,g3⟩:=h3 0 ct y rfl rfl
   rw [hcell] at g2
   simp at g2
   subst g2
   exact ⟨y,.inr ⟨ha,ct,hc,g1⟩,VC.toVR (C:=C0 w) g3⟩
 have hu:∃ d,P.underlying t=some d:=by
  cases h:P.underlying t with
  | none=>rw [h] at hg';cases hg'
  | some d=>exact ⟨d,rfl⟩
 obtain ⟨d,hu⟩:=hu
 have hcts:ctsT P 7 t=(match (some d:Option TypeDesc) with
  | some .bool=>[.bool]
  | some (.int k)=>[.int k]
  | some .string=>[.str]
  | some (.slice e)=>[.sl (ctsT P 6 e)]
  | some (.struct fs)=>fs.toList.flatMap fun f=>ctsT P 6 f.type
  | some (.array k e)=>(List.replicate k e).flatMap fun e=>ctsT P 6 e
  | _=>[.oth]):=by rw [← hu];rfl
 have hagg:aggT P t=(match (some d:Option TypeDesc) with
  | some (.struct _)|some (.array _ _)=>some true
  | some _=>some false
  | none=>none):=by rw [← hu];rfl
 rw [hu] at hg'
 cases d <;> first|(cases hg';done)|skip
 ·obtain ⟨b,rfl⟩:=WideShapes.okWide_bool hu hv;exact one _ hcts hagg rfl
 ·obtain ⟨n,rfl⟩:=WideShapes.okWide_int hu hv;exact one _ hcts hagg rfl
 ·obtain ⟨s,rfl⟩:=WideShapes.okWide_string hu hv;exact one _ hcts hagg rfl
 all_goals first
  | (obtain ⟨a,l,c,rfl⟩:=WideShapes.okWide_slice hu hv;exact one _ hcts hagg rfl)
  | (
    obtain ⟨cs,rfl,hcs⟩:=WideShapes.okWide_struct hu hv
    refine ⟨.agg ys,.inl ⟨hagg,ys,rfl,h1,fun j ct c hc hy=>(h3 j ct c hc hy).1⟩,?_⟩
    have e:Value.agg cs = .agg cs.toList.toArray:=by simp
    rw [e]
    have hcells:(Value.agg cs).cells.toList=cs.toList:=rfl
    rw [hcells] at h2 h3
    refine .agg ys cs.toList (by rw [h1,h2]) (fun i c u hc hu'=>?_) (fun u hu'=>?_)
    ·have hi:i<(ctsT P 7 t).length:=by rw [← h1];exact (List.getElem?_eq_some_iff.1 hc).1
     obtain ⟨_,u',g2,g3⟩:=h3 i _ c (List.getElem?_eq_getElem hi) hc
     rw [hu'] at g2
     obtain rfl:=Option.some.inj g2
     exact VC.toVR (C:=C0 w) g3
    ·obtain ⟨i,hi⟩:=List.getElem?_of_mem hu'
     have hlt:i<cs.toList.length:=(List.getElem?_eq_some_iff.1 hi).1
     have hi1:i<(ctsT P 7 t).length:=by rw [← h2];exact hlt
     have hi2:i<ys.length:=by rw [h1];exact hi1
     obtain ⟨_,u',g2,g3⟩:=h3 i _ _ (List.getElem?_eq_getElem hi1) (List.getElem?_eq_getElem hi2)
     rw [hi] at g2
     obtain rfl:=Option.some.inj g2
     exact g3.oneCell')
theorem ret_bool {w w':World} {b:Bool} {u:Value} (h:RetOK w w' (.bool b) u):u = .bool b:=by
 obtain ⟨t,M,h1,_,_,h3⟩:=h []
 have ht:t=[]:=by
  have:=h1.names
  simpa [impV,imp2,imp1] using this
 subst ht
 have:=h3 (C0 w) (fun x hx=>by simp at hx)
 simp only [impV,imp2,imp1] at this
 cases this
 rfl
end
end Go.Proofs.VE
