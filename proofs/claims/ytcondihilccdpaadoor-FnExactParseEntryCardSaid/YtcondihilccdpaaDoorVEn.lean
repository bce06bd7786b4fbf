import Derived.Test.YtcondihilccdpaaDoorVEm
namespace Go.Proofs.VE
open Go
def C0 (w:World):Ctx:={ base:=w.heap.size,w0:=w,mem:=w.cell?,dat:=fun _=>⟨false,(0,0),0,0,0⟩ }
section
variable {P:Program} {C C':Ctx} {nt:Nat} {st:St} {a:Act} {w w':World} {heap:List (Nm × Blk)}
theorem slice_cap {y:AV} {u:Value} {tys:List CT} {ys:List AV} {av:Option Addr} {n cap:Nat} (hy:VR C y u) (h:elemsA heap y=some (tys,ys)) (hu:u = .slice av n cap):n≤cap:=by
 subst hu
 unfold elemsA at h
 split at h
 ·cases hy with
  | own _ _ _ h1 _=>exact h1
  | ownNil=>exact Nat.le_refl 0
 ·cases hy with
  | sub _ _ _ _ _ h1 _ _ _=>exact h1
 ·cases hy with
  | sl _ _ _ hv=>cases hv with
   | sl _ _ _ _ _ hcap=>exact hcap
 ·cases hy
  exact Nat.zero_le _
 ·cases h
theorem elems_max [Glob] {y:AV} {u:Value} {tys:List CT} {ys:List AV} (hs:HSim C heap w) (hy:VR C y u) (h:elemsA heap y=some (tys,ys)):ys.length≤maxLen:=by
 unfold elemsA at h
 split at h
 ·split at h
  ·rename_i nm _ b hb
   cases hbox:b.box <;> rw [hbox] at h <;> simp at h
   rw [← h.2]
   exact (hs.blk nm b hb).max
  ·cases h
 ·split at h
  ·rename_i nm o n _ b hb
   cases hc:(!b.box && decide (o+n≤b.xs.length)) <;> rw [hc] at h <;> simp at h
   rw [← h.2]
   refine Nat.le_trans ?_ (hs.blk nm b hb).max
   simp
   omega
  ·cases h
 ·simp only [Option.some.injEq,Prod.mk.injEq] at h
  obtain ⟨_,rfl⟩:=h
  cases hy with
  | sl _ _ _ hv=>cases hv with
   | sl _ _ _ _ _ _ hmax=>exact hmax
 ·simp only [Option.some.injEq,Prod.mk.injEq] at h
  rw [← h.2]
  exact Nat.zero_le _
 ·cases h
theorem sl_of_flat {tys:List CT} {ys:List AV} {us:List Value} {av:Option Addr} {cap:Nat} {mem:Addr→Option Value} (hm:∀ a v,mem a=some v→w.cell? a=some v) (hF:Flat mem tys ys us) (hmax:ys.length≤maxLen) (hcap:ys.length≤cap)
  (hus:0<us.length→∃ ad:Addr,av=some ad∧∀ (j:Nat) (v:Value),us[j]?=some v→w.cell? (ad.add j)=some v) (hspot:∀ ad,av=some ad→ys.length ≠ 0→ad.spot=none) (hav:ys.length ≠ 0→av ≠ none) :
  VC w.cell? (.sl tys) (.sl tys ys) (.slice av ys.length cap):=by
 refine .sl tys ys av cap (fun i j=>(us[i*tys.length+j]?).getD undef) hcap hmax ?_ ?_ (fun i x hx=>(hF.cells i x hx).1) ?_
 ·intro i j hi hj
  have hle:(i+1)*tys.length≤ys.length*tys.length:=Nat.mul_le_mul_right _ hi
  rw [Nat.add_mul,Nat.one_mul] at hle
  have hlt:i*tys.length+j<us.length:=by rw [hF.len];omega
  obtain ⟨ad,e1,e2⟩:=hus (by omega)
  have hs:=hspot ad e1 (by omega)
  obtain ⟨b,o,s⟩:=ad
  simp only at hs
  subst hs
  refine ⟨b,o,e1,?_⟩
  have:=e2 (i*tys.length+j) us[i*tys.length+j] (List.getElem?_eq_getElem hlt)
  rw [add_at] at this
  unfold at_
  rw [Nat.add_assoc,this,List.getElem?_eq_getElem hlt]
  rfl
 ·intro h0
  cases av with
  | none=>exact absurd rfl (hav (by omega))
  | some ad =>
   have hs:=hspot ad rfl (by omega)
   obtain ⟨b,o,s⟩:=ad
   simp only at hs
   subst hs
   exact ⟨b,o,rfl⟩
 ·intro i x j ct c hx ht hc
  obtain ⟨u,ct',h1,h2,h3⟩:=(hF.cells i x hx).2 j c hc
  rw [ht] at h2
  obtain rfl:=Option.some.inj h2
  simp only [h1,Option.getD_some]
  exact h3.mono hm
theorem ro_elems [Glob] {x y:AV} {u:Value} {tys:List CT} {ys:List AV} (hs:Sim C nt st a w) (hx:VR C x u) (h:elemsA st.heap x=some (tys,ys)) (hy:y = .sl tys ys):VR (C0 w) y u:=by
 subst hy
 obtain ⟨av,cap,us,hu,⟨hF,_⟩,hus⟩:=elems_sound hs hx h
 have hcap:=slice_cap hx h hu
 have hmax:=elems_max hs.toHSim hx h
 have hm:∀ a v,C.mem a=some v→w.cell? a=some v:=fun a v h=>(hs.mem a v h).1
 subst hu
 have hsp:(∀ ad,av=some ad→ys.length ≠ 0→ad.spot=none)∧(ys.length ≠ 0→av ≠ none):=by
  unfold elemsA at h
  split at h
  ·generalize hu:Value.slice av ys.length cap=u at hx
   cases hx with
   | own _ _ _ _ _ =>
    simp only [Value.slice.injEq] at hu
    obtain ⟨rfl,_⟩:=hu
    refine ⟨fun ad e _=>?_,fun _ e=>by cases e⟩
    obtain rfl:=Option.some.inj e
    rfl
   | ownNil _ _ =>
    simp only [Value.slice.injEq] at hu
    exact ⟨fun ad e h0=>absurd hu.2.1 h0,fun h0=>absurd hu.2.1 h0⟩
  ·generalize hu:Value.slice av ys.length cap=u at hx
   cases hx with
   | sub _ _ n _ _ _ h2 _ _ =>
    simp only [Value.slice.injEq] at hu
    obtain ⟨rfl,h3,_⟩:=hu
    refine ⟨fun ad e h0=>?_,fun h0 e=>?_⟩
    ·have:=(h2 (by omega)).2
     rw [e] at this
     obtain rfl:=Option.some.inj this
     rfl
    ·have:=(h2 (by omega)).2
     rw [e] at this
     cases this
  ·cases hx with
   | sl _ _ _ hv =>
    generalize hu:Value.slice av ys.length cap=u at hv
    cases hv with
    | sl _ _ _ _ _ _ _ _ ha =>
     simp only [Value.slice.injEq] at hu
     obtain ⟨rfl,h3,_⟩:=hu
     refine ⟨fun ad e h0=>?_,fun h0 e=>?_⟩
     ·obtain ⟨b,o,e'⟩:=ha (by omega)
      rw [e] at e'
      obtain rfl:=Option.some.inj e'
      rfl
     ·obtain ⟨b,o,e'⟩:=ha (by omega)
      rw [e] at e'
      cases e'
  ·simp only [Option.some.injEq,Prod.mk.injEq] at h
   rw [← h.2]
   exact ⟨fun ad e h0=>absurd rfl h0,fun h0=>absurd rfl h0⟩
  ·cases h
 exact .sl _ _ _ (sl_of_flat hm hF hmax hcap hus hsp.1 hsp.2)
theorem ctsOf_get:∀ {cs:List AV} {tys:List CT},ctsOf cs=some tys→cs.length=tys.length∧∀ (j:Nat) (ct:CT) (c:AV),tys[j]?=some ct→cs[j]?=some c→ctOf c=some ct
 | [],tys,h=>by
  simp only [ctsOf,Option.some.injEq] at h
  subst h
  exact ⟨rfl,fun j ct c h=>by simp at h⟩
 | c :: r,tys,h=>by
  simp only [ctsOf] at h
  split at h
  ·rename_i t ts h1 h2
   obtain rfl:=Option.some.inj h
   obtain ⟨g1,g2⟩:=ctsOf_get h2
   refine ⟨by simp [g1],fun j ct c' ht hc=>?_⟩
   cases j with
   | zero=>simp at ht hc;subst ht;subst hc;exact h1
   | succ j=>exact g2 j ct c' (by simpa using ht) (by simpa using hc)
  ·cases h
theorem VR.ctOf {c:AV} {u:Value} {ct:CT} (h:VR C c u) (hc:ctOf c=some ct):VC C.mem ct c u:=by
 unfold VE.ctOf at hc
 split at hc
 ·obtain rfl:=Option.some.inj hc;cases h;exact .int _ _
 ·obtain rfl:=Option.some.inj hc;cases h;exact .bool _
 ·obtain rfl:=Option.some.inj hc;cases h;exact .str _
 ·obtain rfl:=Option.some.inj hc
  cases h with
  | sl _ _ _ h=>exact h
 ·obtain rfl:=Option.some.inj hc
  cases h with
  | fn _ _ vs h1 _ =>
   obtain rfl:vs=[]:=List.eq_nil_of_length_eq_zero h1.symm
   exact .fn _
 ·cases hc
theorem capArg_sound [Glob] {x y:AV} {u:Value} (hs:Sim C nt st a w) (hx:VR C x u) (h:capArg st.heap x=some y):VR (C0 w) y u:=by
 have hm:∀ a v,C.mem a=some v→w.cell? a=some v:=fun a v h=>(hs.mem a v h).1
 unfold capArg at h
 split at h
 ·obtain rfl:=Option.some.inj h;cases hx;exact .bool _
 ·obtain rfl:=Option.some.inj h;cases hx;exact .int _ _
 ·obtain rfl:=Option.some.inj h;cases hx;exact .str _
 ·rename_i tys xs
  obtain rfl:=Option.some.inj h
  exact ro_elems hs hx (show elemsA st.heap (.sl tys xs)=some (tys,xs) from rfl) rfl
 ·obtain rfl:=Option.some.inj h
  cases hx with
  | rptr _ _ _ b o U h1 h2 h3=>exact .rptr _ _ _ b o U (fun j hj=>hm _ _ (h1 j hj)) h2 fun j ct c ht hc=>(h3 j ct c ht hc).mono hm
 ·obtain rfl:=Option.some.inj h
  cases hx with
  | fn _ _ vs h1 _=>exact .fn _ _ vs h1 fun i c v hc _=>by simp at hc
 ·rename_i nm i off
  split at h
  ·rename_i b hb
   cases hbox:b.box && Nat.beq i 0 && Nat.beq off 0 with
   | false=>rw [hbox] at h;simp at h
   | true =>
    rw [hbox] at h
    simp only [Bool.and_eq_true] at hbox
    obtain ⟨⟨h1,h2⟩,h3⟩:=hbox
    obtain rfl:=Nat.eq_of_beq_eq_true h2
    obtain rfl:=Nat.eq_of_beq_eq_true h3
    simp only [cond_true] at h
    split at h
    ·rename_i x hxs
     split at h
     ·rename_i tys ht
      obtain rfl:=Option.some.inj h
      obtain ⟨k1,k2⟩:=ctsOf_get ht
      have B:=hs.blk nm b hb
      obtain ⟨c1,c2⟩:=B.cells 0 x (by rw [hxs];rfl)
      cases hx with
      | ptr _ _ _ hr hi =>
       have ex:∀ j,∃ u,j<x.cells.length→w.cell? (C.at nm 0 j)=some u∧∀ c,x.cells[j]?=some c→VR C c u:=fun j=>by
        by_cases hj:j<x.cells.length
        ·obtain ⟨u,g1,_,g3⟩:=c2 j _ (List.getElem?_eq_getElem hj)
         rw [h1] at g3
         simp only [if_true] at g3
         exact ⟨u,fun _=>⟨g1,fun c hc=>by rw [List.getElem?_eq_getElem hj] at hc;obtain rfl:=Option.some.inj hc;exact g3⟩⟩
        ·exact ⟨undef,fun h=>absurd h hj⟩
       have hU:∃ U:Nat→Value,∀ j,j<x.cells.length→w.cell? (C.at nm 0 j)=some (U j)∧∀ c,x.cells[j]?=some c→VR C c (U j):=⟨fun j=>Classical.choose (ex j),fun j=>Classical.choose_spec (ex j)⟩
       obtain ⟨U,hU⟩:=hU
       have hat:∀ j,C.at nm 0 j=⟨(C.loc nm).1,(C.loc nm).2+j,none⟩:=fun j=>by unfold Ctx.at at_;simp
       rw [hat 0]
       refine .rptr tys x 0 (C.loc nm).1 (C.loc nm).2 U (fun j hj=>?_) k1 fun j ct c ht hc=>?_
       ·rw [← hat j]
        exact (hU j (by rw [k1];exact hj)).1
       ·have hj:j<x.cells.length:=by
         have:=List.getElem?_eq_some_iff.1 hc
         exact this.1
        exact (((hU j hj).2 c hc).ctOf (k2 j ct c ht hc)).mono hm
     ·cases h
    ·cases h
  ·cases h
 ·cases h
theorem capArgs_sound [Glob] (hs:Sim C nt st a w):∀ {xs ys:List AV} {us:List Value},xs.length=us.length→(∀ (i:Nat) (x:AV) (u:Value),xs[i]?=some x→us[i]?=some u→VR C x u)→capArgs st.heap xs=some ys →
  ys.length=us.length∧∀ (i:Nat) (y:AV) (u:Value),ys[i]?=some y→us[i]?=some u→VR (C0 w) y u
 | [],ys,us,hl,_,h=>by
  simp only [capArgs,Option.some.injEq] at h
  subst h
  cases us with
  | nil=>exact ⟨rfl,fun i y u h=>by simp at h⟩
  | cons=>simp at hl
 | x :: xs,ys,us,hl,hv,h=>by
  cases us with
  | nil=>simp at hl
  | cons u us =>
   simp only [capArgs] at h
   split at h
   ·rename_i y ys' h1 h2
    obtain rfl:=Option.some.inj h
    have g1:=capArg_sound hs (hv 0 x u rfl rfl) h1
    obtain ⟨g2,g3⟩:=capArgs_sound hs (us:=us) (by simpa using hl) (fun i x u hx hu=>hv (i+1) x u (by simpa using hx) (by simpa using hu)) h2
    refine ⟨by simp [g2],fun i y' u' hy hu=>?_⟩
    cases i with
    | zero=>simp at hy hu;subst hy;subst hu;exact g1
    | succ i=>exact g3 i y' u' (by simpa using hy) (by simpa using hu)
   ·cases h
theorem roArg_sound [Glob] {t:TypeId} {x y:AV} {u:Value} (hs:Sim C nt st a w) (hx:VR C x u) (h:roArg P st.heap t x=some y):VR (C0 w) y u:=by
 unfold roArg at h
 split at h
 ·rename_i nm
  split at h
  ·rename_i b hb
   cases hbox:b.box with
   | true=>rw [hbox] at h;simp at h
   | false =>
    rw [hbox] at h
    simp only [cond_false,Option.some.injEq] at h
    exact ro_elems hs hx (show elemsA st.heap (.own nm)=some (b.tys,b.xs) by simp [elemsA,hb,hbox]) h.symm
  ·cases h
 ·rename_i nm o n
  split at h
  ·rename_i b hb
   cases hbox:b.box with
   | true=>rw [hbox] at h;simp at h
   | false =>
    rw [hbox] at h
    simp only [cond_false,Option.some.injEq] at h
    have hle:o+n≤b.xs.length:=by
     have:=(hs.blk nm b hb).len
     cases hx with
     | sub _ _ _ _ _ _ _ _ h4=>omega
    exact ro_elems hs hx (show elemsA st.heap (.sub nm o n)=some (b.tys,(b.xs.drop o).take n) by simp only [elemsA,hb];rw [hbox,decide_eq_true hle];rfl) h.symm
  ·cases h
 ·split at h
  ·obtain rfl:=Option.some.inj h
   cases hx
   exact .sl _ _ _ (.sl _ [] none 0 (fun _ _=>undef) (Nat.le_refl 0) (by simp) (fun i j hi=>by simp at hi) (fun h0=>by simp at h0) (fun i x hx=>by simp at hx) (fun i x j ct c hx=>by simp at hx))
  ·cases h
 ·obtain rfl:=Option.some.inj h;cases hx;exact .bool _
 ·obtain rfl:=Option.some.inj h;cases hx;exact .int _ _
 ·obtain rfl:=Option.some.inj h;cases hx;exact .str _
 ·rename_i tys xs
  obtain rfl:=Option.some.inj h
  exact ro_elems hs hx (show elemsA st.heap (.sl tys xs)=some (tys,xs) from rfl) rfl
 ·rename_i f caps
  split at h
  ·rename_i ys hys
   obtain rfl:=Option.some.inj h
   cases hx with
   | fn _ _ vs h1 h2 =>
    obtain ⟨g1,g2⟩:=capArgs_sound hs h1 h2 hys
    exact .fn f ys vs g1 g2
  ·cases h
 ·cases h
theorem VR.one {x:AV} {u:Value} {w:World} {t:TypeId} {y:AV} (h:roArg P heap t y=some x) (hx:VR (C0 w) x u):u.oneCell'=true:=by
 unfold roArg at h
 split at h
 ·split at h
  ·rename_i b _
   cases hb:b.box <;> rw [hb] at h <;> simp at h
   subst h
   cases hx with
   | sl _ _ _ h=>exact h.oneCell'
  ·cases h
 ·split at h
  ·rename_i o n _ b _
   cases hb:b.box <;> rw [hb] at h <;> simp at h
   subst h
   cases hx with
   | sl _ _ _ h=>exact h.oneCell'
  ·cases h
 ·split at h
  ·obtain rfl:=Option.some.inj h
   cases hx with
   | sl _ _ _ h=>exact h.oneCell'
  ·cases h
 ·obtain rfl:=Option.some.inj h;cases hx;rfl
 ·obtain rfl:=Option.some.inj h;cases hx;rfl
 ·obtain rfl:=Option.some.inj h;cases hx;rfl
 ·obtain rfl:=Option.some.inj h
  cases hx with
  | sl _ _ _ h=>exact h.oneCell'
 ·split at h
  ·obtain rfl:=Option.some.inj h
   cases hx
   rfl
  ·cases h
 ·cases h
theorem roArgs_sound [Glob] (hs:Sim C nt st a w):∀ {ts:List TypeId} {xs ys:List AV} {us:List Value},xs.length=us.length→(∀ (i:Nat) (x:AV) (u:Value),xs[i]?=some x→us[i]?=some u→VR C x u)→roArgs P st.heap ts xs=some ys →
  ys.length=us.length∧(∀ (i:Nat) (y:AV) (u:Value),ys[i]?=some y→us[i]?=some u→VR (C0 w) y u)∧∀ u ∈ us,u.oneCell'=true
 | [],[],ys,us,hl,_,h=>by
  simp only [roArgs,Option.some.injEq] at h
  subst h
  cases us with
  | nil=>exact ⟨rfl,fun i y u h=>by simp at h,fun u h=>by simp at h⟩
  | cons=>simp at hl
 | t :: ts,x :: xs,ys,us,hl,hv,h=>by
  cases us with
  | nil=>simp at hl
  | cons u us =>
   simp only [roArgs] at h
   split at h
   ·rename_i y ys' h1 h2
    obtain rfl:=Option.some.inj h
    have g1:=roArg_sound hs (hv 0 x u rfl rfl) h1
    obtain ⟨g2,g3,g4⟩:=roArgs_sound hs (us:=us) (by simpa using hl) (fun i x u hx hu=>hv (i+1) x u (by simpa using hx) (by simpa using hu)) h2
    refine ⟨by simp [g2],fun i y' u' hy hu=>?_,fun u' hu'=>?_⟩
    ·cases i with
     | zero=>simp at hy hu;subst hy;subst hu;exact g1
     | succ i=>exact g3 i y' u' (by simpa using hy) (by simpa using hu)
    ·rcases List.mem_cons.1 hu' with rfl|hm
     ·exact VR.one h1 g1
     ·exact g4 u' hm
   ·cases h
 | [],_ :: _,_,_,_,_,h=>by simp [roArgs] at h
 | _ :: _,[],_,_,_,_,h=>by simp [roArgs] at h
theorem roVal_sound [Glob] {t:TypeId} {x y:AV} {u:Value} (hs:Sim C nt st a w) (hx:VR C x u) (h:roVal P st.heap t x=some y):VR (C0 w) y u:=by
 unfold roVal at h
 split at h
 ·rename_i cs
  obtain ⟨ys,h1,rfl⟩:=Option.map_eq_some_iff.1 h
  obtain ⟨vs,rfl,g1,g2,_⟩:=hx.agg_inv
  obtain ⟨k1,k2,k3⟩:=roArgs_sound hs g1 g2 h1
  exact .agg _ _ k1 k2 k3
 ·exact roArg_sound hs hx h
theorem roVals_sound [Glob] (hs:Sim C nt st a w):∀ {ts:List TypeId} {xs ys:List AV} {us:List Value},xs.length=us.length→(∀ (i:Nat) (x:AV) (u:Value),xs[i]?=some x→us[i]?=some u→VR C x u)→roVals P st.heap ts xs=some ys →
  ys.length=us.length∧∀ (i:Nat) (y:AV) (u:Value),ys[i]?=some y→us[i]?=some u→VR (C0 w) y u
 | [],[],ys,us,hl,_,h=>by
  simp only [roVals,Option.some.injEq] at h
  subst h
  cases us with
  | nil=>exact ⟨rfl,fun i y u h=>by simp at h⟩
  | cons=>simp at hl
 | t :: ts,x :: xs,ys,us,hl,hv,h=>by
  cases us with
  | nil=>simp at hl
  | cons u us =>
   simp only [roVals] at h
   split at h
   ·rename_i y ys' h1 h2
    obtain rfl:=Option.some.inj h
    have g1:=roVal_sound hs (hv 0 x u rfl rfl) h1
    obtain ⟨g2,g3⟩:=roVals_sound hs (us:=us) (by simpa using hl) (fun i x u hx hu=>hv (i+1) x u (by simpa using hx) (by simpa using hu)) h2
    refine ⟨by simp [g2],fun i y' u' hy hu=>?_⟩
    cases i with
    | zero=>simp at hy hu;subst hy;subst hu;exact g1
    | succ i=>exact g3 i y' u' (by simpa using hy) (by simpa using hu)
   ·cases h
 | [],_ :: _,_,_,_,_,h=>by simp [roVals] at h
 | _ :: _,[],_,_,_,_,h=>by simp [roVals] at h
def ctxT (w:World) (M:Addr→Option Value) (D:Dat):Ctx:={ (C0 w).set [] D with memF:=M }
theorem ctxT_dat (w:World) (M:Addr→Option Value) (D:Dat):(ctxT w M D).dat []=D:=by show ((C0 w).set [] D).dat []=D;exact Ctx.set_dat _ _ _
inductive TabR (w w':World) (M:Addr→Option Value):List (Nm × Blk)→List (Nm × Dat)→Prop
 | nil:TabR w w' M [] []
 | cons (n:Nm) (b:Blk) (D:Dat) (l:List (Nm × Blk)) (t:List (Nm × Dat)) (hb:BlkR (ctxT w M D) w' [] b) (hbox:b.box=false) (h:TabR w w' M l t):TabR w w' M ((n,b) :: l) ((n,D) :: t)
def Apart (t:List (Nm × Dat)):Prop:=t.Pairwise fun x y=>x.2.real=true→y.2.real=true→x.2.loc.1 ≠ y.2.loc.1
def MemOK (w w':World) (M:Addr→Option Value) (t:List (Nm × Dat)):Prop:=∀ a v,M a=some v→w'.cell? a=some v∧w.heap.size≤a.block∧∀ x ∈ t,x.2.real=true→x.2.loc.1 ≠ a.block
def RetOK (w w':World) (r:AV) (u:Value):Prop :=
 ∀ p,∃ t M,TabR w w' M (impV p r).2 t∧Apart t∧MemOK w w' M t∧∀ C':Ctx,(∀ x ∈ t,C'.dat x.1=x.2)→VR C' (impV p r).1 u
def Known (P:Program) (g:FuncId):Prop:=∃ fn,P.funcs[g]?=some fn∧(fn.name == "runtime.NumGoroutine")=false∧fn.body.isSome=true
def MeetsAt [Glob] (P:Program) (g:FuncId) (xs:List AV) (r:AV):Prop :=
 ∀ (w:World) (us:List Value),Glob.ok w∧Glob.n≤w.heap.size→xs.length=us.length→(∀ (i:Nat) (x:AV) (u:Value),xs[i]?=some x→us[i]?=some u→VR (C0 w) x u) →
  Calls P g us.toArray w fun e w'=>∃ u,e = .returned u∧RowKit.Below w.heap.size w w'∧RetOK w w' r u
def Meets [Glob] (P:Program) (g:FuncId) (m:List AV→Option (Bool × AV)):Prop:=Known P g∧∀ xs r,m xs=some (true,r)→MeetsAt P g xs r
def MeetsM [Glob] (P:Program) (g:FuncId) (m:List AV→List Blk→Option (Bool × AV × List Blk)):Prop:=Known P g∧∀ (xs:List AV) (bs:List Blk) (r:AV) (bs':List Blk),
 m xs bs=some (true,r,bs')→bs.all flatB=true→bs'.all flatB=true→retR r=true→bs'.length=bs.length →
 ∀ (C:Ctx) (w:World) (us:List Value),xs.length=us.length→(∀ (i:Nat) (x:AV) (u:Value),xs[i]?=some x→us[i]?=some u→VR C x u)→HSim C (canH 1 bs) w →
  Calls P g us.toArray w fun e w'=>∃ u,e = .returned u∧VR C r u∧HSim C (canH 1 bs') w'
def MeetsG [Glob] (P:Program) (g:FuncId) (m:List AV→List Blk→Option (Bool × List AV × List (Option Blk))):Prop:=Known P g∧∀ (xs:List AV) (bs:List Blk) (rs:List AV) (bs':List (Option Blk)),
 m xs bs=some (true,rs,bs') →
 ∀ (C:Ctx) (w:World) (us:List Value),xs.length=us.length→(∀ (i:Nat) (x:AV) (u:Value),xs[i]?=some x→us[i]?=some u→VR C x u)→HSim C (canH 1 bs) w →
  Calls P g us.toArray w fun e w'=>∃ u,e = .returned u∧∃ C' ts gs v hp,(∀ K,keepG P bs.length ts gs K v hp=K rs bs')∧VR C' v u∧HSim C' hp w'∧Agree (isLoc [0]) C C'
structure FOK [Glob] (P:Program) (cf:Cfg):Prop where
 tree:∀ g m,cf.F g = .tree m→Meets P g m
 wrt:∀ g m,cf.F g = .wrt m→MeetsM P g m
 gen:∀ g m,cf.F g = .gen m→MeetsG P g m
def SMeets [Glob] (P:Program) (g:FuncId) (s:SModel):Prop:=Known P g ∧
 ∀ (args:List AV) (q:Nm) (heap:List (Nm × Blk)) (k:AV→List (Nm × Blk)→Option AV) (r:AV) (C:Ctx) (w:World) (us:List Value),s args q heap k=some r→args.length=us.length →
  (∀ (i:Nat) (x:AV) (u:Value),args[i]?=some x→us[i]?=some u→VR C x u)→HSim C heap w →
  Calls P g us.toArray w fun e w'=>∃ u,e = .returned u∧∃ C' v h',k v h'=some r∧VR C' v u∧HSim C' h' w'∧Agree (isLoc q) C C'
def SpOK [Glob] (cf:Cfg):Prop:=∀ g s,cf.SP g=some s→SMeets cf.P g s
def CES [Glob] (cf:Cfg) (ce:CallE):Prop :=
 ∀ (g:Nat) (args:List AV) (q:Nm) (heap:List (Nm × Blk)) (k:AV→List (Nm × Blk)→Option AV) (r:AV) (C:Ctx) (w:World) (us:List Value),cf.F g = .inl→ce g args q heap k=some r→args.length=us.length →
  (∀ (i:Nat) (x:AV) (u:Value),args[i]?=some x→us[i]?=some u→VR C x u)→HSim C heap w →
  Known cf.P g∧Calls cf.P g us.toArray w fun e w'=>∃ u,e = .returned u∧∃ C' v h',k v h'=some r∧VR C' v u∧HSim C' h' w'∧Agree (isLoc q) C C'
theorem run_enter {g:FuncId} {args:Array Value} (h:Known P g):(callFunc g args).run P w = .ok (.enter g args) w:=by
 obtain ⟨fn,h1,h2,h3⟩:=h
 have e:(program:Sem Program).run P w = .ok P w:=rfl
 unfold callFunc
 rw [run_bind' e]
 simp only [h1,h2]
 cases hb:fn.body with
 | none=>rw [hb] at h3;cases h3
 | some c=>simp
theorem run_call {o:Oper} {f:Operand} {g:FuncId} {args:Array Operand} {argTypes:Array TypeId} {cs:Array Value} (hop:o.op = .call { callee := .value f,args,argTypes }) (hf:a.eval f = .func (.func g) #[] cs) (hk:Known P g) :
  (execOp a.eval o).run P w = .ok (.enter g (args.map a.eval++cs)) w:=by
 unfold execOp
 simp only [hop]
 unfold resolve
 simp only [hf]
 unfold Deferred.ofValue
 simp only [pure_bind]
 unfold invoke
 simp only
 have:(#[]:Array Value)++args.map a.eval=args.map a.eval:=by simp
 rw [this]
 exact run_enter hk
end
end Go.Proofs.VE
