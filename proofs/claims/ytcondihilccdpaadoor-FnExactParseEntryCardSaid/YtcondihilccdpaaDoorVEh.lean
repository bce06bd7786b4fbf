import Derived.Test.YtcondihilccdpaaDoorVEg
namespace Go.Proofs.VE
open Go
structure Agree (p:Nm→Bool) (C C':Ctx):Prop where
 base:C'.base=C.base
 w0:C'.w0=C.w0
 mem:∀ a v,C.mem a=some v→C'.mem a=some v
 memF:∀ a v,C.memF a=some v→C'.memF a=some v
 old:∀ a v,C.mem a=some v→C.memF a=none→C'.memF a=none
 dat:∀ nm,p nm=false→C'.dat nm=C.dat nm
 fr:C'.fr=C.fr
 new:∀ a v,C'.mem a=some v→C.mem a=some v∨(C'.memF a=some v∧¬ C.fr a.block)
theorem Agree.refl (p:Nm→Bool) (C:Ctx):Agree p C C:=⟨rfl,rfl,fun _ _ h=>h,fun _ _ h=>h,fun _ _ _ h=>h,fun _ _=>rfl,rfl,fun _ _ h => .inl h⟩
theorem Agree.trans {p:Nm→Bool} {C C' C'':Ctx} (h:Agree p C C') (k:Agree p C' C''):Agree p C C'' :=
 ⟨k.base.trans h.base,k.w0.trans h.w0,fun a v e=>k.mem a v (h.mem a v e),fun a v e=>k.memF a v (h.memF a v e),fun a v e f=>k.old a v (h.mem a v e) (h.old a v e f),fun nm hn=>(k.dat nm hn).trans (h.dat nm hn),k.fr.trans h.fr,fun a v e=>(k.new a v e).elim (fun e=>(h.new a v e).imp id fun e=>⟨k.memF a v e.1,e.2⟩) fun e => .inr ⟨e.1,by rw [← h.fr];exact e.2⟩⟩
theorem Agree.mono {p q:Nm→Bool} {C C':Ctx} (h:Agree p C C') (hpq:∀ nm,p nm=true→q nm=true):Agree q C C' :=
 ⟨h.base,h.w0,h.mem,h.memF,h.old,fun nm hn=>h.dat nm (by cases hp:p nm with|false=>rfl|true=>rw [hpq nm hp] at hn;cases hn),h.fr,h.new⟩
section
variable {p:Nm→Bool} {C C':Ctx}
theorem Agree.at (h:Agree p C C') {nm:Nm} (hn:p nm=false) (i j:Nat):C'.at nm i j=C.at nm i j:=by
 unfold Ctx.at Ctx.loc Ctx.width
 rw [h.dat nm hn]
theorem menC_menV {c:AV} (h:menC p c=false):menV p c=false:=by
 cases c <;> first|exact h|(simp [menC] at h)
theorem menV_cells {x:AV} (h:menV p x=false) {j:Nat} {c:AV} (hc:x.cells[j]?=some c):menV p c=false:=by
 have one:∀ y:AV,y.cells=[y]→menV p y=false→y.cells[j]?=some c→menV p c=false:=by
  intro y hy hm hj
  rw [hy] at hj
  cases j with
  | zero=>simp at hj;rw [← hj];exact hm
  | succ j=>simp at hj
 cases x with
 | agg cs =>
  simp only [AV.cells] at hc
  simp only [menV,List.any_eq_false] at h
  exact menC_menV (by simpa using h c (List.mem_of_getElem? hc))
 | _=>exact one _ rfl h hc
theorem VR.moveC (ha:Agree p C C') {c:AV} {v:Value} (h:VR C c v) (hm:menC p c=false):VR C' c v:=by
 cases h with
 | undef v=>exact .undef v
 | bool b=>exact .bool b
 | int k n=>exact .int k n
 | str s=>exact .str s
 | nilp=>exact .nilp
 | nilfn=>exact .nilfn
 | snil=>exact .snil
 | ptr nm i off hr hi =>
  simp only [menC] at hm
  rw [← ha.at hm i off]
  refine .ptr nm i off ?_ ?_
  ·unfold Ctx.real;rw [ha.dat nm hm];exact hr
  ·unfold Ctx.len;rw [ha.dat nm hm];exact hi
 | rptr tys x off b o U h1 h2 h3=>exact .rptr tys x off b o U (fun j hj=>ha.mem _ _ (h1 j hj)) h2 fun j ct c ht hc=>(h3 j ct c ht hc).mono ha.mem
 | own nm cap hr h1 h2 =>
  simp only [menC] at hm
  have e:C.len nm=C'.len nm:=by unfold Ctx.len;rw [ha.dat nm hm]
  rw [← ha.at hm 0 0,e]
  refine .own nm cap ?_ ?_ ?_
  ·unfold Ctx.real;rw [ha.dat nm hm];exact hr
  ·rw [← e];exact h1
  ·unfold Ctx.room;rw [ha.dat nm hm];exact h2
 | ownNil nm h =>
  simp only [menC] at hm
  exact .ownNil nm (by unfold Ctx.len;rw [ha.dat nm hm];exact h)
 | sub nm lo n cap av h1 h2 hc h4 =>
  simp only [menC] at hm
  refine .sub nm lo n cap av h1 (fun hn=>?_) ?_ (by unfold Ctx.len;rw [ha.dat nm hm];exact h4)
  ·obtain ⟨h3,h4⟩:=h2 hn
   refine ⟨?_,?_⟩
   ·unfold Ctx.real;rw [ha.dat nm hm];exact h3
   ·rw [ha.at hm];exact h4
  ·rcases hc with ⟨h3,l,h4,h5⟩|h3
   ·refine .inl ⟨?_,l,?_,?_⟩
    ·unfold Ctx.real;rw [ha.dat nm hm];exact h3
    ·rw [ha.at hm];exact h4
    ·unfold Ctx.room;rw [ha.dat nm hm];exact h5
   ·exact .inr h3
 | sl tys xs v h=>exact .sl tys xs v (h.mono ha.mem)
 | sle b tys ad cap h=>exact .sle b tys ad cap h
 | fn f cs vs _ _=>simp [menC] at hm
 | agg cs vs _ _ _=>simp [menC] at hm
 | tup cs vs _ _=>simp [menC] at hm
theorem VR.moveW (ha:Agree p C C') {c:AV} {v:Value} (h:VR C c v) (hm:menW p c=false):VR C' c v:=by
 unfold menW at hm
 split at hm
 ·cases h with
  | agg _ vs h1 h2 h3=>exact .agg _ vs h1 (fun i c v hc hv=>(h2 i c v hc hv).moveC ha (by
    simp only [List.any_eq_false] at hm
    simpa using hm _ (List.mem_of_getElem? hc))) h3
 ·exact h.moveC ha hm
theorem VR.move (ha:Agree p C C') {c:AV} {v:Value} (h:VR C c v) (hm:menV p c=false):VR C' c v:=by
 have cell:∀ {cs:List AV} {i:Nat} {c:AV},cs.any (menC p)=false→cs[i]?=some c→menC p c=false:=fun h hc=>by
  simp only [List.any_eq_false] at h
  simpa using h _ (List.mem_of_getElem? hc)
 cases h with
 | fn f cs vs h1 h2=>exact .fn f cs vs h1 fun i c v hc hv=>(h2 i c v hc hv).moveC ha (cell hm hc)
 | agg cs vs h1 h2 h3=>exact .agg cs vs h1 (fun i c v hc hv=>(h2 i c v hc hv).moveC ha (cell hm hc)) h3
 | tup cs vs h1 h2=>exact .tup cs vs h1 fun i c v hc hv=>(h2 i c v hc hv).moveW ha (by
   simp only [menV,List.any_eq_false] at hm
   simpa using hm _ (List.mem_of_getElem? hc))
 | undef v=>exact .undef v
 | bool b=>exact .bool b
 | int k n=>exact .int k n
 | str s=>exact .str s
 | nilp=>exact .nilp
 | nilfn=>exact .nilfn
 | snil=>exact .snil
 | ptr nm i off hr hi=>exact (VR.ptr nm i off hr hi).moveC ha hm
 | rptr tys x off b o U h1 h2 h3=>exact (VR.rptr tys x off b o U h1 h2 h3).moveC ha hm
 | own nm cap hr h1 h2=>exact (VR.own nm cap hr h1 h2).moveC ha hm
 | ownNil nm h=>exact (VR.ownNil nm h).moveC ha hm
 | sub nm lo n cap av h1 h2 h3 h4=>exact (VR.sub nm lo n cap av h1 h2 h3 h4).moveC ha hm
 | sl tys xs v h=>exact (VR.sl tys xs v h).moveC ha hm
 | sle b tys ad cap h=>exact .sle b tys ad cap h
theorem BlkR.move (ha:Agree p C C') {w:World} {nm:Nm} {b:Blk} (h:BlkR C w nm b) (hn:p nm=false) (hm:b.box=true→∀ x ∈ b.xs,menV p x=false):BlkR C' w nm b:=by
 have d:=ha.dat nm hn
 refine ⟨h.max,by unfold Ctx.len;rw [d];exact h.len,by unfold Ctx.width;rw [d];exact h.width,by unfold Ctx.real;rw [d];exact h.box,by unfold Ctx.real;rw [d];exact h.nilb,?_,?_,by unfold Ctx.real Ctx.loc Ctx.room Ctx.width;rw [d];exact h.froz⟩
 ·intro i x hx
  obtain ⟨h1,h2⟩:=h.cells i x hx
  refine ⟨by unfold Ctx.width;rw [d];exact h1,fun j c hc=>?_⟩
  obtain ⟨u,h3,h4,h5⟩:=h2 j c hc
  refine ⟨u,by rw [ha.at hn];exact h3,h4,?_⟩
  cases hb:b.box with
  | true =>
   rw [hb] at h5
   simp only [if_true] at h5 ⊢
   exact h5.move ha (menV_cells (hm hb x (List.mem_of_getElem? hx)) hc)
  | false =>
   rw [hb] at h5
   simp only [Bool.false_eq_true,if_false] at h5 ⊢
   obtain ⟨ct,k1,k2⟩:=h5
   exact ⟨ct,k1,k2.mono ha.memF⟩
 ·intro hr
  unfold Ctx.real at hr
  rw [d] at hr
  have:=h.room hr
  unfold Ctx.loc Ctx.room Ctx.width
  rw [d,ha.base]
  exact this
theorem HSim.ctx [Glob] (ha:Agree p C C') (he:C'.mem=C.mem) (hf:C'.memF=C.memF) {heap:List (Nm × Blk)} {w:World} (h:HSim C heap w)
  (hh:∀ nm b,getH heap nm=some b→p nm=false∧(b.box=true→∀ x ∈ b.xs,menV p x=false)):HSim C' heap w:=by
 refine ⟨fun nm b hb=>(h.blk nm b hb).move ha (hh nm b hb).1 (hh nm b hb).2,?_,?_,by rw [ha.base];exact h.grown,by rw [ha.base,ha.w0];exact h.kept,fun x v hv hn=>by rw [he] at hv;rw [hf] at hn;rw [ha.w0];exact h.blk0 x v hv hn,fun x v hv=>by rw [hf] at hv;rw [he,ha.base];exact h.own x v hv,by rw [ha.base,ha.w0];exact h.glob,fun k hk=>by
  rw [ha.fr] at hk
  obtain ⟨f1,f2,f3⟩:=h.frame k hk
  refine ⟨by rw [ha.w0];exact f1,by rw [ha.w0];exact f2,fun nm b hb hr=>?_⟩
  unfold Ctx.real Ctx.loc at *
  rw [ha.dat nm (hh nm b hb).1] at *
  exact f3 nm b hb hr⟩
 ·intro nm b nm' b' h1 h2 h3 h4 h5
  unfold Ctx.real Ctx.loc at *
  rw [ha.dat nm (hh nm b h1).1] at *
  rw [ha.dat nm' (hh nm' b' h2).1] at *
  exact h.apart nm b nm' b' h1 h2 h3 h4 h5
 ·intro x v hv
  rw [he] at hv
  obtain ⟨h1,h2,h3⟩:=h.mem x v hv
  refine ⟨h1,h2,fun nm b hb hr=>?_⟩
  unfold Ctx.real Ctx.loc at *
  rw [ha.dat nm (hh nm b hb).1] at *
  exact h3 nm b hb hr
end
section
variable {C:Ctx} {heap:List (Nm × Blk)} {w w':World}
theorem BlkR.world {nm:Nm} {b:Blk} (h:BlkR C w nm b) (hk:C.real nm=true→w'.heap[(C.loc nm).1]?=w.heap[(C.loc nm).1]?) (hs:w.heap.size≤w'.heap.size):BlkR C w' nm b:=by
 refine ⟨h.max,h.len,h.width,h.box,h.nilb,?_,?_,fun hr h0 o=>by rw [World.frozen?_of_block (w:=w) (a:=⟨(C.loc nm).1,o,none⟩) (hk hr)];exact h.froz hr h0 o⟩
 ·intro i x hx
  obtain ⟨h1,h2⟩:=h.cells i x hx
  refine ⟨h1,fun j c hc=>?_⟩
  obtain ⟨u,h3,h4⟩:=h2 j c hc
  refine ⟨u,?_,h4⟩
  cases hr:C.real nm with
  | false=>rw [h.nilb hr] at hx;cases hx
  | true=>rw [World.cell?_of_block (w:=w) (a:=C.at nm i j) (hk hr)];exact h3
 ·intro hr
  obtain ⟨h1,h2,h3,h4⟩:=h.room hr
  refine ⟨h1,Nat.lt_of_lt_of_le h2 hs,h3,fun o ho=>?_⟩
  rw [World.cell?_of_block (w:=w) (a:=⟨(C.loc nm).1,(C.loc nm).2+o,none⟩) (hk hr),World.frozen?_of_block (w:=w) (a:=⟨(C.loc nm).1,(C.loc nm).2+o,none⟩) (hk hr)]
  exact h4 o ho
theorem HSim.world [Glob] {r:Option Nat} (h:HSim C heap w) (hg:w.grownBy w' r)
  (hr:∀ k,r=some k→C.base≤k∧(∀ nm b,getH heap nm=some b→C.real nm=true→(C.loc nm).1 ≠ k)∧(∀ a v,C.mem a=some v→a.block ≠ k)∧¬ C.fr k):HSim C heap w':=by
 refine ⟨fun nm b hb=>(h.blk nm b hb).world (fun hreal=>?_) hg.size,h.apart,?_,Nat.le_trans h.grown hg.size,h.kept.grown hg h.grown fun k hk=>(hr k hk).1,fun a v hv hn=>(hg.block a.block (h.mem a v hv).2.1 fun e=>(hr _ e.symm).2.2.1 a v hv rfl).trans (h.blk0 a v hv hn),h.own,h.glob,fun k hk=>by
  obtain ⟨f1,f2,f3⟩:=h.frame k hk
  exact ⟨f1,(hg.block k (Nat.lt_of_lt_of_le f1 h.kept.size) fun e=>(hr _ e.symm).2.2.2 hk).trans f2,f3⟩⟩
 ·refine hg.block _ ((h.blk nm b hb).room hreal).2.1 fun e=>?_
  exact (hr _ e.symm).2.1 nm b hb hreal rfl
 ·intro a v hv
  obtain ⟨h1,h2,h3⟩:=h.mem a v hv
  refine ⟨?_,Nat.lt_of_lt_of_le h2 hg.size,h3⟩
  rw [World.cell?_of_block (w:=w) (hg.block a.block h2 fun e=>(hr _ e.symm).2.2.1 a v hv rfl)]
  exact h1
theorem HSim.del [Glob] (h:HSim C heap w) (n:Nm):HSim C (delH heap n) w:=by
 have get:∀ nm b,getH (delH heap n) nm=some b→getH heap nm=some b:=fun nm b hb=>by
  rw [getH_delH] at hb
  split at hb
  ·cases hb
  ·exact hb
 refine ⟨fun nm b hb=>h.blk nm b (get nm b hb),fun nm b nm' b' h1 h2=>h.apart nm b nm' b' (get nm b h1) (get nm' b' h2),fun a v hv=>?_,h.grown,h.kept,h.blk0,h.own,h.glob,fun k hk=>⟨(h.frame k hk).1,(h.frame k hk).2.1,fun nm b hb=>(h.frame k hk).2.2 nm b (get nm b hb)⟩⟩
 obtain ⟨h1,h2,h3⟩:=h.mem a v hv
 exact ⟨h1,h2,fun nm b hb=>h3 nm b (get nm b hb)⟩
theorem HSim.setBlk [Glob] {n:Nm} {b:Blk} (h:HSim C heap w) (hb:BlkR C w n b)
  (ha:C.real n=true→(∀ nm b',nm ≠ n→getH heap nm=some b'→C.real nm=true→(C.loc nm).1 ≠ (C.loc n).1)∧(∀ a v,C.mem a=some v→a.block ≠ (C.loc n).1)∧¬ C.fr (C.loc n).1):HSim C (setH heap n b) w:=by
 have get:∀ nm b',getH (setH heap n b) nm=some b'→(nm=n∧b'=b)∨(nm ≠ n∧getH heap nm=some b'):=fun nm b' hb'=>by
  rw [getH_setH] at hb'
  split at hb'
  ·rename_i e;exact .inl ⟨e.symm,(Option.some.inj hb').symm⟩
  ·rename_i e;exact .inr ⟨fun e'=>e e'.symm,hb'⟩
 refine ⟨fun nm b' hb'=>?_,fun nm b1 nm' b2 h1 h2 h3 h4 h5=>?_,fun a v hv=>?_,h.grown,h.kept,h.blk0,h.own,h.glob,fun k hk=>⟨(h.frame k hk).1,(h.frame k hk).2.1,fun nm b' hb' hr=>?_⟩⟩
 rotate_right
 ·rcases get nm b' hb' with ⟨rfl,rfl⟩|⟨n1,g1⟩
  ·exact fun e=>(ha hr).2.2 (e ▸ hk)
  ·exact (h.frame k hk).2.2 nm b' g1 hr
 ·rcases get nm b' hb' with ⟨rfl,rfl⟩|⟨_,hg⟩
  ·exact hb
  ·exact h.blk nm b' hg
 ·rcases get nm b1 h1 with ⟨rfl,rfl⟩|⟨n1,g1⟩
  ·rcases get nm' b2 h2 with ⟨rfl,rfl⟩|⟨n2,g2⟩
   ·exact absurd rfl h5
   ·exact fun e=>(ha h3).1 nm' b2 n2 g2 h4 e.symm
  ·rcases get nm' b2 h2 with ⟨rfl,rfl⟩|⟨n2,g2⟩
   ·exact (ha h4).1 nm b1 n1 g1 h3
   ·exact h.apart nm b1 nm' b2 g1 g2 h3 h4 h5
 ·obtain ⟨h1,h2,h3⟩:=h.mem a v hv
  refine ⟨h1,h2,fun nm b' hb' hr=>?_⟩
  rcases get nm b' hb' with ⟨rfl,rfl⟩|⟨n1,g1⟩
  ·exact fun e=>(ha hr).2.1 a v hv e.symm
  ·exact h3 nm b' g1 hr
end
section
variable {C:Ctx} {nt:Nat} {st:St} {a:Act} {w:World}
theorem Sim.withH [Glob] {C':Ctx} {heap:List (Nm × Blk)} {w':World} (h:Sim C nt st a w) (hh:HSim C' heap w') (he:∀ t,VR C' (getE st.env t) (a.tmps.getD t undef)):Sim C' nt ⟨st.env,heap⟩ a w' :=
 { toHSim:=hh,size:=h.size,defers:=h.defers,env:=he }
theorem Sim.put [Glob] {d:Nat} {v:AV} {u:Value} (h:Sim C nt st a w) (hv:VR C v u) (hd:d<nt):Sim C nt ⟨setE st.env d v,st.heap⟩ (a.put (some d) u) w:=by
 refine { toHSim:=h.toHSim,size:=by simp [Act.put,h.size],defers:=h.defers,env:=fun t=>?_ }
 simp only [getE_setE,Act.put]
 split
 ·rename_i e
  subst e
  have:(a.tmps.setIfInBounds d u).getD d undef=u:=by
   have:d<a.tmps.size:=by rw [h.size];exact hd
   simp [this]
  rw [this]
  exact hv
 ·rename_i e
  have:(a.tmps.setIfInBounds d u).getD t undef=a.tmps.getD t undef:=by
   simp [Array.getElem?_setIfInBounds_ne e]
  rw [this]
  exact h.env t
theorem Sim.puts [Glob] {d:Option Nat} {v:AV} {u:Value} (h:Sim C nt st a w) (hv:VR C v u) (hd:∀ x,d=some x→x<nt):Sim C nt (st.set d v) (a.put d u) w:=by
 cases d with
 | none=>exact h
 | some d=>exact h.put hv (hd d rfl)
theorem Sim.ctx [Glob] {p:Nm→Bool} {C':Ctx} (ha:Agree p C C') (heq:C'.mem=C.mem) (hfq:C'.memF=C.memF) (h:Sim C nt st a w) (he:∀ t,menV p (getE st.env t)=false)
  (hh:∀ nm b,getH st.heap nm=some b→p nm=false∧(b.box=true→∀ x ∈ b.xs,menV p x=false)):Sim C' nt st a w :=
 { toHSim:=h.toHSim.ctx ha heq hfq hh,size:=h.size,defers:=h.defers,env:=fun t=>(h.env t).move ha (he t) }
end
end Go.Proofs.VE
