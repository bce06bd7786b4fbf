import Derived.Test.YtcondihilccdpaaDoorVEnm
namespace Go.Proofs.VE
open Go
section
variable {P:Program} {C C':Ctx} {nt:Nat} {st:St} {a:Act} {w w':World} {heap:List (Nm × Blk)}
theorem impCs_under (p:Nm):∀ (xs:List AV) (j:Nat) (x:Nm × Blk),x ∈ (impCs p j xs).2→under p x.1=true
 | [],_,x,h=>by simp [impCs] at h
 | y :: ys,j,x,h=>by
  simp only [impCs,List.mem_append] at h
  rcases h with h|h
  ·unfold imp1 at h
   split at h
   ·simp only [List.mem_singleton] at h;rw [h];exact (under_iff _ _).2 ⟨[j],rfl⟩
   ·simp at h
  ·exact impCs_under p ys (j+1) x h
theorem imp2_under (p:Nm) (y:AV) (x:Nm × Blk) (h:x ∈ (imp2 p y).2):under p x.1=true:=by
 unfold imp2 at h
 split at h
 ·exact impCs_under p _ 0 x h
 ·unfold imp1 at h
  split at h
  ·simp only [List.mem_singleton] at h;rw [h];exact (under_iff _ _).2 ⟨[],rfl⟩
  ·simp at h
theorem impVs_under (p:Nm):∀ (xs:List AV) (j:Nat) (x:Nm × Blk),x ∈ (impVs p j xs).2→under p x.1=true
 | [],_,x,h=>by simp [impVs] at h
 | y :: ys,j,x,h=>by
  simp only [impVs,List.mem_append] at h
  rcases h with h|h
  ·exact under_trans (imp2_under (j :: p) y x h) ((under_iff _ _).2 ⟨[j],rfl⟩)
  ·exact impVs_under p ys (j+1) x h
theorem impV_under (p:Nm) (y:AV) (x:Nm × Blk) (h:x ∈ (impV p y).2):under p x.1=true:=by
 unfold impV at h
 split at h
 ·exact impVs_under p _ 0 x h
 ·exact imp2_under p y x h
theorem addH_names:∀ (l:List (Nm × Blk)) (h h':List (Nm × Blk)),addH h l=some h'→(∀ x ∈ l,getH h x.1=none)∧(l.map (·.1)).Nodup
 | [],_,_,_=>⟨fun x h=>by simp at h,List.nodup_nil⟩
 | (m,b) :: r,h,h',ha=>by
  unfold addH at ha
  split at ha
  ·cases ha
  ·rename_i hm
   obtain ⟨h1,h2⟩:=addH_names r _ _ ha
   have ne:∀ x ∈ r,m ≠ x.1∧getH h x.1=none:=fun x hx=>by
    have:=h1 x hx
    rw [getH_setH] at this
    split at this
    ·cases this
    ·rename_i hne;exact ⟨hne,this⟩
   refine ⟨fun x hx=>?_,?_⟩
   ·rcases List.mem_cons.1 hx with rfl|hx
    ·exact hm
    ·exact (ne x hx).2
   ·rw [List.map_cons,List.nodup_cons]
    refine ⟨fun hm'=>?_,h2⟩
    obtain ⟨x,hx,e⟩:=List.mem_map.1 hm'
    exact (ne x hx).1 e.symm
theorem TabR.names {M:Addr→Option Value} {l:List (Nm × Blk)} {t:List (Nm × Dat)} (h:TabR w w' M l t):t.map (·.1)=l.map (·.1):=by
 induction h with
 | nil=>rfl
 | cons n b D l t _ _ _ ih=>simp [ih]
def Ctx.setAll (C:Ctx) (t:List (Nm × Dat)):Ctx:={ C with dat:=fun m=>match t.find? (fun x=>x.1=m) with|some x=>x.2|none=>C.dat m }
theorem setAll_get {t:List (Nm × Dat)} (hn:(t.map (·.1)).Nodup) (x:Nm × Dat) (hx:x ∈ t):(C.setAll t).dat x.1=x.2:=by
 unfold Ctx.setAll
 simp only
 have:t.find? (fun y=>decide (y.1=x.1))=some x:=by
  induction t with
  | nil=>simp at hx
  | cons y r ih =>
   rw [List.map_cons,List.nodup_cons] at hn
   rcases List.mem_cons.1 hx with rfl|hm
   ·simp
   ·have hne:y.1 ≠ x.1:=fun e=>hn.1 (e ▸ List.mem_map.2 ⟨x,hm,rfl⟩)
    rw [List.find?_cons_of_neg (by simpa using hne)]
    exact ih hn.2 hm
 rw [this]
theorem setAll_agree {t:List (Nm × Dat)} {p:Nm→Bool} (h:∀ x ∈ t,p x.1=true):Agree p C (C.setAll t):=by
 refine ⟨rfl,rfl,fun _ _ h=>h,fun _ _ h=>h,fun _ _ _ h=>h,fun nm hn=>?_,rfl,fun _ _ h => .inl h⟩
 unfold Ctx.setAll
 simp only
 cases hf:t.find? (fun x=>decide (x.1=nm)) with
 | none=>rfl
 | some x =>
  have h1:=List.mem_of_find?_eq_some hf
  have h2:=List.find?_some hf
  simp only [decide_eq_true_eq] at h2
  rw [← h2,h x h1] at hn
  cases hn
theorem BlkR.carry {X:Ctx} {b:Blk} {n m:Nm} (h:BlkR X w' m b) (hd:C'.dat n=X.dat m) (hb:C'.base≤X.base) (hbox:b.box=false) (hm:∀ a v,X.memF a=some v→C'.memF a=some v):BlkR C' w' n b:=by
 refine ⟨h.max,by unfold Ctx.len;rw [hd];exact h.len,by unfold Ctx.width;rw [hd];exact h.width,(fun h=>by rw [hbox] at h;cases h),by unfold Ctx.real;rw [hd];exact h.nilb,fun i x hx=>?_,?_,by unfold Ctx.real Ctx.loc Ctx.room Ctx.width;rw [hd];exact h.froz⟩
 ·obtain ⟨g1,g2⟩:=h.cells i x hx
  refine ⟨by unfold Ctx.width;rw [hd];exact g1,fun j c hc=>?_⟩
  obtain ⟨u,g3,g4,g5⟩:=g2 j c hc
  refine ⟨u,by unfold Ctx.at Ctx.loc Ctx.width;rw [hd];exact g3,g4,?_⟩
  rw [hbox] at g5 ⊢
  simp only [Bool.false_eq_true,if_false] at g5 ⊢
  obtain ⟨ct,g6,g7⟩:=g5
  exact ⟨ct,g6,g7.mono hm⟩
 ·unfold Ctx.real Ctx.loc Ctx.room Ctx.width
  rw [hd]
  intro hr
  obtain ⟨g1,g2⟩:=h.room hr
  exact ⟨Nat.le_trans hb g1,g2⟩
theorem add_sound [Glob] {M:Addr→Option Value} {l:List (Nm × Blk)} {t:List (Nm × Dat)} (ht:TabR w w' M l t):∀ {heap heap':List (Nm × Blk)},addH heap l=some heap'→HSim C' heap w'→C'.base≤w.heap.size→C'.w0.heap.size≤w.heap.size→(∀ x ∈ t,C'.dat x.1=x.2)→Apart t →
  (∀ x ∈ t,x.2.real=true→∀ nm b,getH heap nm=some b→C'.real nm=true→(C'.loc nm).1 ≠ x.2.loc.1)→(∀ x ∈ t,x.2.real=true→∀ a v,C'.mem a=some v→a.block ≠ x.2.loc.1)→(∀ a v,M a=some v→C'.memF a=some v)→HSim C' heap' w':=by
 induction ht with
 | nil=>intro heap heap' h hs _ _ _ _ _ _ _;simp only [addH,Option.some.injEq] at h;subst h;exact hs
 | cons n b D l t hb hbox _ ih =>
  intro heap heap' h hs hbase hw0 hd ha hu hm hM
  unfold addH at h
  split at h
  ·cases h
  ·have hdn:C'.dat n=D:=hd (n,D) List.mem_cons_self
   unfold Apart at ha
   rw [List.pairwise_cons] at ha
   refine ih h (hs.setBlk (hb.carry (hdn.trans (ctxT_dat _ _ _).symm) hbase hbox hM) fun hr=>?_) hbase hw0 (fun x hx=>hd x (List.mem_cons_of_mem _ hx)) ha.2 ?_ (fun x hx=>hm x (List.mem_cons_of_mem _ hx)) hM
   ·have hl:(C'.loc n).1=D.loc.1:=by unfold Ctx.loc;rw [hdn]
    have hr':D.real=true:=by unfold Ctx.real at hr;rw [hdn] at hr;exact hr
    rw [hl]
    exact ⟨fun nm b' _ h1 h2=>hu (n,D) List.mem_cons_self hr' nm b' h1 h2,hm (n,D) List.mem_cons_self hr',fun hf=>by
     have f1:=(hs.frame _ hf).1
     have f2:=(hb.room (by unfold Ctx.real;rw [ctxT_dat];exact hr')).1
     unfold Ctx.loc at f2
     rw [ctxT_dat] at f2
     have f3:w.heap.size≤D.loc.1:=f2
     omega⟩
   ·intro x hx hr nm b' h1 h2
    rw [getH_setH] at h1
    split at h1
    ·rename_i e
     subst e
     unfold Ctx.real at h2
     rw [hdn] at h2
     unfold Ctx.loc
     rw [hdn]
     exact ha.1 x hx h2 hr
    ·exact hu x (List.mem_cons_of_mem _ hx) hr nm b' h1 h2
def Ctx.add (C:Ctx) (M:Addr→Option Value):Ctx:={ C with mem:=fun a=>(M a).or (C.mem a),memF:=fun a=>(M a).or (C.memF a) }
theorem HSim.add [Glob] {M:Addr→Option Value} {n0:Nat} (h:HSim C heap w) (hM:∀ a v,M a=some v→w.cell? a=some v∧n0≤a.block) (h1:∀ nm b,getH heap nm=some b→C.real nm=true→(C.loc nm).1<n0) (h2:∀ a v,C.mem a=some v→a.block<n0) (hb:C.base≤n0) (hw:C.w0.heap.size≤n0) :
  Agree (fun _=>false) C (C.add M)∧HSim (C.add M) heap w:=by
 have low:∀ a v,C.mem a=some v→M a=none:=fun a v hv=>by
  cases hm:M a with
  | none=>rfl
  | some u =>
   have:=(hM a u hm).2
   have:=h2 a v hv
   omega
 have hag:Agree (fun _=>false) C (C.add M):=by
  refine ⟨rfl,rfl,fun a v hv=>?_,fun a v hv=>?_,fun a v hv hn=>?_,fun _ _=>rfl,rfl,fun a v hv=>?_⟩
  rotate_right
  ·have hv:(M a).or (C.mem a)=some v:=hv
   cases hm:M a with
   | none=>rw [hm] at hv;exact .inl hv
   | some u =>
    rw [hm] at hv
    refine .inr ⟨?_,fun hf=>?_⟩
    ·show (M a).or (C.memF a)=some v;rw [hm];exact hv
    ·have:=(h.frame _ hf).1
     have:=(hM a u hm).2
     omega
  ·show (M a).or (C.mem a)=some v;rw [low a v hv];exact hv
  ·show (M a).or (C.memF a)=some v;rw [low a v (h.own a v hv).1];exact hv
  ·show (M a).or (C.memF a)=none;rw [low a v hv];exact hn
 refine ⟨hag,⟨fun nm b hb=>?_,h.apart,fun a v hv=>?_,h.grown,h.kept,fun a v hv hn=>?_,fun a v hv=>?_,h.glob,h.frame⟩⟩
 ·have B:=h.blk nm b hb
  refine ⟨B.max,B.len,B.width,B.box,B.nilb,fun i x hx=>?_,B.room,B.froz⟩
  obtain ⟨g1,g2⟩:=B.cells i x hx
  refine ⟨g1,fun j c hj=>?_⟩
  obtain ⟨u,g3,g4,g5⟩:=g2 j c hj
  refine ⟨u,g3,g4,?_⟩
  cases hbx:b.box with
  | true =>
   rw [hbx] at g5
   simp only [if_true] at g5 ⊢
   exact g5.grow hag
  | false =>
   rw [hbx] at g5
   simp only [Bool.false_eq_true,if_false] at g5 ⊢
   obtain ⟨ct,k1,k2⟩:=g5
   exact ⟨ct,k1,k2.mono hag.memF⟩
 ·have hv:(M a).or (C.mem a)=some v:=hv
  cases hm:M a with
  | none=>rw [hm] at hv;exact h.mem a v hv
  | some u =>
   rw [hm] at hv
   obtain rfl:u=v:=Option.some.inj hv
   obtain ⟨g1,g2⟩:=hM a u hm
   refine ⟨g1,World.block_lt_of_cell? w a g1,fun nm b hb hr e=>?_⟩
   have:=h1 nm b hb hr
   have e:(C.loc nm).1=a.block:=e
   omega
 ·have hv:(M a).or (C.mem a)=some v:=hv
  have hn:(M a).or (C.memF a)=none:=hn
  cases hm:M a with
  | none=>rw [hm] at hv hn;exact h.blk0 a v hv hn
  | some u=>rw [hm] at hn;cases hn
 ·have hv:(M a).or (C.memF a)=some v:=hv
  show (M a).or (C.mem a)=some v∧_
  cases hm:M a with
  | none=>rw [hm] at hv;exact h.own a v hv
  | some u =>
   rw [hm] at hv
   exact ⟨hv,Nat.le_trans hb (hM a u hm).2⟩
theorem Below.grownBy {w w':World} (h:RowKit.Below w.heap.size w w'):w.grownBy w' none:=⟨h.os,h.tape,h.output,h.size,fun k hk _=>h.block k hk⟩
theorem import_sound [Glob] {q p:Nm} {r:AV} {u:Value} {heap':List (Nm × Blk)} (hs:Sim C nt st a w) (hq:cleanS q st=true) (hp:under q p=true) (hb:RowKit.Below w.heap.size w w') (hr:RetOK w w' r u)
  (h:addH st.heap (impV p r).2=some heap'):∃ C',Agree (under q) C C'∧Sim C' nt ⟨st.env,heap'⟩ a w'∧VR C' (impV p r).1 u:=by
 obtain ⟨t,M,h1,h2,hMo,h3⟩:=hr p
 obtain ⟨h4,h5⟩:=addH_names _ _ _ h
 have hnames:=h1.names
 have hget:∀ x ∈ t,(C.setAll t).dat x.1=x.2:=setAll_get (by rw [hnames];exact h5)
 have hund:∀ x ∈ t,under q x.1=true:=fun x hx=>by
  have:x.1 ∈ (impV p r).2.map (·.1):=by rw [← hnames];exact List.mem_map.2 ⟨x,hx,rfl⟩
  obtain ⟨y,hy,e⟩:=List.mem_map.1 this
  rw [← e]
  exact under_trans (impV_under p r y hy) hp
 have hag:Agree (under q) C (C.setAll t):=setAll_agree hund
 unfold cleanS at hq
 rw [Bool.and_eq_true] at hq
 have hs1:=hs.ctx hag rfl rfl (cleanE_get hq.1) (cleanH_get hq.2)
 have hs2:HSim (C.setAll t) st.heap w':=hs1.toHSim.world (Below.grownBy hb) fun k hk=>by cases hk
 obtain ⟨ag2,hs2⟩:=hs2.add (M:=M) (n0:=w.heap.size) (fun a v hv=>⟨(hMo a v hv).1,(hMo a v hv).2.1⟩) (fun nm b hnb hrn=>((hs1.blk nm b hnb).room hrn).2.1) (fun a v hv=>(hs1.mem a v hv).2.1) hs1.grown hs1.kept.size
 have fresh:∀ x ∈ t,x.2.real=true→w.heap.size≤x.2.loc.1:=fun x hx hreal=>by
  have key:∀ {l:List (Nm × Blk)} {t:List (Nm × Dat)},TabR w w' M l t→∀ x ∈ t,x.2.real=true→w.heap.size≤x.2.loc.1:=by
   intro l t ht
   induction ht with
   | nil=>intro x hx;simp at hx
   | cons n b D l t hb _ _ ih =>
    intro x hx hr
    rcases List.mem_cons.1 hx with rfl|hx
    ·have:=(hb.room (by unfold Ctx.real;rw [ctxT_dat];exact hr)).1
     unfold Ctx.loc at this
     rw [ctxT_dat] at this
     exact this
    ·exact ih x hx hr
  exact key h1 x hx hreal
 have hs3:=add_sound (C':=(C.setAll t).add M) h1 h hs2 hs.grown hs.kept.size hget h2 (fun x hx hreal nm b hnb hrn=>by
   have g1:=fresh x hx hreal
   have g2:=((hs1.blk nm b hnb).room hrn).2.1
   have g3:(((C.setAll t).add M).loc nm).1=((C.setAll t).loc nm).1:=rfl
   omega) (fun x hx hreal z v hz=>by
   have hz:(M z).or (C.mem z)=some v:=hz
   cases hm:M z with
   | none =>
    rw [hm] at hz
    have g1:=fresh x hx hreal
    have g2:=(hs1.mem z v hz).2.1
    omega
   | some y=>exact fun e=>(hMo z y hm).2.2 x hx hreal e.symm) (fun a v hv=>by
   show (M a).or (C.memF a)=some v
   rw [hv]
   rfl)
 exact ⟨(C.setAll t).add M,hag.trans (ag2.mono fun _ h=>by cases h),hs.withH hs3 (fun t=>(hs1.env t).grow ag2),h3 _ hget⟩
theorem nodupN_spec:∀ (l:List Nm),nodupN l=true→l.Nodup
 | [],_=>List.nodup_nil
 | m :: r,h=>by
  simp only [nodupN,Bool.and_eq_true,Bool.not_eq_true',List.any_eq_false] at h
  rw [List.nodup_cons]
  exact ⟨fun hm=>by have:=h.1 m hm;rw [nmEq_refl] at this;exact this rfl,nodupN_spec r h.2⟩
end
end Go.Proofs.VE
