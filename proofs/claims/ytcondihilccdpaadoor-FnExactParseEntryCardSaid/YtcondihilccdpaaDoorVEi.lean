import Derived.Test.YtcondihilccdpaaDoorVEh
import Derived.Great.BuildSlice
namespace Go.Proofs.VE
open Go
theorem under_iff (p n:Nm):under p n=true ↔ ∃ q,n=q++p:=by
 unfold under
 constructor
 ·intro h
  cases hb:Nat.ble p.length n.length with
  | false=>rw [hb] at h;simp at h
  | true =>
   rw [hb] at h
   simp only [cond_true,nmEq_iff] at h
   exact ⟨n.take (n.length - p.length),by
                       rw [← h];conv=>lhs;rw [← List.take_append_drop (n.length - p.length) n]
                       simp only [List.length_drop]
                       have:=Nat.le_of_ble_eq_true hb
                       rw [show n.length - (n.length - (n.length - p.length))=n.length - p.length by omega]⟩
 ·rintro ⟨q,rfl⟩
  have:Nat.ble p.length (q++p).length=true:=Nat.ble_eq_true_of_le (by simp)
  rw [this]
  simp only [cond_true,nmEq_iff,List.length_append,Nat.add_sub_cancel]
  simp
theorem isLoc_iff (p n:Nm):isLoc p n=true ↔ ∃ q,q ≠ []∧n=q++p:=by
 unfold isLoc
 constructor
 ·intro h
  cases hb:Nat.ble (p.length+1) n.length with
  | false=>rw [hb] at h;simp at h
  | true =>
   rw [hb] at h
   simp only [cond_true] at h
   have hl:=Nat.le_of_ble_eq_true hb
   have hu:under p n=true:=by
    unfold under
    rw [Nat.ble_eq_true_of_le (by omega)]
    exact h
   obtain ⟨q,rfl⟩:=(under_iff p n).1 hu
   refine ⟨q,fun e=>?_,rfl⟩
   subst e
   simp at hl
   omega
 ·rintro ⟨q,hq,rfl⟩
  have:Nat.ble (p.length+1) (q++p).length=true:=Nat.ble_eq_true_of_le (by
   cases q with
   | nil=>exact absurd rfl hq
   | cons x q=>simp)
  rw [this]
  simp only [cond_true,nmEq_iff,List.length_append,Nat.add_sub_cancel]
  simp
theorem under_isLoc {d:Nat} {π n:Nm} (h:under (d :: π) n=true):isLoc π n=true:=by
 obtain ⟨q,rfl⟩:=(under_iff _ _).1 h
 exact (isLoc_iff _ _).2 ⟨q++[d],by simp,by simp⟩
theorem isLoc_under {π n:Nm} (h:isLoc π n=true):under π n=true:=by
 obtain ⟨q,_,rfl⟩:=(isLoc_iff _ _).1 h
 exact (under_iff _ _).2 ⟨q,rfl⟩
theorem under_new (d:Nat) (π:Nm):under (d :: π) (1 :: d :: π)=true:=(under_iff _ _).2 ⟨[1],rfl⟩
theorem under_trans {p q n:Nm} (h:under p n=true) (k:under q p=true):under q n=true:=by
 obtain ⟨x,rfl⟩:=(under_iff _ _).1 h
 obtain ⟨y,rfl⟩:=(under_iff _ _).1 k
 exact (under_iff _ _).2 ⟨x++y,by simp⟩
theorem getE_mem:∀ (e:List (Nat × AV)) (t:Nat),getE e t = .undef∨∃ s,(s,getE e t) ∈ e
 | [],_ => .inl rfl
 | (s,v) :: r,t=>by
  unfold getE
  cases hb:Nat.beq s t with
  | true=>exact .inr ⟨s,by simp⟩
  | false =>
   rcases getE_mem r t with h|⟨x,h⟩
   ·exact .inl h
   ·exact .inr ⟨x,by simp only [cond_false];exact List.mem_cons_of_mem _ h⟩
theorem getH_mem:∀ (h:List (Nm × Blk)) (m:Nm) (b:Blk),getH h m=some b→(m,b) ∈ h
 | [],_,_,h=>by cases h
 | (n,c) :: r,m,b,h=>by
  unfold getH at h
  cases hb:nmEq n m with
  | true =>
   rw [hb] at h
   have:=(nmEq_iff n m).1 hb
   simp at h
   subst this;subst h
   exact List.mem_cons_self
  | false =>
   rw [hb] at h
   exact List.mem_cons_of_mem _ (getH_mem r m b h)
theorem cleanE_get {q:Nm} {env:List (Nat × AV)} (h:cleanE q env=true) (t:Nat):menV (under q) (getE env t)=false:=by
 rcases getE_mem env t with e|⟨s,hs⟩
 ·rw [e];rfl
 ·unfold cleanE at h
  rw [List.all_eq_true] at h
  simpa using h _ hs
theorem cleanH_get {q:Nm} {heap:List (Nm × Blk)} (h:cleanH q heap=true) (nm:Nm) (b:Blk) (hb:getH heap nm=some b):under q nm=false∧(b.box=true→∀ x ∈ b.xs,menV (under q) x=false):=by
 unfold cleanH at h
 rw [List.all_eq_true] at h
 have:=h _ (getH_mem heap nm b hb)
 simp only [Bool.and_eq_true,Bool.not_eq_true',Bool.or_eq_true,List.all_eq_true] at this
 refine ⟨this.1,fun hbox x hx=>?_⟩
 rcases this.2 with h2|h2
 ·rw [hbox] at h2;cases h2
 ·exact h2 x hx
def Ctx.set (C:Ctx) (n:Nm) (D:Dat):Ctx:={ C with dat:=fun m=>if m=n then D else C.dat m }
theorem Ctx.set_dat (C:Ctx) (n:Nm) (D:Dat):(C.set n D).dat n=D:=by simp [Ctx.set]
theorem Ctx.set_agree {q:Nm} (C:Ctx) {n:Nm} (D:Dat) (h:under q n=true):Agree (under q) C (C.set n D):=by
 refine ⟨rfl,rfl,fun _ _ h=>h,fun _ _ h=>h,fun _ _ _ h=>h,fun m hm=>?_,rfl,fun _ _ h => .inl h⟩
 have:m ≠ n:=fun e=>by rw [e,h] at hm;cases hm
 simp [Ctx.set,this]
section
variable {P:Program} {C C':Ctx} {nt:Nat} {st:St} {a:Act} {w w':World}
theorem Sim.new [Glob] {q n:Nm} {r:Option Nat} {D:Dat} {b:Blk} (hs:Sim C nt st a w) (hq:cleanS q st=true) (hn:under q n=true) (hg:w.grownBy w' r)
  (hr:∀ k,r=some k→C.base≤k∧(∀ nm b,getH st.heap nm=some b→C.real nm=true→(C.loc nm).1 ≠ k)∧(∀ a v,C.mem a=some v→a.block ≠ k)∧¬ C.fr k)
  (hb:BlkR (C.set n D) w' n b)
  (hD:D.real=true→(∀ nm b',getH st.heap nm=some b'→C.real nm=true→(C.loc nm).1 ≠ D.loc.1)∧(∀ a v,C.mem a=some v→a.block ≠ D.loc.1)∧¬ C.fr D.loc.1) :
  Sim (C.set n D) nt ⟨st.env,setH st.heap n b⟩ a w'∧Agree (under q) C (C.set n D):=by
 have ha:Agree (under q) C (C.set n D):=Ctx.set_agree C D hn
 unfold cleanS at hq
 rw [Bool.and_eq_true] at hq
 have h1:=hs.ctx ha rfl rfl (cleanE_get hq.1) (cleanH_get hq.2)
 have same:∀ nm b',getH st.heap nm=some b'→(C.set n D).dat nm=C.dat nm:=fun nm b' h=>ha.dat nm (cleanH_get hq.2 nm b' h).1
 have h2:HSim (C.set n D) st.heap w':=h1.toHSim.world hg fun k hk=>by
  obtain ⟨x,y,z⟩:=hr k hk
  refine ⟨x,fun nm b' h hreal=>?_,z⟩
  unfold Ctx.real Ctx.loc at *
  rw [same nm b' h] at *
  exact y nm b' h hreal
 refine ⟨hs.withH (h2.setBlk hb fun hreal=>?_) h1.env,ha⟩
 unfold Ctx.real Ctx.loc at *
 rw [Ctx.set_dat] at *
 obtain ⟨x,y⟩:=hD hreal
 refine ⟨fun nm b' _ h hr'=>?_,y⟩
 rw [same nm b' h] at *
 exact x nm b' h hr'
theorem lt_old [Glob] (hs:Sim C nt st a w):(∀ nm b',getH st.heap nm=some b'→C.real nm=true→(C.loc nm).1 ≠ w.heap.size)∧(∀ a v,C.mem a=some v→a.block ≠ w.heap.size)∧¬ C.fr w.heap.size :=
 ⟨fun nm b' h hr=>Nat.ne_of_lt ((hs.blk nm b' h).room hr).2.1,fun a v h=>Nat.ne_of_lt (hs.mem a v h).2.1,fun h=>by
  have h1:=(hs.frame _ h).1
  have h2:=hs.kept.size
  omega⟩
theorem newBlk {C:Ctx} {n:Nm} {cs:Array Value} {e:TypeId} {b:Blk} {width room:Nat} (hd:C.dat n=⟨true,(w.heap.size,0),width,b.xs.length,room⟩) (hbase:C.base≤w.heap.size)
  (hw:b.box=false→width=b.tys.length) (hbox:b.box=true→b.xs.length=1) (hmax:b.xs.length≤maxLen) (hlen:b.xs.length≤room) (hroom:room*width≤cs.size)
  (hc:∀ i x,b.xs[i]?=some x→x.cells.length=width∧∀ j c,x.cells[j]?=some c→∃ u,cs[i*width+j]?=some u∧cellR C b j c u):BlkR C (w.alloc (.cells cs e)) n b:=by
 have hcell:∀ o,(w.alloc (.cells cs e)).cell? ⟨w.heap.size,o,none⟩=cs[o]?:=fun o=>World.cell?_alloc_at cs e _ _ rfl
 refine ⟨hmax,by unfold Ctx.len;rw [hd],by unfold Ctx.width;rw [hd];exact hw,by unfold Ctx.real;rw [hd];exact fun h=>⟨hbox h,rfl⟩,by unfold Ctx.real;rw [hd];exact (fun h=>by cases h),?_,?_,fun _ _ o=>by unfold Ctx.loc;rw [hd];exact World.frozen?_alloc_at cs e _ _ rfl⟩
 ·intro i x hx
  obtain ⟨h1,h2⟩:=hc i x hx
  refine ⟨by unfold Ctx.width;rw [hd];exact h1,fun j c hj=>?_⟩
  obtain ⟨u,h3,h4⟩:=h2 j c hj
  refine ⟨u,?_,h4⟩
  unfold Ctx.at Ctx.loc Ctx.width at_
  rw [hd]
  simp only [Nat.zero_add]
  rw [hcell]
  exact h3
 ·intro _
  unfold Ctx.loc Ctx.room Ctx.width
  rw [hd]
  refine ⟨hbase,by simp,hlen,fun o (ho:o<room*width)=>?_⟩
  simp only [Nat.zero_add]
  rw [hcell]
  refine ⟨?_,World.frozen?_alloc_at cs e _ _ rfl⟩
  rw [Array.getElem?_eq_getElem (by omega)]
  rfl
theorem zero_spec {t:TypeId} {z:AV} (h:zeroA P t=some z):∃ zv i,z=ofVal zv∧P.info? t=some i∧i.zero=some zv:=by
 unfold zeroA at h
 obtain ⟨zv,hzv,rfl⟩:=Option.map_eq_some_iff.1 h
 obtain ⟨it,hit,hzero⟩:=Option.bind_eq_some_iff.1 hzv
 exact ⟨zv,it,rfl,hit,hzero⟩
theorem run_zero {t:TypeId} {i:TypeInfo} {zv:Value} (h:P.info? t=some i) (hz:i.zero=some zv):(zeroValue t).run P w = .ok zv w:=by
 unfold zeroValue
 rw [run_bind' (run_typeInfo h)]
 simp only [hz]
 rfl
theorem run_newVar (t:TypeId) (v:Value):(newVar t v).run P w = .ok ⟨w.heap.size,0,none⟩ (w.alloc (.cells v.cells t)):=rfl
def Eff [Glob] (P:Program) (π:Nm) (C:Ctx) (nt:Nat) (o:Oper) (a:Act) (w:World) (st':St):Prop :=
 ∃ C' n u w',(execOp a.eval o).run P w = .ok n w'∧(n = .value u∨n = .skip∧u=undef)∧Agree (isLoc π) C C'∧Sim C' nt st' (a.put o.dst u) w'
theorem clean_men {q:Nm} (h:cleanS q st=true) (x:Operand):menV (under q) (opA st.env x)=false:=by
 unfold cleanS at h
 rw [Bool.and_eq_true] at h
 cases x with
 | tmp t=>exact cleanE_get h.1 t
 | const v =>
  show menV _ (ofVal v)=false
  have one:∀ u,menC (under q) (ofVal1 u)=false:=fun u=>by unfold ofVal1;split <;> rfl
  have oneW:∀ u,menW (under q) (ofVal1 u)=false:=fun u=>by unfold ofVal1;split <;> rfl
  unfold ofVal
  split
  ·rename_i cells
   cases cells.toList.all fun v=>match v with | .agg _ | .tuple _=>false|_=>true with
   | true =>
    simp only [cond_true,menV,List.any_eq_false]
    intro c hc
    obtain ⟨u,_,rfl⟩:=List.mem_map.1 hc
    simp [one]
   | false=>rfl
  ·simp only [menV,List.any_eq_false]
   intro c hc
   obtain ⟨u,_,rfl⟩:=List.mem_map.1 hc
   simp [oneW]
  ·exact menC_menV (one v)
 | global _=>rfl
 | func f=>rfl
theorem box_new [Glob] {o:Oper} {d:Nat} {π:Nm} {x:AV} {u:Value} {t:TypeId} (hd:d<nt) (ho:o.dst=some d) (hs:Sim C nt st a w) (hx:VR C x u) (hok:okV x=true) (hm:menV (under (d :: π)) x=false)
  (hq:cleanS (d :: π) st=true) (hr:(execOp a.eval o).run P w = .ok (.value (.pointer (some ⟨w.heap.size,0,none⟩))) (w.alloc (.cells u.cells t))) :
  Eff P π C nt o a w ⟨setE st.env d (.ptr (1 :: d :: π) 0 0),setH st.heap (1 :: d :: π) ⟨true,[],[x]⟩⟩:=by
 have D:Dat:=⟨true,(w.heap.size,0),x.cells.length,1,1⟩
 have ha:Agree (under (d :: π)) C (C.set (1 :: d :: π) ⟨true,(w.heap.size,0),x.cells.length,1,1⟩):=Ctx.set_agree C _ (under_new d π)
 have hc:=okV_cells (hx.move ha hm) hok
 have hb:BlkR (C.set (1 :: d :: π) ⟨true,(w.heap.size,0),x.cells.length,1,1⟩) (w.alloc (.cells u.cells t)) (1 :: d :: π) ⟨true,[],[x]⟩:=by
  refine newBlk (by rw [Ctx.set_dat];rfl) hs.grown (fun h=>by cases h) (fun _=>rfl) (by simp [maxLen]) (Nat.le_refl 1) (by rw [hc.size];omega) ?_
  intro i y hy
  cases i with
  | succ i=>simp at hy
  | zero =>
   simp only [List.getElem?_cons_zero,Option.some.injEq] at hy
   subst hy
   refine ⟨rfl,fun j c hj=>?_⟩
   have hlt:j<u.cells.size:=by rw [← hc.size];exact (List.getElem?_eq_some_iff.1 hj).1
   have hu:u.cells[j]?=some u.cells[j]:=Array.getElem?_eq_getElem hlt
   refine ⟨u.cells[j],by simp,hc.one j _ hu,?_⟩
   simp only [if_true]
   exact hc.get j c _ hj hu
 obtain ⟨h1,h2⟩:=hs.new (r:=none) hq (under_new d π) (World.grownBy_alloc w _ none) (fun k h=>by cases h) hb fun _=>lt_old hs
 refine ⟨_,_,_,_,hr,.inl rfl,h2.mono fun nm h=>under_isLoc h,?_⟩
 rw [ho]
 refine h1.put ?_ hd
 have:(⟨w.heap.size,0,none⟩:Addr)=(C.set (1 :: d :: π) ⟨true,(w.heap.size,0),x.cells.length,1,1⟩).at (1 :: d :: π) 0 0:=by
  unfold Ctx.at Ctx.loc Ctx.width at_
  rw [Ctx.set_dat]
  simp
 rw [this]
 exact .ptr _ 0 0 (by unfold Ctx.real;rw [Ctx.set_dat]) (by unfold Ctx.len;rw [Ctx.set_dat];exact Nat.one_pos)
theorem ofVal_men (q:Nm) (v:Value):menV (under q) (ofVal v)=false:=by
 have:=clean_men (st:=⟨[],[]⟩) (q:=q) rfl (.const v)
 exact this
theorem alloc_eff [Glob] {o:Oper} {d:Nat} {π:Nm} {t:TypeId} {z:AV} (hd:d<nt) (ho:o.dst=some d) (hop:o.op = .alloc t) (hs:Sim C nt st a w) (hz:zeroA P t=some z) (hok:okV z=true)
  (hq:cleanS (d :: π) st=true):Eff P π C nt o a w ⟨setE st.env d (.ptr (1 :: d :: π) 0 0),setH st.heap (1 :: d :: π) ⟨true,[],[z]⟩⟩:=by
 obtain ⟨zv,i,rfl,hi,hzero⟩:=zero_spec hz
 refine box_new (u:=zv) (t:=t) hd ho hs (ofVal_sound zv) hok (ofVal_men _ zv) hq ?_
 unfold execOp
 simp only [hop]
 refine run_v ?_
 unfold Instr.alloc
 rw [run_bind' (run_zero hi hzero)]
 exact run_bind' (run_newVar t zv)
theorem box_eff [Glob] {o:Oper} {d:Nat} {π:Nm} {t:TypeId} {x:Operand} (hd:d<nt) (ho:o.dst=some d) (hop:o.op = .box t x) (hs:Sim C nt st a w) (hok:okV (opA st.env x)=true)
  (hq:cleanS (d :: π) st=true):Eff P π C nt o a w ⟨setE st.env d (.ptr (1 :: d :: π) 0 0),setH st.heap (1 :: d :: π) ⟨true,[],[opA st.env x]⟩⟩:=by
 refine box_new (u:=a.eval x) (t:=t) hd ho hs (opA_sound hs x) hok (clean_men hq x) hq ?_
 unfold execOp
 simp only [hop]
 refine run_v ?_
 unfold Instr.box
 exact run_bind' (run_newVar t _)
theorem VR.grow (hag:Agree (fun _=>false) C C') {c:AV} {v:Value} (h:VR C c v):VR C' c v:=by
 have hd:∀ nm,C'.dat nm=C.dat nm:=fun nm=>hag.dat nm rfl
 have at':∀ nm i j,C'.at nm i j=C.at nm i j:=fun nm i j=>by unfold Ctx.at Ctx.loc Ctx.width;rw [hd]
 have real':∀ nm,C'.real nm=C.real nm:=fun nm=>by unfold Ctx.real;rw [hd]
 have len':∀ nm,C'.len nm=C.len nm:=fun nm=>by unfold Ctx.len;rw [hd]
 have room':∀ nm,C'.room nm=C.room nm:=fun nm=>by unfold Ctx.room;rw [hd]
 induction h with
 | undef v=>exact .undef v
 | bool b=>exact .bool b
 | int k n=>exact .int k n
 | str s=>exact .str s
 | nilp=>exact .nilp
 | nilfn=>exact .nilfn
 | snil=>exact .snil
 | sle b tys ad cap h=>exact .sle b tys ad cap h
 | ptr nm i off hr hi=>rw [← at'];exact .ptr nm i off (by rw [real'];exact hr) (by rw [len'];exact hi)
 | rptr tys x off b o U h1 h2 h3=>exact .rptr tys x off b o U (fun j hj=>hag.mem _ _ (h1 j hj)) h2 fun j ct c ht hc=>(h3 j ct c ht hc).mono hag.mem
 | own nm cap hr h1 h2=>rw [← at',← len'];exact .own nm cap (by rw [real'];exact hr) (by rw [len'];exact h1) (by rw [room'];exact h2)
 | ownNil nm h=>exact .ownNil nm (by rw [len'];exact h)
 | sub nm lo n cap av h1 h2 h3 h4 =>
  refine .sub nm lo n cap av h1 (fun h0=>?_) ?_ (by rw [len'];exact h4)
  ·obtain ⟨g1,g2⟩:=h2 h0
   exact ⟨by rw [real'];exact g1,by rw [at'];exact g2⟩
  ·rcases h3 with ⟨g1,l,g2,g3⟩|g1
   ·exact .inl ⟨by rw [real'];exact g1,l,by rw [at'];exact g2,by rw [room'];exact g3⟩
   ·exact .inr g1
 | sl tys xs v h=>exact .sl tys xs v (h.mono hag.mem)
 | fn f cs vs h1 _ ih=>exact .fn f cs vs h1 ih
 | agg cs vs h1 _ h3 ih=>exact .agg cs vs h1 ih h3
 | tup cs vs h1 _ ih=>exact .tup cs vs h1 ih
noncomputable def Ctx.frz (C:Ctx) (w:World) (nm:Nm):Ctx :=
 if C.real nm=true then { C with mem:=fun a=>if a.block=(C.loc nm).1 then w.cell? a else C.mem a,memF:=fun a=>if a.block=(C.loc nm).1 then w.cell? a else C.memF a } else C
theorem HSim.frz [Glob] {heap:List (Nm × Blk)} {nm:Nm} {b:Blk} (h:HSim C heap w) (hb:getH heap nm=some b):Agree (fun _=>false) C (C.frz w nm)∧HSim (C.frz w nm) (delH heap nm) w:=by
 unfold Ctx.frz
 by_cases hr:C.real nm=true
 ·rw [if_pos hr]
  have away:∀ a v,C.mem a=some v→a.block ≠ (C.loc nm).1:=fun a v hv e=>(h.mem a v hv).2.2 nm b hb hr e.symm
  have hag:Agree (fun _=>false) C { C with mem:=fun a=>if a.block=(C.loc nm).1 then w.cell? a else C.mem a,memF:=fun a=>if a.block=(C.loc nm).1 then w.cell? a else C.memF a }:=by
   refine ⟨rfl,rfl,fun a v hv=>?_,fun a v hv=>?_,fun a v hv hn=>?_,fun _ _=>rfl,rfl,fun a v hv=>?_⟩
   rotate_right
   ·simp only at hv ⊢
    split at hv
    ·rename_i e
     rw [if_pos e]
     exact .inr ⟨hv,fun hf=>(h.frame _ hf).2.2 nm b hb hr e.symm⟩
    ·exact .inl hv
   ·simp only;rw [if_neg (away a v hv)];exact hv
   ·simp only;rw [if_neg (away a v (h.own a v hv).1)];exact hv
   ·simp only;rw [if_neg (away a v hv)];exact hn
  refine ⟨hag,?_⟩
  have hd:=h.del nm
  obtain ⟨r1,r2,r3,r4⟩:=(h.blk nm b hb).room hr
  refine ⟨fun n b1 hn=>?_,fun n b1 n' b2 g1 g2=>hd.apart n b1 n' b2 g1 g2,fun a v hv=>?_,hd.grown,hd.kept,fun a v hv hn=>?_,fun a v hv=>?_,hd.glob,hd.frame⟩
  ·have B:=hd.blk n b1 hn
   refine ⟨B.max,B.len,B.width,B.box,B.nilb,fun i x hx=>?_,B.room,B.froz⟩
   obtain ⟨g1,g2⟩:=B.cells i x hx
   refine ⟨g1,fun j c hj=>?_⟩
   obtain ⟨u,g3,g4,g5⟩:=g2 j c hj
   refine ⟨u,g3,g4,?_⟩
   cases hbx:b1.box with
   | true =>
    rw [hbx] at g5
    simp only [if_true] at g5 ⊢
    exact g5.grow hag
   | false =>
    rw [hbx] at g5
    simp only [Bool.false_eq_true,if_false] at g5 ⊢
    obtain ⟨ct,k1,k2⟩:=g5
    exact ⟨ct,k1,k2.mono hag.memF⟩
  ·simp only at hv
   split at hv
   ·rename_i e
    refine ⟨hv,by rw [e];exact r2,fun n b1 hn hrn=>?_⟩
    rw [getH_delH] at hn
    split at hn
    ·cases hn
    ·rename_i hne
     rw [e]
     exact h.apart n b1 nm b hn hb hrn hr fun e'=>hne e'.symm
   ·exact hd.mem a v hv
  ·simp only at hv hn
   split at hv
   ·rename_i e
    rw [if_pos e,hv] at hn
    cases hn
   ·rename_i e
    rw [if_neg e] at hn
    exact hd.blk0 a v hv hn
  ·simp only at hv ⊢
   split at hv
   ·rename_i e
    rw [if_pos e,e]
    exact ⟨hv,r1⟩
   ·rename_i e
    rw [if_neg e]
    exact hd.own a v hv
 ·rw [if_neg hr]
  exact ⟨Agree.refl _ _,h.del nm⟩
theorem frz_val [Glob] {heap:List (Nm × Blk)} {nm:Nm} {b:Blk} {u:Value} (h:HSim C heap w) (hb:getH heap nm=some b) (hbox:b.box=false) (hf:b.tys.all flatCT=true) (hv:VR C (.own nm) u) :
  VC (C.frz w nm).memF (.sl b.tys) (.sl b.tys b.xs) u:=by
 have B:=h.blk nm b hb
 have hl:=B.len
 cases hv with
 | ownNil _ hz =>
  have:b.xs=[]:=List.eq_nil_of_length_eq_zero (by omega)
  rw [this]
  exact .sl _ [] none 0 (fun _ _=>undef) (Nat.le_refl 0) (by simp) (fun i j hi=>by simp at hi) (fun h0=>by simp at h0) (fun i x hx=>by simp at hx) (fun i x j ct c hx=>by simp at hx)
 | own _ cap hr h1 h2 =>
  rw [hl]
  have hw:=B.width hbox
  have hmF:∀ a,a.block=(C.loc nm).1→(C.frz w nm).memF a=w.cell? a:=fun a e=>by
   unfold Ctx.frz
   rw [if_pos hr]
   simp only
   rw [if_pos e]
  have hat:∀ i j,C.at nm i j=at_ (C.loc nm).1 (C.loc nm).2 b.tys.length i j:=fun i j=>by unfold Ctx.at;rw [hw]
  have hA0:C.at nm 0 0=⟨(C.loc nm).1,(C.loc nm).2,none⟩:=by unfold Ctx.at at_;simp
  rw [hA0]
  refine .sl _ b.xs (some ⟨(C.loc nm).1,(C.loc nm).2,none⟩) cap (fun i j=>(w.cell? (C.at nm i j)).getD undef) (by omega) B.max (fun i j hi hj=>⟨_,_,rfl,?_⟩) (fun _=>⟨_,_,rfl⟩) (fun i x hx=>by rw [(B.cells i x hx).1,hw]) (fun i x j ct c hx ht hc=>?_)
  ·rw [hmF _ rfl,← hat]
   obtain ⟨g1,g2⟩:=B.cells i b.xs[i] (List.getElem?_eq_getElem hi)
   obtain ⟨u,g3,_⟩:=g2 j (b.xs[i].cells[j]'(by rw [g1,hw];exact hj)) (List.getElem?_eq_getElem _)
   rw [g3]
   rfl
  ·obtain ⟨g1,g2⟩:=B.cells i x hx
   obtain ⟨u,g3,g4,g5⟩:=g2 j c hc
   rw [hbox] at g5
   simp only [Bool.false_eq_true,if_false] at g5
   obtain ⟨ct',k1,k2⟩:=g5
   rw [ht] at k1
   obtain rfl:=Option.some.inj k1
   rw [g3,Option.getD_some]
   rw [List.all_eq_true] at hf
   exact k2.flat (hf ct (List.mem_of_getElem? ht))
theorem flat_VC {mem:Addr→Option Value} {t:CT} {c:AV} {u:Value} (h:VR C c u) (hf:flatCT t=true) (hc:confC t c=true):VC mem t c u:=by
 cases t <;> cases c <;> simp only [confC,flatCT,Bool.false_eq_true] at hc hf
 ·rw [kEq_iff] at hc;subst hc;cases h;exact .int _ _
 ·cases h;exact .bool _
 ·cases h;exact .str _
theorem ctsEq_refl:∀ a:List CT,a.all flatCT=true→ctsEq a a=true
 | [],_=>rfl
 | a :: r,h=>by
  simp only [List.all_cons,Bool.and_eq_true] at h
  simp only [ctsEq,Bool.and_eq_true]
  refine ⟨?_,ctsEq_refl r h.2⟩
  cases a with
  | int k=>exact (kEq_iff k k).2 rfl
  | bool=>rfl
  | str=>rfl
  | sl=>cases h.1
  | oth=>cases h.1
  | fnc=>cases h.1
theorem dels_append (l m:List Nm) (h:List (Nm × Blk)):dels (l++m) h=dels m (dels l h):=List.foldl_append
theorem zf1_sound {mem:Addr→Option Value} {t:CT} {c y:AV} {u:Value} (hv:VR C c u) (h:zf1 t c=some y):VC mem t y u:=by
 unfold zf1 at h
 cases hf:flatCT t with
 | true =>
  rw [hf] at h
  simp only [cond_true] at h
  cases hc:confC t c with
  | false=>rw [hc] at h;cases h
  | true =>
   rw [hc] at h
   simp only [cond_true,Option.some.injEq] at h
   subst h
   exact flat_VC hv hf hc
 | false =>
  rw [hf] at h
  simp only [cond_false] at h
  split at h
  ·rename_i e
   cases he:e.all flatCT with
   | false=>rw [he] at h;cases h
   | true =>
    rw [he] at h
    simp only [cond_true,Option.some.injEq] at h
    subst h
    cases hv
    exact .sl _ [] none 0 (fun _ _=>undef) (Nat.le_refl 0) (by simp) (fun i j hi=>by simp at hi) (fun h0=>by simp at h0) (fun i x hx=>by simp at hx) (fun i x j ct c hx=>by simp at hx)
  ·cases h
theorem zfs_sound {mem:Addr→Option Value}:∀ {ts:List CT} {xs ys:List AV} {us:List Value},xs.length=us.length→(∀ (i:Nat) (x:AV) (u:Value),xs[i]?=some x→us[i]?=some u→VR C x u)→zfs ts xs=some ys →
  ys.length=us.length∧ts.length=ys.length∧∀ (j:Nat) (t:CT) (y:AV) (u:Value),ts[j]?=some t→ys[j]?=some y→us[j]?=some u→VC mem t y u
 | [],[],ys,us,hl,hv,h=>by
  simp only [zfs,Option.some.injEq] at h
  subst h
  exact ⟨hl,rfl,fun j t y u h=>by simp at h⟩
 | t :: ts,x :: xs,ys,us,hl,hv,h=>by
  match us,hl with
  | u :: us,hl =>
   unfold zfs at h
   split at h
   ·rename_i y ys' h1 h2
    simp only [Option.some.injEq] at h
    subst h
    obtain ⟨l2,m2,v2⟩:=zfs_sound (mem:=mem) (us:=us) (by simpa using hl) (fun i x u hx hu=>hv (i+1) x u (by simpa using hx) (by simpa using hu)) h2
    refine ⟨by simp [l2],by simp [m2],fun j t' y' u' ht hy hu=>?_⟩
    cases j with
    | zero=>simp at ht hy hu;subst ht;subst hy;subst hu;exact zf1_sound (hv 0 x u rfl rfl) h1
    | succ j=>exact v2 j t' y' u' (by simpa using ht) (by simpa using hy) (by simpa using hu)
   ·cases h
  | [],hl=>simp at hl
 | [],_ :: _,_,_,_,_,h=>by simp [zfs] at h
 | _ :: _,[],_,_,_,_,h=>by simp [zfs] at h
theorem zfV_sound {mem:Addr→Option Value} {ts:List CT} {v v':AV} {u:Value} (hv:VR C v u) (h:zfV ts v=some v') :
  v'.cells.length=ts.length∧u.cells.size=ts.length∧∀ (j:Nat) (t:CT) (y:AV) (x:Value),ts[j]?=some t→v'.cells[j]?=some y→u.cells[j]?=some x→VC mem t y x:=by
 have one:∀ {c:AV},zfo ts c=some v'→VR C c u→v'.cells.length=ts.length∧u.cells.size=ts.length∧∀ (j:Nat) (t:CT) (y:AV) (x:Value),ts[j]?=some t→v'.cells[j]?=some y→u.cells[j]?=some x→VC mem t y x:=by
  intro c h hv
  unfold zfo at h
  split at h
  ·rename_i t _
   have v1:VC mem t v' u:=zf1_sound hv h
   have hc1:v'.cells=[v']:=by cases v1 <;> rfl
   have hu1:u.cells=#[u]:=one_cells v1.oneCell'
   refine ⟨by rw [hc1];rfl,by rw [hu1];rfl,fun j t' y x ht hy hx=>?_⟩
   rw [hc1] at hy
   rw [hu1] at hx
   cases j with
   | zero=>simp at ht hy hx;subst ht;subst hy;subst hx;exact v1
   | succ j=>simp at hy
  ·cases h
 cases v with
 | agg cs =>
  simp only [zfV] at h
  obtain ⟨ys,hc,rfl⟩:=Option.map_eq_some_iff.1 h
  obtain ⟨vs,rfl,k1,k2,k3⟩:=hv.agg_inv
  obtain ⟨l1,m1,v1⟩:=zfs_sound (mem:=mem) k1 k2 hc
  exact ⟨m1.symm,by simp [Value.cells];omega,fun j t y x ht hy hx=>v1 j t y x ht hy (by simpa [Value.cells] using hx)⟩
 | _=>exact one h hv
theorem frzC_sound [Glob] {heap:List (Nm × Blk)} {t:CT} {c y:AV} {l:List Nm} {u:Value} (hs:HSim C heap w) (hv:VR C c u) (h:frzC heap t c=some (y,l)) :
  ∃ C',Agree (fun _=>false) C C'∧HSim C' (dels l heap) w∧VC C'.memF t y u∧confC t y=true:=by
 unfold frzC at h
 cases hf:flatCT t with
 | true =>
  rw [hf] at h
  simp only [cond_true] at h
  cases hc:confC t c with
  | false=>rw [hc] at h;cases h
  | true =>
   rw [hc] at h
   simp only [cond_true,Option.some.injEq,Prod.mk.injEq] at h
   obtain ⟨rfl,rfl⟩:=h
   exact ⟨C,Agree.refl _ _,hs,flat_VC hv hf hc,hc⟩
 | false =>
  rw [hf] at h
  simp only [cond_false] at h
  split at h
  ·rename_i e nm
   split at h
   ·rename_i b hb
    cases hc : !b.box && ctsEq b.tys e && e.all flatCT with
    | false=>rw [hc] at h;cases h
    | true =>
     rw [hc] at h
     simp only [Bool.and_eq_true,Bool.not_eq_true'] at hc
     obtain ⟨⟨h1,h2⟩,h3⟩:=hc
     have h2:=ctsEq_eq _ _ h2
     subst h2
     simp only [cond_true,Option.some.injEq,Prod.mk.injEq] at h
     obtain ⟨rfl,rfl⟩:=h
     obtain ⟨g1,g2⟩:=hs.frz hb
     exact ⟨_,g1,g2,frz_val hs hb h1 h3 hv,ctsEq_refl _ h3⟩
   ·cases h
  ·rename_i e
   cases he:e.all flatCT with
   | false=>rw [he] at h;cases h
   | true =>
   rw [he] at h
   simp only [cond_true,Option.some.injEq,Prod.mk.injEq] at h
   obtain ⟨rfl,rfl⟩:=h
   refine ⟨C,Agree.refl _ _,hs,?_,?_⟩
   ·cases hv
    exact .sl _ [] none 0 (fun _ _=>undef) (Nat.le_refl 0) (by simp) (fun i j hi=>by simp at hi) (fun h0=>by simp at h0) (fun i x hx=>by simp at hx) (fun i x j ct c hx=>by simp at hx)
   ·exact ctsEq_refl e he
  ·cases h
theorem frzCs_sound [Glob]:∀ {ts:List CT} {xs ys:List AV} {ls:List Nm} {us:List Value} {heap:List (Nm × Blk)} {C:Ctx},HSim C heap w→xs.length=us.length→(∀ (i:Nat) (x:AV) (u:Value),xs[i]?=some x→us[i]?=some u→VR C x u)→frzCs heap ts xs=some (ys,ls) →
  ∃ C',Agree (fun _=>false) C C'∧HSim C' (dels ls heap) w∧ys.length=us.length∧ts.length=ys.length∧∀ (j:Nat) (t:CT) (y:AV) (u:Value),ts[j]?=some t→ys[j]?=some y→us[j]?=some u→VC C'.memF t y u∧confC t y=true
 | [],[],ys,ls,us,heap,C,hs,hl,hv,h=>by
  simp only [frzCs,Option.some.injEq,Prod.mk.injEq] at h
  obtain ⟨rfl,rfl⟩:=h
  exact ⟨C,Agree.refl _ _,hs,hl,rfl,fun j t y u h=>by simp at h⟩
 | t :: ts,x :: xs,ys,ls,us,heap,C,hs,hl,hv,h=>by
  match us,hl with
  | u :: us,hl =>
   unfold frzCs at h
   split at h
   ·rename_i y l h1
    split at h
    ·rename_i ys' ls' h2
     simp only [Option.some.injEq,Prod.mk.injEq] at h
     obtain ⟨rfl,rfl⟩:=h
     obtain ⟨C1,a1,s1,v1,c1⟩:=frzC_sound hs (hv 0 x u rfl rfl) h1
     obtain ⟨C2,a2,s2,l2,m2,v2⟩:=frzCs_sound (us:=us) s1 (by simpa using hl) (fun i x u hx hu=>(hv (i+1) x u (by simpa using hx) (by simpa using hu)).grow a1) h2
     refine ⟨C2,a1.trans a2,by rw [dels_append];exact s2,by simp [l2],by simp [m2],fun j t' y' u' ht hy hu=>?_⟩
     cases j with
     | zero =>
      simp at ht hy hu
      subst ht;subst hy;subst hu
      exact ⟨v1.mono a2.memF,c1⟩
     | succ j=>exact v2 j t' y' u' (by simpa using ht) (by simpa using hy) (by simpa using hu)
    ·cases h
   ·cases h
  | [],hl=>simp at hl
 | [],_ :: _,_,_,_,_,_,_,_,_,h=>by simp [frzCs] at h
 | _ :: _,[],_,_,_,_,_,_,_,_,h=>by simp [frzCs] at h
theorem frzV_sound [Glob] {heap:List (Nm × Blk)} {ts:List CT} {v v':AV} {l:List Nm} {u:Value} (hs:HSim C heap w) (hv:VR C v u) (h:frzV heap ts v=some (v',l)) :
  ∃ C',Agree (fun _=>false) C C'∧HSim C' (dels l heap) w∧VR C' v' u∧v'.cells.length=ts.length∧u.cells.size=ts.length ∧
   ∀ (j:Nat) (t:CT) (y:AV) (x:Value),ts[j]?=some t→v'.cells[j]?=some y→u.cells[j]?=some x→VC C'.memF t y x∧confC t y=true:=by
 have one:∀ {c:AV},frz1 heap ts c=some (v',l)→VR C c u→∃ C',Agree (fun _=>false) C C'∧HSim C' (dels l heap) w∧VR C' v' u∧v'.cells.length=ts.length∧u.cells.size=ts.length ∧
   ∀ (j:Nat) (t:CT) (y:AV) (x:Value),ts[j]?=some t→v'.cells[j]?=some y→u.cells[j]?=some x→VC C'.memF t y x∧confC t y=true:=by
  intro c h hv
  unfold frz1 at h
  split at h
  ·rename_i t
   obtain ⟨C',a1,s1,v1,c1⟩:=frzC_sound hs hv h
   have hc1:v'.cells=[v']:=by cases v1 <;> rfl
   have hu1:u.cells=#[u]:=one_cells v1.oneCell'
   have vr:VR C' v' u:=(v1.mono fun a v h=>(s1.own a v h).1).toVR
   refine ⟨C',a1,s1,vr,by rw [hc1];rfl,by rw [hu1];rfl,fun j t' y x ht hy hx=>?_⟩
   rw [hc1] at hy
   rw [hu1] at hx
   cases j with
   | zero=>simp at ht hy hx;subst ht;subst hy;subst hx;exact ⟨v1,c1⟩
   | succ j=>simp at hy
  ·cases h
 cases v with
 | agg cs =>
  simp only [frzV] at h
  split at h
  ·rename_i ys ls hc
   simp only [Option.some.injEq,Prod.mk.injEq] at h
   obtain ⟨rfl,rfl⟩:=h
   obtain ⟨vs,rfl,k1,k2,k3⟩:=hv.agg_inv
   obtain ⟨C',a1,s1,l1,m1,v1⟩:=frzCs_sound hs k1 k2 hc
   refine ⟨C',a1,s1,.agg _ vs l1 (fun i c v hc hv=>?_) k3,m1.symm,by simp [Value.cells];omega,fun j t y x ht hy hx=>v1 j t y x ht hy (by simpa [Value.cells] using hx)⟩
   have hi:i<ys.length:=(List.getElem?_eq_some_iff.1 hc).1
   have ht:ts[i]?=some (ts[i]'(by omega)):=List.getElem?_eq_getElem _
   exact ((v1 i _ c v ht hc hv).1.mono fun a v h=>(s1.own a v h).1).toVR
  ·cases h
 | tup _=>cases h
 | undef=>cases h
 | _=>exact one h hv
theorem frzVs_sound [Glob] {ts:List CT}:∀ {xs ys:List AV} {ls:List Nm} {us:List Value} {heap:List (Nm × Blk)} {C:Ctx},HSim C heap w→xs.length=us.length→(∀ (i:Nat) (x:AV) (u:Value),xs[i]?=some x→us[i]?=some u→VR C x u)→frzVs heap ts xs=some (ys,ls) →
  ∃ C',Agree (fun _=>false) C C'∧HSim C' (dels ls heap) w∧ys.length=us.length∧∀ (k:Nat) (y:AV) (u:Value),ys[k]?=some y→us[k]?=some u→y.cells.length=ts.length∧u.cells.size=ts.length ∧
   ∀ (j:Nat) (t:CT) (c:AV) (x:Value),ts[j]?=some t→y.cells[j]?=some c→u.cells[j]?=some x→VC C'.memF t c x
 | [],ys,ls,us,heap,C,hs,hl,hv,h=>by
  simp only [frzVs,Option.some.injEq,Prod.mk.injEq] at h
  obtain ⟨rfl,rfl⟩:=h
  exact ⟨C,Agree.refl _ _,hs,hl,fun j y u h=>by simp at h⟩
 | x :: xs,ys,ls,us,heap,C,hs,hl,hv,h=>by
  match us,hl with
  | u :: us,hl =>
   unfold frzVs at h
   split at h
   ·rename_i y l h1
    split at h
    ·rename_i ys' ls' h2
     simp only [Option.some.injEq,Prod.mk.injEq] at h
     obtain ⟨rfl,rfl⟩:=h
     obtain ⟨C1,a1,s1,_,n1,m1,v1⟩:=frzV_sound hs (hv 0 x u rfl rfl) h1
     obtain ⟨C2,a2,s2,l2,v2⟩:=frzVs_sound (us:=us) s1 (by simpa using hl) (fun i x u hx hu=>(hv (i+1) x u (by simpa using hx) (by simpa using hu)).grow a1) h2
     refine ⟨C2,a1.trans a2,by rw [dels_append];exact s2,by simp [l2],fun k y' u' hy hu=>?_⟩
     cases k with
     | zero =>
      simp at hy hu
      subst hy;subst hu
      exact ⟨n1,m1,fun j t c x ht hc hx=>((v1 j t c x ht hc hx).1).mono a2.memF⟩
     | succ k=>exact v2 k y' u' (by simpa using hy) (by simpa using hu)
    ·cases h
   ·cases h
  | [],hl=>simp at hl
theorem cleanH_del {q:Nm} {heap:List (Nm × Blk)} (h:cleanH q heap=true) (n:Nm):cleanH q (delH heap n)=true:=by
 induction heap with
 | nil=>rfl
 | cons x r ih =>
  obtain ⟨m,b⟩:=x
  simp only [cleanH,List.all_cons,Bool.and_eq_true] at h
  unfold delH
  cases hb:nmEq m n with
  | true=>simp only [cond_true];exact ih h.2
  | false =>
   simp only [cond_false,cleanH,List.all_cons,Bool.and_eq_true]
   exact ⟨h.1,ih h.2⟩
theorem cleanH_dels {q:Nm}:∀ (l:List Nm) {heap:List (Nm × Blk)},cleanH q heap=true→cleanH q (dels l heap)=true
 | [],_,h=>h
 | n :: l,_,h=>cleanH_dels l (cleanH_del h n)
theorem cleanS_dels {q:Nm} (l:List Nm) (h:cleanS q st=true):cleanS q ⟨st.env,dels l st.heap⟩=true:=by
 unfold cleanS at h ⊢
 rw [Bool.and_eq_true] at h ⊢
 exact ⟨h.1,cleanH_dels l h.2⟩
theorem Sim.frz [Glob] {l:List Nm} (hs:Sim C nt st a w) (ha:Agree (fun _=>false) C C') (hh:HSim C' (dels l st.heap) w):Sim C' nt ⟨st.env,dels l st.heap⟩ a w :=
 hs.withH hh fun t=>(hs.env t).grow ha
theorem Wr.on_gone (es:List (Nat × AV)) (x:List (Nm × Option Blk)):∀ (l:List Nm) (st:St),Wr.on ⟨es,gone l++x⟩ st=Wr.on ⟨es,x⟩ ⟨st.env,dels l st.heap⟩
 | [],_=>rfl
 | n :: l,st=>Wr.on_gone es x l ⟨st.env,delH st.heap n⟩
theorem getH_dels:∀ (l:List Nm) (heap:List (Nm × Blk)) (n:Nm),l.any (nmEq n)=false→getH (dels l heap) n=getH heap n
 | [],_,_,_=>rfl
 | m :: l,heap,n,h=>by
  simp only [List.any_cons,Bool.or_eq_false_iff] at h
  show getH (dels l (delH heap m)) n=_
  rw [getH_dels l _ n h.2,getH_delH,if_neg]
  intro e
  rw [e,nmEq_refl] at h
  cases h.1
end
end Go.Proofs.VE
