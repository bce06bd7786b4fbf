import Derived.Test.YtcondihilccdpaaDoorVEo
namespace Go.Proofs.VE
open Go
section
variable {P:Program} {C C':Ctx} {nt:Nat} {st:St} {a:Act} {w w':World} {heap:List (Nm × Blk)}
theorem yielded_of [Glob] {ops:Array Oper} {j t:Nat} {v:AV} (hs:Sim C nt st a w) (ht:(ops[j]?).bind (·.dst)=some t) (hv:getE st.env t=v) :
  (∀ b,v = .bool b→yielded ops a.tmps j=some b∧a.tmps.getD t undef = .bool b)∧(v = .tup []→yielded ops a.tmps j=none):=by
 have h:=hs.env t
 rw [hv] at h
 have e:a.tmps.getD t undef=(a.tmps[t]?).getD undef:=by simp
 refine ⟨fun b hb=>?_,fun hb=>?_⟩
 ·subst hb
  generalize hu:a.tmps.getD t undef=u at h
  cases h
  refine ⟨?_,rfl⟩
  unfold yielded
  rw [ht,Option.bind_some]
  cases ha:a.tmps[t]? with
  | none=>rw [e,ha] at hu;simp [undef] at hu
  | some x=>rw [e,ha] at hu;simp at hu;rw [hu]
 ·subst hb
  generalize hu:a.tmps.getD t undef=u at h
  cases h with
  | tup _ vs h1 _ =>
   have:vs=[]:=List.eq_nil_of_length_eq_zero (by simpa using h1.symm)
   subst this
   unfold yielded
   rw [ht,Option.bind_some]
   cases ha:a.tmps[t]? with
   | none=>rfl
   | some x =>
    rw [e,ha] at hu
    simp at hu
    rw [hu]
theorem Sim.same [Glob] {t:Nat} {b:Bool} (hs:Sim C nt st a w) (h:a.tmps.getD t undef = .bool b):Sim C nt ⟨setE st.env t (.bool b),st.heap⟩ a w:=by
 refine hs.withH (heap:=st.heap) (w':=w) hs.toHSim hs.env |>.casesOn fun h1 h2 h3 h4=>?_
 refine { toHSim:=h1,size:=h2,defers:=h3,env:=fun s=>?_ }
 simp only [getE_setE]
 split
 ·rename_i e;subst e;rw [h];exact .bool b
 ·exact hs.env s
theorem ops_sound [Glob] {cf:Cfg} {ce:CallE} {π:Nm} {k:St→Option AV} {r:AV} {Q:Exit→Act→World→Prop} (hP:cf.P=P) (hF:FOK P cf) (hce:CES cf ce) (ops:Array Oper) :
  ∀ (is:List Nat) (l:List Oper) {C:Ctx} {st:St} {a:Act} {w:World},is.map (ops[·]?)=l.map some→(∀ o ∈ l,∀ d,o.dst=some d→d<nt)→Sim C nt st a w→opsA cf ce π ops l st k=some r →
  (∀ st' C' a' w',k st'=some r→Sim C' nt st' a' w'→Agree (isLoc π) C C'→Q .normal a' w')→wpOps P ops Q is a w
 | [],[],C,st,a,w,_,_,hs,h,hk=>hk st C a w h hs (Agree.refl _ _)
 | i :: is,o :: l,C,st,a,w,hm,hd,hs,h,hk=>by
  simp only [List.map_cons,List.cons.injEq] at hm
  obtain ⟨hi,hm⟩:=hm
  have hd1:=hd o List.mem_cons_self
  have hd2:∀ o ∈ l,∀ d,o.dst=some d→d<nt:=fun o ho=>hd o (List.mem_cons_of_mem _ ho)
  have skip:∀ {st1:St},Sim C nt st1 a w→opsA cf ce π ops l (st1.set o.dst (.tup [])) k=some r→wpOps P ops Q is (a.put o.dst undef) w:=fun hs1 h1 =>
   ops_sound hP hF hce ops is l hm hd2 (hs1.puts (.tup [] [] rfl (fun i c v h=>by simp at h)) hd1) h1 hk
  have go:∀ {st1:St},Sim C nt st1 a w→oneA cf ce π st1 o (fun st=>opsA cf ce π ops l st k)=some r→o.wp P a w (wpOps P ops Q is) Q:=fun hs1 h1 =>
   one_sound hP hF hce hd1 hs1 h1 fun st' C' a' w' h2 hs2 hag=>ops_sound hP hF hce ops is l hm hd2 hs2 h2 fun st'' C'' a'' w'' h3 hs3 hag'=>hk st'' C'' a'' w'' h3 hs3 (hag.trans hag')
  unfold opsA at h
  unfold wpOps
  rw [hi]
  simp only
  split at h
  ·rename_i hg
   have:Region.wanted o (yielded ops a.tmps)=true:=by unfold Region.wanted;rw [hg]
   rw [if_pos this]
   exact .inl (go hs h)
  ·rename_i j want hg
   have hw:Region.wanted o (yielded ops a.tmps)=(yielded ops a.tmps j == some want):=by unfold Region.wanted;rw [hg]
   split at h
   ·cases h
   ·rename_i t ht
    split at h
    ·rename_i b hb
     obtain ⟨hy,hv⟩:=(yielded_of hs ht hb).1 b rfl
     rw [hw,hy]
     cases want <;> cases b <;> simp only [ifW,cond_true,cond_false,Bool.not_true,Bool.not_false] at h
     ·rw [if_pos (by rfl)];exact .inl (go (hs.same hv) h)
     ·rw [if_neg (by decide)];exact skip (hs.same hv) h
     ·rw [if_neg (by decide)];exact skip (hs.same hv) h
     ·rw [if_pos (by rfl)];exact .inl (go (hs.same hv) h)
    ·rename_i hb
     rw [hw,(yielded_of hs ht hb).2 rfl,if_neg (by simp)]
     exact skip hs h
    ·cases h
 | [],_ :: _,_,_,_,_,h,_,_,_,_=>by simp at h
 | _ :: _,[],_,_,_,_,h,_,_,_,_=>by simp at h
theorem range_ops (ops:Array Oper):(List.range ops.size).map (ops[·]?)=ops.toList.map some:=by
 apply List.ext_getElem?
 intro i
 simp only [List.getElem?_map]
 by_cases h:i<ops.size
 ·rw [List.getElem?_range h]
  simp [h]
 ·rw [List.getElem?_eq_none (by simp;omega),List.getElem?_eq_none (by simp;omega)]
  rfl
theorem getE_map (f:Nat→AV):∀ (l:List Nat) (t:Nat),getE (l.map fun t=>(t,f t)) t=if t ∈ l then f t else .undef
 | [],t=>by simp [getE]
 | s :: l,t=>by
  simp only [List.map_cons,getE]
  cases hb:Nat.beq s t with
  | true =>
   have:=Nat.eq_of_beq_eq_true hb
   subst this
   simp
  | false =>
   have hne:=Nat.ne_of_beq_eq_false hb
   rw [cond_false,getE_map f l t]
   have:(t ∈ s :: l) ↔ t ∈ l:=by simp [Ne.symm hne]
   simp only [this]
theorem trim_sim [Glob] {keep:Option (List Nat)} (hs:Sim C nt st a w):Sim C nt (trimA keep st) a w:=by
 unfold trimA
 cases keep with
 | none=>exact hs
 | some l =>
  refine { toHSim:=hs.toHSim,size:=hs.size,defers:=hs.defers,env:=fun t=>?_ }
  simp only [getE_map (fun t=>getE st.env t)]
  split
  ·exact hs.env t
  ·exact .undef _
theorem findN_mem:∀ (l:List (Nm × Nm)) (m n:Nm),findN l m=some n→(m,n) ∈ l
 | [],_,_,h=>by cases h
 | (o,n') :: r,m,n,h=>by
  unfold findN at h
  cases hb:nmEq o m with
  | true =>
   rw [hb] at h
   have:=(nmEq_iff o m).1 hb
   simp at h
   subst this;subst h
   exact List.mem_cons_self
  | false =>
   rw [hb] at h
   exact List.mem_cons_of_mem _ (findN_mem r m n h)
theorem ren1_sound {π:Nm} {pairs:List (Nm × Nm)} (hag:Agree (isLoc π) C C') (hd:∀ x ∈ pairs,C'.dat x.2=C.dat x.1) {c:AV} {v:Value} (h:VR C c v):VR C' (ren1 π pairs c) v:=by
 have ren:∀ {nm n:Nm},renN π pairs nm=some n→C'.dat n=C.dat nm:=by
  intro nm n hr
  unfold renN at hr
  cases hl:isLoc π nm with
  | true=>rw [hl] at hr;exact hd _ (findN_mem _ _ _ hr)
  | false=>rw [hl] at hr;simp at hr;subst hr;exact hag.dat nm hl
 have atE:∀ {nm n:Nm},C'.dat n=C.dat nm→∀ i j,C'.at n i j=C.at nm i j:=fun e i j=>by unfold Ctx.at Ctx.loc Ctx.width;rw [e]
 cases h with
 | undef v=>exact .undef v
 | bool b=>exact .bool b
 | int k n=>exact .int k n
 | str s=>exact .str s
 | nilp=>exact .nilp
 | nilfn=>exact .nilfn
 | snil=>exact .snil
 | ptr nm i off hr hi =>
  simp only [ren1]
  split
  ·rename_i n hn
   have e:=ren hn
   rw [← atE e i off]
   exact .ptr n i off (by unfold Ctx.real;rw [e];exact hr) (by unfold Ctx.len;rw [e];exact hi)
  ·exact .undef _
 | rptr tys x off b o U h1 h2 h3=>exact .rptr tys x off b o U (fun j hj=>hag.mem _ _ (h1 j hj)) h2 fun j ct c ht hc=>(h3 j ct c ht hc).mono hag.mem
 | own nm cap hr h1 h2 =>
  simp only [ren1]
  split
  ·rename_i n hn
   have e:=ren hn
   have e1:C.len nm=C'.len n:=by unfold Ctx.len;rw [e]
   rw [← atE e 0 0,e1]
   exact .own n cap (by unfold Ctx.real;rw [e];exact hr) (by rw [← e1];exact h1) (by unfold Ctx.room;rw [e];exact h2)
  ·exact .undef _
 | ownNil nm h =>
  simp only [ren1]
  split
  ·rename_i n hn
   exact .ownNil n (by unfold Ctx.len;rw [ren hn];exact h)
  ·exact .undef _
 | sub nm lo n cap av h1 h2 h3 h4 =>
  simp only [ren1]
  split
  ·rename_i n' hn
   have e:=ren hn
   refine .sub n' lo n cap av h1 (fun h0=>?_) ?_ (by unfold Ctx.len;rw [e];exact h4)
   ·obtain ⟨g1,g2⟩:=h2 h0
    exact ⟨by unfold Ctx.real;rw [e];exact g1,by rw [atE e];exact g2⟩
   ·rcases h3 with ⟨g1,l,g2,g3⟩|g1
    ·exact .inl ⟨by unfold Ctx.real;rw [e];exact g1,l,by rw [atE e];exact g2,by unfold Ctx.room;rw [e];exact g3⟩
    ·exact .inr g1
  ·exact .undef _
 | sl tys xs v h=>exact .sl tys xs v (h.mono hag.mem)
 | sle b tys ad cap h=>exact .sle b tys ad cap h
 | fn f cs vs _ _=>exact .undef _
 | agg cs vs _ _ _=>exact .undef _
 | tup cs vs _ _=>exact .undef _
theorem renV_sound {π:Nm} {pairs:List (Nm × Nm)} (hag:Agree (isLoc π) C C') (hd:∀ x ∈ pairs,C'.dat x.2=C.dat x.1) {c:AV} {v:Value} (h:VR C c v):VR C' (renV π pairs c) v:=by
 have cell:∀ {cs:List AV} {vs:List Value},(∀ (i:Nat) (c:AV) (v:Value),cs[i]?=some c→vs[i]?=some v→VR C c v)→∀ (i:Nat) (c:AV) (v:Value),(cs.map (ren1 π pairs))[i]?=some c→vs[i]?=some v→VR C' c v:=by
  intro cs vs h i c v hc hv
  rw [List.getElem?_map] at hc
  obtain ⟨c0,h0,rfl⟩:=Option.map_eq_some_iff.1 hc
  exact ren1_sound hag hd (h i c0 v h0 hv)
 cases h with
 | agg cs vs h1 h2 h3=>exact .agg _ vs (by simpa using h1) (cell h2) h3
 | tup cs vs h1 h2=>exact .tup _ vs (by simpa using h1) (cell h2)
 | fn f cs vs h1 h2=>exact .fn f _ vs (by simpa using h1) (cell h2)
 | undef v=>exact .undef v
 | bool b=>exact .bool b
 | int k n=>exact .int k n
 | str s=>exact .str s
 | nilp=>exact .nilp
 | nilfn=>exact .nilfn
 | snil=>exact .snil
 | ptr nm i off hr hi=>exact ren1_sound hag hd (.ptr nm i off hr hi)
 | rptr tys x off b o U h1 h2 h3=>exact ren1_sound hag hd (.rptr tys x off b o U h1 h2 h3)
 | own nm cap hr h1 h2=>exact ren1_sound hag hd (.own nm cap hr h1 h2)
 | ownNil nm h=>exact ren1_sound hag hd (.ownNil nm h)
 | sub nm lo n cap av h1 h2 h3 h4=>exact ren1_sound hag hd (.sub nm lo n cap av h1 h2 h3 h4)
 | sl tys xs v h=>exact ren1_sound hag hd (.sl tys xs v h)
 | sle b tys ad cap h=>exact .sle b tys ad cap h
theorem renV_cells {π:Nm} {pairs:List (Nm × Nm)} (x:AV) (j:Nat) (c:AV) (hc:(renV π pairs x).cells[j]?=some c):∃ c0,x.cells[j]?=some c0∧(c=ren1 π pairs c0∨c=renV π pairs c0):=by
 cases x with
 | agg cs =>
  simp only [renV,AV.cells,List.getElem?_map] at hc ⊢
  obtain ⟨c0,h0,rfl⟩:=Option.map_eq_some_iff.1 hc
  exact ⟨c0,h0,.inl rfl⟩
 | _ =>
  have one:∀ y:AV,y.cells=[y]→y.cells[j]?=some c→j=0∧c=y:=fun y hy h=>by
   rw [hy] at h
   cases j with
   | zero=>simp at h;exact ⟨rfl,h.symm⟩
   | succ j=>simp at h
  have hr:∀ y:AV,(∀ cs,y ≠ .agg cs)→y.cells=[y]:=fun y h=>by cases y <;> first|rfl|exact absurd rfl (h _)
  obtain ⟨rfl,rfl⟩:=one _ (hr _ (fun cs e=>by simp only [renV,ren1] at e;first|cases e|(split at e <;> cases e))) hc
  exact ⟨_,rfl,.inr rfl⟩
theorem renV_length {π:Nm} {pairs:List (Nm × Nm)} (x:AV):(renV π pairs x).cells.length=x.cells.length:=by
 have hr:∀ y:AV,(∀ cs,y ≠ .agg cs)→y.cells.length=1:=fun y h=>by cases y <;> first|rfl|exact absurd rfl (h _)
 cases x with
 | agg cs=>simp [renV,AV.cells]
 | _=>rw [hr _ (fun cs e=>by simp only [renV,ren1] at e;first|cases e|(split at e <;> cases e))];rfl
theorem getH_filter (p:Nm→Bool) (f:Blk→Blk):∀ (h:List (Nm × Blk)) (n:Nm),getH ((h.filter fun q=>p q.1).map fun q=>(q.1,f q.2)) n=if p n=true then (getH h n).map f else none
 | [],n=>by simp [getH]
 | (m,b) :: r,n=>by
  rw [List.filter_cons]
  cases hp:p m with
  | true =>
   simp only [if_true,List.map_cons,getH]
   cases hb:nmEq m n with
   | true =>
    have:=(nmEq_iff m n).1 hb
    subst this
    simp [hp]
   | false=>simp only [cond_false];exact getH_filter p f r n
  | false =>
   simp only [Bool.false_eq_true,if_false]
   rw [getH_filter p f r n]
   simp only [getH]
   cases hb:nmEq m n with
   | true =>
    have:=(nmEq_iff m n).1 hb
    subst this
    simp [hp]
   | false=>rfl
theorem foldl_get {heap:List (Nm × Blk)} (f:Blk→Blk):∀ (pairs:List (Nm × Nm)) (h0:List (Nm × Blk)) (n:Nm) (b:Blk),
  getH (pairs.foldl (fun h q=>match getH heap q.1 with|some b=>setH h q.2 (f b)|none=>h) h0) n=some b→getH h0 n=some b∨∃ o b0,(o,n) ∈ pairs∧getH heap o=some b0∧b=f b0
 | [],_,_,_,h => .inl h
 | (o,m) :: r,h0,n,b,h=>by
  rw [List.foldl_cons] at h
  rcases foldl_get f r _ n b h with hh|⟨o',b0,h1,h2,h3⟩
  ·clear h
   split at hh
   ·rename_i b0 hb0
    rw [getH_setH] at hh
    split at hh
    ·rename_i e
     subst e
     exact .inr ⟨o,b0,List.mem_cons_self,hb0,(Option.some.inj hh).symm⟩
    ·exact .inl hh
   ·exact .inl hh
  ·exact .inr ⟨o',b0,List.mem_cons_of_mem _ h1,h2,h3⟩
theorem norm_sound [Glob] {π:Nm} {keep:List Nat} {st':St} (hs:Sim C nt st a w) (h:normA π keep st=some st'):∃ C',Agree (isLoc π) C C'∧Sim C' nt st' a w:=by
 unfold normA at h
 generalize hpairs:homes π keep st=pairs at h
 simp only at h
 cases hc:nodupN (pairs.map (·.1)) && pairs.all (fun q=>isLoc π q.1 && isLoc π q.2) && nodupN (pairs.map (·.2)) with
 | false=>rw [hc] at h;simp at h
 | true =>
  rw [hc] at h
  simp only [cond_true,Option.some.injEq] at h
  subst h
  simp only [Bool.and_eq_true,List.all_eq_true] at hc
  obtain ⟨⟨n1,hloc⟩,n2⟩:=hc
  have n1:=nodupN_spec _ n1
  have n2:=nodupN_spec _ n2
  have hnames:(pairs.map fun x=>(x.2,C.dat x.1)).map (·.1)=pairs.map (·.2):=by rw [List.map_map];rfl
  have hget:∀ x ∈ pairs,(C.setAll (pairs.map fun x=>(x.2,C.dat x.1))).dat x.2=C.dat x.1:=fun x hx =>
   setAll_get (by rw [hnames];exact n2) (x.2,C.dat x.1) (List.mem_map.2 ⟨x,hx,rfl⟩)
  have hag:Agree (isLoc π) C (C.setAll (pairs.map fun x=>(x.2,C.dat x.1))):=setAll_agree fun y hy=>by
   obtain ⟨x,hx,rfl⟩:=List.mem_map.1 hy
   exact (hloc x hx).2
  have hmE:(C.setAll (pairs.map fun x=>(x.2,C.dat x.1))).mem=C.mem:=rfl
  have hmF:(C.setAll (pairs.map fun x=>(x.2,C.dat x.1))).memF=C.memF:=rfl
  generalize hC:C.setAll (pairs.map fun x=>(x.2,C.dat x.1))=C' at hget hag hmE hmF
  have from_:∀ nm b,getH (pairs.foldl (fun h q=>match getH st.heap q.1 with|some b=>setH h q.2 (renB π pairs b)|none=>h) ((st.heap.filter fun q => !isLoc π q.1).map fun q=>(q.1,renB π pairs q.2))) nm=some b →
    ∃ o b0,getH st.heap o=some b0∧b=renB π pairs b0∧C'.dat nm=C.dat o∧((o=nm∧isLoc π nm=false)∨(o,nm) ∈ pairs):=by
   intro nm b hb
   rcases foldl_get (renB π pairs) pairs _ nm b hb with h0|⟨o,b0,h1,h2,h3⟩
   ·rw [getH_filter (fun n => !isLoc π n) (renB π pairs)] at h0
    split at h0
    ·rename_i hl
     obtain ⟨b0,h1,h2⟩:=Option.map_eq_some_iff.1 h0
     simp only [Bool.not_eq_true'] at hl
     exact ⟨nm,b0,h1,h2.symm,hag.dat nm hl,.inl ⟨rfl,hl⟩⟩
    ·cases h0
   ·exact ⟨o,b0,h2,h3,hget _ h1,.inr h1⟩
  refine ⟨C',hag,{ toHSim:=⟨?_,?_,?_,by rw [hag.base];exact hs.grown,by rw [hag.base,hag.w0];exact hs.kept,fun x v hv hn=>by rw [hmE] at hv;rw [hmF] at hn;rw [hag.w0];exact hs.blk0 x v hv hn,fun x v hv=>by rw [hmF] at hv;rw [hmE,hag.base];exact hs.own x v hv,by rw [hag.base,hag.w0];exact hs.glob,fun k hk=>by
   rw [hag.fr] at hk
   obtain ⟨f1,f2,f3⟩:=hs.frame k hk
   refine ⟨by rw [hag.w0];exact f1,by rw [hag.w0];exact f2,fun nm b hb hr=>?_⟩
   obtain ⟨o,b0,h1,_,h3,_⟩:=from_ nm b hb
   have hr:(C'.dat nm).real=true:=hr
   rw [h3] at hr
   show (C'.dat nm).loc.1 ≠ k
   rw [h3]
   exact f3 o b0 h1 hr⟩,size:=hs.size,defers:=hs.defers,env:=fun t=>?_ }⟩
  ·intro nm b hb
   obtain ⟨o,b0,h1,rfl,h3,_⟩:=from_ nm b hb
   have B:=hs.blk o b0 h1
   have hbox:(renB π pairs b0).box=b0.box:=by cases hb0:b0.box <;> simp [renB,hb0]
   have htys:(renB π pairs b0).tys=b0.tys:=by cases hb0:b0.box <;> simp [renB,hb0]
   have hlen:(renB π pairs b0).xs.length=b0.xs.length:=by cases hb0:b0.box <;> simp [renB,hb0]
   have hx:∀ (i:Nat) (x:AV),(renB π pairs b0).xs[i]?=some x→∃ x0,b0.xs[i]?=some x0∧(b0.box=false∧x=x0∨b0.box=true∧x=renV π pairs x0):=fun i x h=>by
    unfold renB at h
    cases hb0:b0.box with
    | false=>rw [hb0] at h;exact ⟨x,h,.inl ⟨rfl,rfl⟩⟩
    | true =>
     rw [hb0] at h
     have h:(b0.xs.map (renV π pairs))[i]?=some x:=h
     rw [List.getElem?_map] at h
     obtain ⟨x0,g1,g2⟩:=Option.map_eq_some_iff.1 h
     exact ⟨x0,g1,.inr ⟨rfl,g2.symm⟩⟩
   refine ⟨by rw [hlen];exact B.max,?_,?_,?_,?_,?_,?_,by unfold Ctx.real Ctx.loc Ctx.room Ctx.width;rw [h3];exact B.froz⟩
   ·unfold Ctx.len;rw [h3,hlen];exact B.len
   ·rw [hbox,htys];unfold Ctx.width;rw [h3];exact B.width
   ·rw [hbox,hlen];unfold Ctx.real;rw [h3];exact B.box
   ·intro hr
    unfold Ctx.real at hr
    rw [h3] at hr
    exact List.eq_nil_of_length_eq_zero (by rw [hlen,B.nilb hr];rfl)
   ·intro i x hxi
    obtain ⟨x0,g1,g2⟩:=hx i x hxi
    obtain ⟨g3,g4⟩:=B.cells i x0 g1
    have atE:∀ j,C'.at nm i j=C.at o i j:=fun j=>by unfold Ctx.at Ctx.loc Ctx.width;rw [h3]
    rcases g2 with ⟨hb0,rfl⟩|⟨hb0,rfl⟩
    ·refine ⟨by unfold Ctx.width;rw [h3];exact g3,fun j c hj=>?_⟩
     obtain ⟨u,k1,k2,k3⟩:=g4 j c hj
     refine ⟨u,by rw [atE];exact k1,k2,?_⟩
     rw [hbox,htys]
     rw [hb0] at k3 ⊢
     simp only [Bool.false_eq_true,if_false] at k3 ⊢
     rw [hmF]
     exact k3
    ·refine ⟨by rw [renV_length];unfold Ctx.width;rw [h3];exact g3,fun j c hj=>?_⟩
     obtain ⟨c0,q1,q2⟩:=renV_cells x0 j c hj
     obtain ⟨u,k1,k2,k3⟩:=g4 j c0 q1
     refine ⟨u,by rw [atE];exact k1,k2,?_⟩
     rw [hbox]
     rw [hb0] at k3 ⊢
     simp only [if_true] at k3 ⊢
     rcases q2 with rfl|rfl
     ·exact ren1_sound hag hget k3
     ·exact renV_sound hag hget k3
   ·unfold Ctx.real Ctx.loc Ctx.room Ctx.width
    rw [h3,hlen,hag.base]
    exact B.room
  ·intro nm b1 nm' b2 g1 g2 g3 g4 g5
   obtain ⟨o1,c1,k1,_,k3,k4⟩:=from_ nm b1 g1
   obtain ⟨o2,c2,q1,_,q3,q4⟩:=from_ nm' b2 g2
   unfold Ctx.real Ctx.loc at *
   rw [k3] at g3 ⊢
   rw [q3] at g4 ⊢
   refine hs.apart o1 c1 o2 c2 k1 q1 g3 g4 fun e=>?_
   rcases k4 with ⟨rfl,hl1⟩|m1
   ·rcases q4 with ⟨rfl,_⟩|m2
    ·exact g5 e
    ·rw [e,(hloc _ m2).1] at hl1;cases hl1
   ·rcases q4 with ⟨rfl,hl2⟩|m2
    ·rw [← e,(hloc _ m1).1] at hl2;cases hl2
    ·have:(o1,nm)=(o2,nm'):=by
      have inj:∀ (l:List (Nm × Nm)),(l.map (·.1)).Nodup→∀ x ∈ l,∀ y ∈ l,x.1=y.1→x=y:=by
       intro l hn
       induction l with
       | nil=>intro x hx;simp at hx
       | cons z r ih =>
        rw [List.map_cons,List.nodup_cons] at hn
        intro x hx y hy hxy
        rcases List.mem_cons.1 hx with rfl|hx'
        ·rcases List.mem_cons.1 hy with rfl|hy'
         ·rfl
         ·exact absurd (List.mem_map.2 ⟨y,hy',hxy.symm⟩) hn.1
        ·rcases List.mem_cons.1 hy with rfl|hy'
         ·exact absurd (List.mem_map.2 ⟨x,hx',hxy⟩) hn.1
         ·exact ih hn.2 x hx' y hy' hxy
      exact inj pairs n1 _ m1 _ m2 e
     exact g5 (Prod.mk.inj this).2
  ·intro z v hz
   rw [hmE] at hz
   obtain ⟨g1,g2,g3⟩:=hs.mem z v hz
   refine ⟨g1,g2,fun nm b hb hr=>?_⟩
   obtain ⟨o,b0,k1,_,k3,_⟩:=from_ nm b hb
   unfold Ctx.real Ctx.loc at *
   rw [k3] at hr ⊢
   exact g3 o b0 k1 hr
  ·rw [getE_map (fun t=>renV π pairs (getE st.env t))]
   split
   ·exact renV_sound hag hget (hs.env t)
   ·exact .undef _
end
end Go.Proofs.VE
