import Derived.Test.YtealoedecngaoaaGreatDoorP3
namespace Go.Proofs.VE
open Go
def insA (P:Program) (t:TypeId):SModel:=fun args q heap k =>
 match args with
 | [.own nm,.int .i64 i,.own ny] =>
  match elemT P t,getH heap nm,getH heap ny with
  | some e,some b,some c =>
   bif !b.box && !c.box && !nmEq nm ny && ctsEq b.tys [.int .i64,.int .i64] && ctsEq c.tys b.tys && Nat.beq c.xs.length 1 && cleanH (1 :: q) heap && zeroOK P e then
    bif decide (0≤i) && decide (i≤b.xs.length) && decide ((b.xs.length+1)*16≤140737488355328) then
     k (.own (1 :: 1 :: q)) (setH (delH heap nm) (1 :: 1 :: q) ⟨false,b.tys,b.xs.take i.toNat++c.xs++b.xs.drop i.toNat⟩)
    else none
   else none
  | _,_,_=>none
 | _=>none
section
variable {P:Program} {C C':Ctx} {nt:Nat} {st:St} {a:Act} {w w':World} {heap:List (Nm × Blk)}
theorem shape_of_cell {b o:Nat} {v:Value} (h:w.cell? ⟨b,o,none⟩=some v):∃ t k,w.shape? b=some (t,k)∧k ≠ 0:=by
 unfold World.cell? at h
 unfold World.shape?
 split at h
 ·rename_i c t z hb
  simp only at hb
  rw [hb]
  refine ⟨t,c.size,rfl,fun e=>?_⟩
  simp only [Option.isSome_none,Bool.false_eq_true,if_false] at h
  have:=(Array.getElem?_eq_some_iff.1 h).1
  omega
 ·cases h
structure InsWalk (P:Program) (g:FuncId) (t e:TypeId):Prop where
 known:Known P g
 elem:elemT P t=some e
 size:P.cellsOf e=2
 bytes:P.bytesOf e=16
 shift:∀ (b off n c i vb voff vc:Nat) (cs vs:List Value) (w:World) (_:i<n) (_:n+1≤c) (_:n+1≤140737488355328) (_:vb ≠ b)
  (_:cs.length=n*2) (_:vs.length=2)
  (_:∀ (j:Nat) (v:Value),cs[j]?=some v→w.cell? ⟨b,off+j,none⟩=some v) (_:∀ j,j<c*2→(w.cell? ⟨b,off+j,none⟩).isSome=true) (_:∀ j,w.frozen? ⟨b,j,none⟩=false)
  (_:∀ (j:Nat) (v:Value),vs[j]?=some v→w.cell? ⟨vb,voff+j,none⟩=some v) (_:∀ v ∈ cs,v.oneCell'=true) (_:∀ v ∈ vs,v.oneCell'=true)
  (tA tB:TypeId) (kA kB:Nat) (_:w.shape? vb=some (tA,kA)) (_:w.shape? b=some (tB,kB)) (_:kB ≠ 0) (_:∀ j,w.frozen? ⟨vb,j,none⟩=false),
  Calls P g #[.slice (some ⟨b,off,none⟩) n c,.int .i64 i,.slice (some ⟨vb,voff,none⟩) 1 vc] w fun e w' =>
   e = .returned (.slice (some ⟨b,off,none⟩) (n+1) c)∧w'=(w.drew.setCells b (off+(i+1)*2) (cs.drop (i*2))).setCells b (off+i*2) vs
 atEnd:∀ (base:Option Addr) (n c vb voff vc:Nat) (w w':World) (u:Value) (_:n≤c) (_:n+1≤140737488355328) (_:base=none→n=0∧c=0)
  (_:(Builtin.append_ #[t,t] t #[.slice base n c,.slice (some ⟨vb,voff,none⟩) 1 vc]).run P w = .ok u w'),
  Calls P g #[.slice base n c,.int .i64 n,.slice (some ⟨vb,voff,none⟩) 1 vc] w fun e w2=>e = .returned u∧w2=w'
 grow:∀ (b off n c i vb voff vc:Nat) (cs vs:List Value) (w:World) (_:i<n) (_:n≤c) (_:c<n+1) (_:(n+1)*16≤140737488355328)
  (_:cs.length=n*2) (_:vs.length=2)
  (_:∀ (j:Nat) (v:Value),cs[j]?=some v→w.cell? ⟨b,off+j,none⟩=some v)
  (_:∀ (j:Nat) (v:Value),vs[j]?=some v→w.cell? ⟨vb,voff+j,none⟩=some v) (_:∀ v ∈ cs,v.oneCell'=true) (_:∀ v ∈ vs,v.oneCell'=true),
  Calls P g #[.slice (some ⟨b,off,none⟩) n c,.int .i64 i,.slice (some ⟨vb,voff,none⟩) 1 vc] w fun e' w' =>
   ∃ ROW:Array Value,(∀ (j:Nat) (v:Value),(cs.take (i*2))[j]?=some v→ROW[j]?=some v)∧grownCap w (n+1) c e*2≤ROW.size ∧
   e' = .returned (.slice (some ⟨w.heap.size,0,none⟩) (n+1) (grownCap w (n+1) c e)) ∧
   w'=(((w.alloc (.cells ROW e)).drew.setCells w.heap.size (i*2) vs).drew).setCells w.heap.size ((i+1)*2) (cs.drop (i*2))
theorem Flat.drop {mem:Addr→Option Value} {tys:List CT} {xs:List AV} {us:List Value} (h:Flat mem tys xs us) (p:Nat):Flat mem tys (xs.drop p) (us.drop (p*tys.length)):=by
 refine ⟨by rw [List.length_drop,List.length_drop,h.len,Nat.sub_mul],fun i x hx=>?_⟩
 rw [List.getElem?_drop] at hx
 obtain ⟨h1,h2⟩:=h.cells _ x hx
 refine ⟨h1,fun j c hc=>?_⟩
 obtain ⟨u,ct,h3,h4,h5⟩:=h2 j c hc
 refine ⟨u,ct,?_,h4,h5⟩
 rw [List.getElem?_drop,← h3]
 congr 1
 rw [Nat.add_mul]
 omega
theorem ins_meets [Glob] {g:FuncId} {t e:TypeId} (h:InsWalk P g t e):SMeets P g (insA P t):=by
 refine ⟨h.known,fun args q heap k r C w us hk hl hv hh=>?_⟩
 unfold insA at hk
 split at hk
 ·rename_i nm i ny
  match us,hl with
  | [u0,u1,u2],_ =>
  have v0:=hv 0 _ _ rfl rfl
  have v1:=hv 1 _ _ rfl rfl
  have v2:=hv 2 _ _ rfl rfl
  cases v1
  split at hk
  ·rename_i e' b c he hb hc
   rw [h.elem] at he
   obtain rfl:=Option.some.inj he
   cases hg : !b.box && !c.box && !nmEq nm ny && ctsEq b.tys [.int .i64,.int .i64] && ctsEq c.tys b.tys && Nat.beq c.xs.length 1 && cleanH (1 :: q) heap && zeroOK P e with
   | false=>rw [hg] at hk;cases hk
   | true =>
   rw [hg] at hk
   simp only [cond_true] at hk
   cases hi:decide (0≤i) && decide (i≤b.xs.length) && decide ((b.xs.length+1)*16≤140737488355328) with
   | false=>rw [hi] at hk;cases hk
   | true =>
   rw [hi] at hk
   simp only [cond_true] at hk
   simp only [Bool.and_eq_true,Bool.not_eq_true',decide_eq_true_eq] at hg hi
   obtain ⟨⟨⟨⟨⟨⟨⟨gb,gc⟩,gn⟩,gt⟩,gt'⟩,g1⟩,gcl⟩,gz⟩:=hg
   obtain ⟨⟨hi0,hin⟩,hbig⟩:=hi
   have gt:=ctsEq_eq _ _ gt
   have gt':=ctsEq_eq _ _ gt'
   have g1:=Nat.eq_of_beq_eq_true g1
   obtain ⟨m,rfl⟩:∃ m:Nat,i=(m:Int):=⟨i.toNat,by omega⟩
   have hin:m≤b.xs.length:=by omega
   have em:(m:Int).toNat=m:=by omega
   rw [em] at hk
   have htl:b.tys.length=2:=by rw [gt];rfl
   have cn:∀ n bb,getH heap n=some bb→under (1 :: q) n=false:=fun n bb hn=>(cleanH_get gcl n bb hn).1
   have hs:Sim C 3 ⟨[(0,.own nm),(2,.own ny)],heap⟩ ⟨#[u0,undef,u2],[]⟩ w:=by
    refine { toHSim:=hh,size:=rfl,defers:=rfl,env:=fun tt=>?_ }
    match tt with
    | 0=>exact v0
    | 1=>exact .undef _
    | 2=>exact v2
    | n+3=>exact .undef _
   have hq:cleanS (1 :: q) ⟨[(0,.own nm),(2,.own ny)],heap⟩=true:=by
    unfold cleanS
    rw [Bool.and_eq_true]
    refine ⟨?_,gcl⟩
    simp [cleanE,menV,menC,cn nm b hb,cn ny c hc]
   obtain ⟨ay,cy,vs,hyu,⟨_,hG⟩,hvs⟩:=elems_sound hs v2 (show elemsA heap (.own ny)=some (c.tys,c.xs) by simp [elemsA,hc,gc])
   have hG:=hG rfl
   rw [gt'] at hG
   obtain ⟨ay,rfl,hvc⟩:=hvs (by rw [hG.len,g1,htl];omega)
   have hvl:vs.length=2:=by rw [hG.len,g1,htl]
   rw [g1] at hyu
   subst hyu
   obtain ⟨hry,hay⟩:C.real ny=true∧ay=C.at ny 0 0:=by
    generalize hu:Value.slice (some ay) 1 cy=u at v2
    cases v2 with
    | own _ cap hr _ _ =>
     simp only [Value.slice.injEq,Option.some.injEq] at hu
     exact ⟨hr,hu.1⟩
    | ownNil=>simp at hu
   have hBy:=hh.blk ny c hc
   obtain ⟨y1,y2,y3,y4⟩:=hBy.room hry
   have hwy:C.width ny=2:=by rw [hBy.width gc,gt',htl]
   have hyv:∀ (j:Nat) (v:Value),vs[j]?=some v→w.cell? ⟨(C.loc ny).1,(C.loc ny).2+j,none⟩=some v:=fun j v hj=>by
    have:=hvc j v hj
    rw [hay] at this
    unfold Ctx.at at_ at this
    rw [add_at] at this
    simpa using this
   have hay':ay=⟨(C.loc ny).1,(C.loc ny).2,none⟩:=by rw [hay];unfold Ctx.at at_;simp
   have hB:=hh.blk nm b hb
   have hBl:=hB.len
   have hBw:C.width nm=2:=by rw [hB.width gb,htl]
   have eb:b=⟨false,b.tys,b.xs⟩:=by rw [← gb]
   obtain ⟨av,cap,cs,hxu,⟨_,hF⟩,hcs⟩:=elems_sound hs v0 (show elemsA heap (.own nm)=some (b.tys,b.xs) by simp [elemsA,hb,gb])
   have hF:=hF rfl
   have hcl:cs.length=b.xs.length*2:=by rw [hF.len,htl]
   subst hxu
   by_cases hend:m=b.xs.length
   ·
    subst hend
    have hap:=(append_eff (P:=P) (C:=C) (nt:=3) (st:=⟨[(0,.own nm),(2,.own ny)],heap⟩) (a:=⟨#[.slice av b.xs.length cap,undef,.slice (some ay) 1 cy],[]⟩) (w:=w)
     (o:={ dst:=some 1,op := .call { callee := .builtin .append,args:=#[.tmp 0,.tmp 2],argTypes:=#[t,t] },type:=t,pos := "",after:=#[],guard:=none }) (d:=1) (π:=q) (x := .tmp 0) (y := .tmp 2) (args:=#[.tmp 0,.tmp 2]) (argTypes:=#[t,t]) (t:=t) (e:=e) (tys:=b.tys) (ys:=c.xs)
     (by omega) rfl rfl rfl rfl hs h.elem (show elemsA heap (.own ny)=some (b.tys,c.xs) by simp [elemsA,hc,gc,gt']) hq (by rw [htl,h.size]) gz (by omega) rfl).2 nm b rfl hb gb rfl (by rw [g1,h.bytes];exact hbig) (by rw [g1];omega)
    obtain ⟨C',nn,u,w',x1,x2,x3,x4⟩:=hap
    have hrun:(Builtin.append_ #[t,t] t #[.slice av b.xs.length cap,.slice (some ay) 1 cy]).run P w = .ok u w'∧nn = .value u:=by
     unfold execOp at x1
     simp only at x1
     unfold resolve at x1
     simp only [pure_bind] at x1
     unfold invoke at x1
     simp only at x1
     have ea:Array.map ({ tmps:=#[Value.slice av b.xs.length cap,undef,Value.slice (some ay) 1 cy],defers:=[] }:Act).eval #[Operand.tmp 0,Operand.tmp 2]=#[.slice av b.xs.length cap,.slice (some ay) 1 cy]:=by apply Array.ext';simp [Act.eval]
     rw [ea] at x1
     have x1':(do pure (Next.value (← Builtin.append_ #[t,t] t #[.slice av b.xs.length cap,.slice (some ay) 1 cy])):Sem Next).run P w = .ok nn w':=x1
     rw [Sem.run_bind] at x1'
     cases hr:(Builtin.append_ #[t,t] t #[.slice av b.xs.length cap,.slice (some ay) 1 cy]).run P w with
     | ok u' w2 =>
      rw [hr] at x1'
      have x1'':Result.ok (Next.value u') w2=Result.ok nn w':=x1'
      simp only [Result.ok.injEq] at x1''
      obtain ⟨rfl,rfl⟩:=x1''
      rcases x2 with x2|⟨x2,_⟩
      ·simp only [Next.value.injEq] at x2
       subst x2
       exact ⟨rfl,rfl⟩
      ·cases x2
     | _=>rw [hr] at x1';cases x1'
    have hnc:b.xs.length≤cap∧(av=none→b.xs.length=0∧cap=0):=by
     generalize hu:Value.slice av b.xs.length cap=u at v0
     cases v0 with
     | own _ cap' hr k1 k2 =>
      simp only [Value.slice.injEq] at hu
      obtain ⟨e1,e2,e3⟩:=hu
      exact ⟨by omega,fun e=>by rw [e] at e1;cases e1⟩
     | ownNil _ hz =>
      simp only [Value.slice.injEq] at hu
      exact ⟨by omega,fun _=>⟨hu.2.1,hu.2.2⟩⟩
    have key:=h.atEnd av b.xs.length cap (C.loc ny).1 (C.loc ny).2 cy w w' u hnc.1 (by omega) hnc.2 (by rw [← hay'];exact hrun.1)
    rw [← hay'] at key
    refine key.mono fun e w2 hw2=>?_
    obtain ⟨rfl,rfl⟩:=hw2
    refine ⟨u,rfl,C',_,_,hk,?_,?_,x3⟩
    ·have:=x4.env 1
     have e1:getE (setE [(0,AV.own nm),(2,AV.own ny)] 1 (.own (1 :: 1 :: q))) 1 = .own (1 :: 1 :: q):=rfl
     rw [e1] at this
     exact this
    ·have:=x4.toHSim
     rw [List.take_length,List.drop_length,List.append_nil]
     exact this
   ·have hlt:m<b.xs.length:=by omega
    obtain ⟨hr,hav,k1,k2⟩:C.real nm=true∧av=some (C.at nm 0 0)∧b.xs.length≤cap∧cap≤C.room nm:=by
     generalize hu:Value.slice av b.xs.length cap=u at v0
     cases v0 with
     | own _ cap' hr k1 k2 =>
      simp only [Value.slice.injEq] at hu
      obtain ⟨e1,e2,rfl⟩:=hu
      exact ⟨hr,e1,by omega,k2⟩
     | ownNil _ hz =>
      simp only [Value.slice.injEq] at hu
      omega
    subst hav
    obtain ⟨r1,r2,r3,r4⟩:=hB.room hr
    have hA0:C.at nm 0 0=⟨(C.loc nm).1,(C.loc nm).2,none⟩:=by unfold Ctx.at at_;simp
    obtain ⟨ax,e1,hcv⟩:=hcs (by omega)
    obtain rfl:=Option.some.inj e1
    have hxv:∀ (j:Nat) (v:Value),cs[j]?=some v→w.cell? ⟨(C.loc nm).1,(C.loc nm).2+j,none⟩=some v:=fun j v hj=>by
     have:=hcv j v hj
     rw [hA0,add_at] at this
     exact this
    have away:∀ n b1,getH (delH heap nm) n=some b1→C.real n=true→(C.loc n).1 ≠ (C.loc nm).1:=fun n b1 hn hrn=>by
     rw [getH_delH] at hn
     split at hn
     ·cases hn
     ·rename_i hne
      exact hh.apart n b1 nm b hn hb hrn hr (fun e=>hne e.symm)
    have amem:(∀ z v,C.mem z=some v→z.block ≠ (C.loc nm).1)∧¬ C.fr (C.loc nm).1:=⟨fun z v hz e=>(hh.mem z v hz).2.2 nm b hb hr e.symm,fun hf=>(hh.frame _ hf).2.2 nm b hb hr rfl⟩
    have hs1:Sim C 3 ⟨[(0,.own nm),(2,.own ny)],delH heap nm⟩ ⟨#[.slice (some (C.at nm 0 0)) b.xs.length cap,undef,.slice (some ay) 1 cy],[]⟩ w:=hs.withH (hh.del nm) hs.env
    have hq1:cleanS (1 :: q) ⟨[(0,.own nm),(2,.own ny)],delH heap nm⟩=true:=by
     unfold cleanS at hq ⊢
     rw [Bool.and_eq_true] at hq ⊢
     exact ⟨hq.1,cleanH_del hq.2 nm⟩
    have hu1:under (1 :: q) (1 :: 1 :: q)=true:=under_new 1 q
    have hFd:=hF.drop m
    rw [htl] at hFd
    have hdl:(b.xs.drop m).length=b.xs.length - m:=by simp
    by_cases hfit:b.xs.length+1≤cap
    ·
     obtain ⟨v0',hv0'⟩:=Option.isSome_iff_exists.1 (r4 0 (by rw [hBw];omega)).1
     obtain ⟨tB,kB,s1,s2⟩:=shape_of_cell hv0'
     obtain ⟨vy,hvy⟩:=Option.isSome_iff_exists.1 (y4 0 (by rw [hwy];rw [g1] at y3;omega)).1
     obtain ⟨tA,kA,s3,_⟩:=shape_of_cell hvy
     have key:=h.shift (C.loc nm).1 (C.loc nm).2 b.xs.length cap m (C.loc ny).1 (C.loc ny).2 cy cs vs w hlt hfit (by omega)
      (fun e=>hh.apart ny c nm b hc hb hry hr (fun e'=>by rw [e',nmEq_refl] at gn;cases gn) e) hcl hvl hxv (fun j hj=>(r4 j (by rw [hBw];omega)).1) (hB.froz hr (by rw [hBw];omega)) hyv hF.one hG.one tA tB kA kB s3 s1 s2
      (hBy.froz hry (by rw [hwy];rw [g1] at y3;omega))
     rw [← hay',← hA0] at key
     refine key.mono fun e w2 hw2=>?_
     obtain ⟨rfl,rfl⟩:=hw2
     have hBd:BlkR C w.drew nm ⟨false,b.tys,b.xs⟩:=by
      rw [← eb]
      exact hB.world (fun _=>rfl) (Nat.le_refl _)
     obtain ⟨C1,hC1⟩:∃ C1,C1=C.set (1 :: 1 :: q) { C.dat nm with len:=b.xs.length+1 }:=⟨_,rfl⟩
     have hdat:C1.dat (1 :: 1 :: q)={ C.dat nm with len:=b.xs.length+1 }:=by rw [hC1];exact Ctx.set_dat _ _ _
     have hwn:C1.width (1 :: 1 :: q)=C.width nm:=by unfold Ctx.width;rw [hdat]
     have hln:C1.loc (1 :: 1 :: q)=C.loc nm:=by unfold Ctx.loc;rw [hdat]
     have hrn:C1.room (1 :: 1 :: q)=C.room nm:=by unfold Ctx.room;rw [hdat]
     have hrl:C1.real (1 :: 1 :: q)=true:=by unfold Ctx.real;rw [hdat];exact hr
     have hlen1:(b.xs.take (m+1)++b.xs.drop m).length=b.xs.length+1:=by simp;omega
     have hlen2:(b.xs.take m++c.xs++b.xs.drop m).length=b.xs.length+1:=by simp;omega
     have hm1:C1.memF=C.memF:=by rw [hC1];rfl
     have st1:BlkR C1 (w.drew.setCells (C.loc nm).1 ((C.loc nm).2+(m+1)*C.width nm) (cs.drop (m*2))) (1 :: 1 :: q) ⟨false,b.tys,b.xs.take (m+1)++b.xs.drop m⟩ :=
      hBd.put hr hFd (p:=m+1) (by rw [List.drop_eq_nil_of_le (as:=b.xs) (i:=m+1+(b.xs.drop m).length) (by rw [hdl];omega),List.append_nil]) (by rw [hdat,hlen1]) (by rw [hC1];rfl) hm1 (by omega) (by rw [hdl];omega) (by rw [hlen1];omega) (by rw [hlen1];unfold maxLen;omega)
     have st2:BlkR C1 ((w.drew.setCells (C.loc nm).1 ((C.loc nm).2+(m+1)*C.width nm) (cs.drop (m*2))).setCells (C1.loc (1 :: 1 :: q)).1 ((C1.loc (1 :: 1 :: q)).2+m*C1.width (1 :: 1 :: q)) vs) (1 :: 1 :: q) ⟨false,b.tys,b.xs.take m++c.xs++b.xs.drop m⟩:=by
      refine st1.put (C':=C1) hrl (by rw [hm1];exact hG) (p:=m) ?_ (by rw [hdat,hlen2]) rfl rfl (by rw [hlen1];omega) (by rw [hrn,g1];omega) (by rw [hrn,hlen2];omega) (by rw [hlen2];unfold maxLen;omega)
      rw [g1,List.take_append_of_le_length (by simp;omega),List.take_take,Nat.min_eq_left (by omega),List.drop_append]
      rw [List.drop_eq_nil_of_le (as:=b.xs.take (m+1)) (by rw [List.length_take];omega),List.nil_append,List.length_take,Nat.min_eq_left (by omega),Nat.sub_self,List.drop_zero]
     rw [hln,hwn,hBw] at st2
     rw [hBw] at st1
     have hgr:w.grownBy ((w.drew.setCells (C.loc nm).1 ((C.loc nm).2+(m+1)*2) (cs.drop (m*2))).setCells (C.loc nm).1 ((C.loc nm).2+m*2) vs) (some (C.loc nm).1):=by
      have a1:=grownBy_setCells w.drew (C.loc nm).1 ((C.loc nm).2+(m+1)*2) (cs.drop (m*2))
      have a2:=grownBy_setCells (w.drew.setCells (C.loc nm).1 ((C.loc nm).2+(m+1)*2) (cs.drop (m*2))) (C.loc nm).1 ((C.loc nm).2+m*2) vs
      exact ⟨a2.os.trans a1.os,a2.tape.trans a1.tape,a2.output.trans a1.output,Nat.le_trans a1.size a2.size,fun kk hkk hne=>(a2.block kk (Nat.lt_of_lt_of_le hkk a1.size) hne).trans (a1.block kk hkk hne)⟩
     obtain ⟨n1,n2⟩:=hs1.new (q:=1 :: q) (n:=1 :: 1 :: q) (D:={ C.dat nm with len:=b.xs.length+1 }) hq1 hu1 hgr (fun kk hkk=>by
       obtain rfl:=Option.some.inj hkk
       exact ⟨r1,fun n b1=>away n b1,amem⟩) (by rw [← hC1];exact st2) (fun _=>⟨fun n b1=>away n b1,amem⟩)
     rw [← hC1] at n1 n2
     refine ⟨_,rfl,C1,_,_,hk,?_,n1.toHSim,n2.mono fun n hn=>under_isLoc hn⟩
     have e1:C.at nm 0 0=C1.at (1 :: 1 :: q) 0 0:=by unfold Ctx.at;rw [hln,hwn]
     have e2:b.xs.length+1=C1.len (1 :: 1 :: q):=by unfold Ctx.len;rw [hdat]
     rw [e1,e2]
     exact .own _ cap hrl (by rw [← e2];exact hfit) (by rw [hrn];exact k2)
    ·
     have key:=h.grow (C.loc nm).1 (C.loc nm).2 b.xs.length cap m (C.loc ny).1 (C.loc ny).2 cy cs vs w hlt k1 (by omega) hbig hcl hvl hxv hyv hF.one hG.one
     rw [← hay',← hA0] at key
     refine key.mono fun e' w2 hw2=>?_
     obtain ⟨ROW,p1,p2,rfl,rfl⟩:=hw2
     have hge:=grownCap_ge w (b.xs.length+1) cap e
     obtain ⟨G,hG'⟩:∃ G,G=grownCap w (b.xs.length+1) cap e:=⟨_,rfl⟩
     rw [← hG'] at hge p2 ⊢
     obtain ⟨C0',hC0⟩:∃ C1,C1=C.set (1 :: 1 :: q) ⟨true,(w.heap.size,0),2,m,G⟩:=⟨_,rfl⟩
     have hd0:C0'.dat (1 :: 1 :: q)=⟨true,(w.heap.size,0),2,m,G⟩:=by rw [hC0];exact Ctx.set_dat _ _ _
     have hlt1:(b.xs.take m).length=m:=by simp;omega
     have st0:BlkR C0' (w.alloc (.cells ROW e)) (1 :: 1 :: q) ⟨false,b.tys,b.xs.take m⟩:=by
      refine newBlk (width:=2) (room:=G) (by rw [hd0,hlt1]) (by rw [hC0];exact hh.grown) (fun _=>htl.symm) (fun h=>by cases h) (by rw [hlt1];unfold maxLen;omega) (by rw [hlt1];omega) p2 fun ii x hx=>?_
      have hii:ii<m:=by have:=(List.getElem?_eq_some_iff.1 hx).1;simp only [hlt1] at this;exact this
      rw [List.getElem?_take_of_lt hii] at hx
      obtain ⟨g3,g4⟩:=hF.cells ii x hx
      rw [htl] at g3 g4
      refine ⟨g3,fun j cc hj=>?_⟩
      obtain ⟨u,ct,g5,g6,g7⟩:=g4 j cc hj
      have hj2:j<2:=by rw [← g3];exact (List.getElem?_eq_some_iff.1 hj).1
      refine ⟨u,p1 _ u ?_,g7.oneCell',?_⟩
      ·rw [List.getElem?_take_of_lt (by omega)]
       exact g5
      ·simp only [Bool.false_eq_true,if_false]
       exact ⟨ct,g6,by rw [hC0];exact g7⟩
     have st0d:BlkR C0' (w.alloc (.cells ROW e)).drew (1 :: 1 :: q) ⟨false,b.tys,b.xs.take m⟩:=st0.world (fun _=>rfl) (Nat.le_refl _)
     have q1:C0'.width (1 :: 1 :: q)=2:=by unfold Ctx.width;rw [hd0]
     have q2:C0'.loc (1 :: 1 :: q)=(w.heap.size,0):=by unfold Ctx.loc;rw [hd0]
     have q3:C0'.room (1 :: 1 :: q)=G:=by unfold Ctx.room;rw [hd0]
     have q4:C0'.real (1 :: 1 :: q)=true:=by unfold Ctx.real;rw [hd0]
     have q5:C0'.memF=C.memF:=by rw [hC0];rfl
     obtain ⟨C2,hC2⟩:∃ C1,C1=C.set (1 :: 1 :: q) ⟨true,(w.heap.size,0),2,m+1,G⟩:=⟨_,rfl⟩
     have hd2:C2.dat (1 :: 1 :: q)=⟨true,(w.heap.size,0),2,m+1,G⟩:=by rw [hC2];exact Ctx.set_dat _ _ _
     have hlm:(b.xs.take m++c.xs).length=m+1:=by rw [List.length_append,hlt1,g1]
     have st1:BlkR C2 ((w.alloc (.cells ROW e)).drew.setCells (C0'.loc (1 :: 1 :: q)).1 ((C0'.loc (1 :: 1 :: q)).2+m*C0'.width (1 :: 1 :: q)) vs) (1 :: 1 :: q) ⟨false,b.tys,b.xs.take m++c.xs⟩:=by
      refine st0d.put q4 (by rw [q5];exact hG) (p:=m) ?_ (by rw [hd2,hd0,hlm]) (by rw [hC2,hC0];rfl) (by rw [hC2,hC0];rfl) (by rw [hlt1];exact Nat.le_refl _) (by rw [q3,g1];omega) (by rw [q3,hlm];omega) (by rw [hlm];unfold maxLen;omega)
      rw [List.take_take,Nat.min_self,List.drop_eq_nil_of_le (as:=b.xs.take m) (by rw [hlt1];omega),List.append_nil]
     rw [q1,q2] at st1
     simp only [Nat.zero_add] at st1
     have st1d:BlkR C2 ((w.alloc (.cells ROW e)).drew.setCells w.heap.size (m*2) vs).drew (1 :: 1 :: q) ⟨false,b.tys,b.xs.take m++c.xs⟩:=st1.world (fun _=>rfl) (Nat.le_refl _)
     have z1:C2.width (1 :: 1 :: q)=2:=by unfold Ctx.width;rw [hd2]
     have z2:C2.loc (1 :: 1 :: q)=(w.heap.size,0):=by unfold Ctx.loc;rw [hd2]
     have z3:C2.room (1 :: 1 :: q)=G:=by unfold Ctx.room;rw [hd2]
     have z4:C2.real (1 :: 1 :: q)=true:=by unfold Ctx.real;rw [hd2]
     have z5:C2.memF=C.memF:=by rw [hC2];rfl
     obtain ⟨C1,hC1⟩:∃ C1,C1=C.set (1 :: 1 :: q) ⟨true,(w.heap.size,0),2,b.xs.length+1,G⟩:=⟨_,rfl⟩
     have hdat:C1.dat (1 :: 1 :: q)=⟨true,(w.heap.size,0),2,b.xs.length+1,G⟩:=by rw [hC1];exact Ctx.set_dat _ _ _
     have hlen2:(b.xs.take m++c.xs++b.xs.drop m).length=b.xs.length+1:=by simp;omega
     have st2:BlkR C1 (((w.alloc (.cells ROW e)).drew.setCells w.heap.size (m*2) vs).drew.setCells (C2.loc (1 :: 1 :: q)).1 ((C2.loc (1 :: 1 :: q)).2+(m+1)*C2.width (1 :: 1 :: q)) (cs.drop (m*2))) (1 :: 1 :: q) ⟨false,b.tys,b.xs.take m++c.xs++b.xs.drop m⟩:=by
      refine st1d.put z4 (by rw [z5];exact hFd) (p:=m+1) ?_ (by rw [hdat,hd2,hlen2]) (by rw [hC2,hC1];rfl) (by rw [hC2,hC1];rfl) (by rw [hlm];exact Nat.le_refl _) (by rw [z3,hdl];omega) (by rw [z3,hlen2];omega) (by rw [hlen2];unfold maxLen;omega)
      rw [List.take_of_length_le (i:=m+1) (l:=b.xs.take m++c.xs) (by rw [hlm];exact Nat.le_refl _),List.drop_eq_nil_of_le (as:=b.xs.take m++c.xs) (by rw [hlm];omega),List.append_nil]
     rw [z1,z2] at st2
     simp only [Nat.zero_add] at st2
     have hgr:w.grownBy (((w.alloc (.cells ROW e)).drew.setCells w.heap.size (m*2) vs).drew.setCells w.heap.size ((m+1)*2) (cs.drop (m*2))) none:=by
      have a1:=grownBy_setCells (w.alloc (.cells ROW e)).drew w.heap.size (m*2) vs
      have a2:=grownBy_setCells ((w.alloc (.cells ROW e)).drew.setCells w.heap.size (m*2) vs).drew w.heap.size ((m+1)*2) (cs.drop (m*2))
      have hsz:w.heap.size<(w.alloc (.cells ROW e)).drew.heap.size:=by show w.heap.size<(w.alloc (.cells ROW e)).heap.size;simp
      exact ⟨a2.os.trans a1.os,a2.tape.trans a1.tape,a2.output.trans a1.output,Nat.le_trans (Nat.le_of_lt hsz) (Nat.le_trans a1.size a2.size),fun kk hkk _=>by
       have ne:some kk ≠ some w.heap.size:=fun e=>by have:=Option.some.inj e;omega
       have b2:=a2.block kk (Nat.lt_of_lt_of_le (Nat.lt_trans hkk hsz) a1.size) ne
       have b1:=a1.block kk (Nat.lt_trans hkk hsz) ne
       exact b2.trans (b1.trans (heap_alloc_old w _ (by omega)))⟩
     obtain ⟨n1,n2⟩:=hs1.new (q:=1 :: q) (n:=1 :: 1 :: q) (D:=⟨true,(w.heap.size,0),2,b.xs.length+1,G⟩) hq1 hu1 hgr (fun kk hkk=>by cases hkk) (by rw [← hC1];exact st2) (fun _=>lt_old hs1)
     rw [← hC1] at n1 n2
     refine ⟨_,rfl,C1,_,_,hk,?_,n1.toHSim,n2.mono fun n hn=>under_isLoc hn⟩
     have e1:(⟨w.heap.size,0,none⟩:Addr)=C1.at (1 :: 1 :: q) 0 0:=by unfold Ctx.at Ctx.loc Ctx.width at_;rw [hdat];simp
     have e2:b.xs.length+1=C1.len (1 :: 1 :: q):=by unfold Ctx.len;rw [hdat]
     rw [e1,e2]
     exact .own _ G (by unfold Ctx.real;rw [hdat]) (by rw [← e2];exact hge) (by unfold Ctx.room;rw [hdat];exact Nat.le_refl _)
  ·cases hk
 ·cases hk
end
end Go.Proofs.VE
