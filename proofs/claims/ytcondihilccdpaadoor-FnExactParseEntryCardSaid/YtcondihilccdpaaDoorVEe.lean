import Derived.Test.YtcondihilccdpaaDoorVEd
namespace Go.Proofs.VE
open Go
section
variable {P:Program} {C:Ctx} {nt:Nat} {st:St} {a:Act} {w:World}
theorem run_v {s:Sem Value} {u:Value} {w':World} (h:s.run P w = .ok u w'):(do pure (Next.value (← s)):Sem Next).run P w = .ok (.value u) w':=by
 rw [run_bind' h];rfl
theorem load_sound [Glob] {t:TypeId} {nm:Nm} {i off:Nat} {b:Blk} {v:AV} (hs:Sim C nt st a w) (hb:getH st.heap nm=some b) (h:partB P t b i off=some v)
  (hi:i<C.len nm):∃ u,(loadVar t (C.at nm i off)).run P w = .ok u w∧VR C v u:=by
 have B:=hs.blk nm b hb
 unfold partB at h
 cases hbox:b.box with
 | true =>
  rw [hbox] at h
  simp only [cond_true] at h
  cases h0:Nat.beq i 0 with
  | false=>simp [h0] at h
  | true =>
   have:=Nat.eq_of_beq_eq_true h0
   subst this
   simp only [h0,cond_true] at h
   split at h
   ·rename_i x hx
    have hc:=(B.cells 0 x (by simp [hx])).2
    have:=partA_sound (C:=C) (w:=w) (b:=(C.loc nm).1) (o:=(C.loc nm).2+0*C.width nm) h (fun j c hj=>by
     obtain ⟨u,h1,h2,h3⟩:=hc j c hj
     rw [hbox] at h3
     exact ⟨u,h1,h2,by simpa using h3⟩)
    exact this
   ·cases h
 | false =>
  rw [hbox] at h
  simp only [cond_false] at h
  have hlen:=B.len
  have hix:i<b.xs.length:=by omega
  have hg:b.xs.getD i .undef=b.xs[i]:=by simp [List.getD,List.getElem?_eq_getElem hix]
  rw [hg] at h
  obtain ⟨hl,hc⟩:=B.cells i b.xs[i] (List.getElem?_eq_getElem hix)
  have hw:=B.width hbox
  let U:Nat→Value:=fun j=>(w.cell? (C.at nm i j)).getD undef
  have hU:∀ (j:Nat) (c:AV),b.xs[i].cells[j]?=some c→w.cell? (C.at nm i j)=some (U j)∧∃ ct,b.tys[j]?=some ct∧VC C.mem ct c (U j):=fun j c hj=>by
   obtain ⟨u,h1,h2,h3⟩:=hc j c hj
   rw [hbox] at h3
   simp only [U,h1,Option.getD_some]
   simp only [Bool.false_eq_true,if_false] at h3
   obtain ⟨ct,h4,h5⟩:=h3
   exact ⟨trivial,ct,h4,h5.mono fun a v h=>(hs.own a v h).1⟩
  exact partT_sound (C:=C) (w:=w) (b:=(C.loc nm).1) (o:=(C.loc nm).2+i*C.width nm) (U:=U) h (by rw [hl,hw])
   (fun j hj=>by
    have hj':j<b.xs[i].cells.length:=by rw [hl,hw];exact hj
    exact (hU j _ (List.getElem?_eq_getElem hj')).1)
   (fun j ct c h1 h2=>by
    obtain ⟨_,ct',h3,h4⟩:=hU j c h2
    rw [h1] at h3
    obtain rfl:=Option.some.inj h3
    exact h4)
theorem rload_sound [Glob] {t:TypeId} {tys:List CT} {x:AV} {off b o:Nat} {U:Nat→Value} {v:AV} (hs:Sim C nt st a w)
  (hm:∀ j,j<tys.length→C.mem ⟨b,o+j,none⟩=some (U j)) (hx:x.cells.length=tys.length)
  (hv:∀ (j:Nat) (ct:CT) (c:AV),tys[j]?=some ct→x.cells[j]?=some c→VC C.mem ct c (U j)) (h:partT P t tys x off=some v) :
  ∃ u,(loadVar t ⟨b,o+off,none⟩).run P w = .ok u w∧VR C v u :=
 partT_sound h hx (fun j hj=>(hs.mem _ _ (hm j hj)).1) hv
theorem eqGuard_const {op:BinOp} {t:TypeId} {x y x' y':Operand} {v u:Value} {X:AV} (h:toV X=some v):eqGuard op t x y v u=eqGuard op t x' y' v u:=by
 cases X <;> simp [toV] at h <;> subst h <;> cases u <;> rfl
theorem wrap_i64_self {a:Int}:IntKind.i64.wrap a=IntKind.i64.wrap a:=rfl
theorem bin_sound {op:BinOp} {t:TypeId} {xo yo:Operand} {x y v:AV} {u u':Value} (hx:VR C x u) (hy:VR C y u') (h:binA P op t x y=some (true,v)) :
  ∃ r,(do eqGuard op t xo yo u u';binOp op t u u':Sem Value).run P w = .ok r w∧VR C v r:=by
 unfold binA at h
 split at h
 ·cases hx;cases hy
  rename_i a b
  simp only [Option.some.injEq,Prod.mk.injEq] at h
  obtain ⟨h1,rfl⟩:=h
  have hb:¬ b=0:=by simpa using h1
  refine ⟨.int .i64 (IntKind.i64.wrap (a.tdiv b)),?_,.int _ _⟩
  have:(do eqGuard .quo t xo yo (.int .i64 a) (.int .i64 b);binOp .quo t (.int .i64 a) (.int .i64 b):Sem Value)=(pure (.int .i64 (IntKind.i64.wrap (a.tdiv b)))):=by
   simp only [eqGuard,binOp,Op.intDiv]
   simp [hb]
  rw [this];rfl
 ·cases hx;cases hy
  rename_i a b
  simp only [Option.some.injEq,Prod.mk.injEq] at h
  obtain ⟨h1,rfl⟩:=h
  have hb:¬ b=0:=by simpa using h1
  refine ⟨.int .i64 (a.tmod b),?_,.int _ _⟩
  have:(do eqGuard .rem t xo yo (.int .i64 a) (.int .i64 b);binOp .rem t (.int .i64 a) (.int .i64 b):Sem Value)=(pure (.int .i64 (a.tmod b))):=by
   simp only [eqGuard,binOp,Op.intDiv]
   simp [hb]
  rw [this];rfl
 ·cases hx;cases hy
  rename_i s r
  simp only [Option.some.injEq,Prod.mk.injEq] at h
  obtain ⟨h1,rfl⟩:=h
  have hb:s.size+r.size≤4611686018427387904:=by simpa using h1
  refine ⟨.string (s++r),?_,.str _⟩
  have:(do eqGuard .add t xo yo (.string s) (.string r);binOp .add t (.string s) (.string r):Sem Value)=(pure (.string (s++r))):=by
   simp only [eqGuard,binOp,Op.stringOp]
   have:¬ ((s.size+r.size:Nat):Int) > IntKind.i64.max:=by
    have:IntKind.i64.max=9223372036854775807:=by decide
    omega
   simp only [this,if_false]
   rfl
  rw [this];rfl
 ·split at h
  ·rename_i v1 u1 hv hu
   have e1:=toV_sound hx hv
   have e2:=toV_sound hy hu
   subst e1
   subst e2
   simp only [Option.map_eq_some_iff,Option.bind_eq_some_iff,Prod.mk.injEq] at h
   obtain ⟨v2,⟨r,h1,h2⟩,_,rfl⟩:=h
   rw [eqGuard_const (x' := .const u) (y' := .const u') hv]
   exact ⟨r,runP_sound h1 w,ofV_sound h2⟩
  ·cases h
theorem intOf_sound {x:AV} {n:Int} {u:Value} (hx:VR C x u) (h:intOf? x=some n):∃ k,u = .int k n:=by
 cases hx <;> simp [intOf?] at h
 subst h
 exact ⟨_,rfl⟩
theorem run_sliceBound {k:IntKind} {i:Int} {y:Nat} {code:BoundsCode} (h0:0≤i) (h1:i≤y):(Instr.sliceBound (.int k i) y code).run P w = .ok i.toNat w:=by
 unfold Instr.sliceBound
 simp only [asIntOf]
 rw [run_bind' (w':=w) (x:=(k,i)) rfl]
 simp only [h0,h1,and_self,if_true]
 rfl
inductive BoundR:Option Int→Option Value→Prop
 | none:BoundR none none
 | some (k:IntKind) (n:Int):BoundR (some n) (some (.int k n))
theorem run_sliceBounds {isS:Bool} {len cap:Nat} {lo hi:Option Int} {lo' hi':Option Value} (hl:BoundR lo lo') (hh:BoundR hi hi')
  (h0:0≤lo.getD 0) (h1:lo.getD 0≤hi.getD len) (h2:hi.getD len≤cap) :
  (Instr.sliceBounds isS len cap lo' hi' none).run P w = .ok ((lo.getD 0).toNat,(hi.getD len).toNat,cap) w:=by
 unfold Instr.sliceBounds
 cases hh with
 | none =>
  simp only [Option.getD_none] at *
  cases hl with
  | none=>simp
  | some k n =>
   simp only [Option.getD_some] at *
   have:=run_sliceBound (P:=P) (w:=w) (k:=k) (code := .sliceB) h0 h1
   simp only [pure_bind]
   rw [run_bind' (x:=n.toNat) (w':=w) (by simpa using this)]
   simp
 | some k m =>
  simp only [Option.getD_some] at *
  have hm:=run_sliceBound (P:=P) (w:=w) (k:=k) (y:=cap) (code:=if isS then .sliceAcap else .sliceAlen) (i:=m) (by omega) h2
  simp only [pure_bind]
  rw [run_bind' hm]
  cases hl with
  | none=>simp
  | some k' n =>
   simp only [Option.getD_some] at *
   have:=run_sliceBound (P:=P) (w:=w) (k:=k') (y:=m.toNat) (code := .sliceB) (i:=n) h0 (by omega)
   rw [run_bind' (x:=n.toNat) (w':=w) (by simpa using this)]
   rfl
theorem sub_at (nm:Nm) (l:Nat) {b o:Nat} (hb:C.at nm 0 0=⟨b,o,none⟩):(⟨b,o,none⟩:Addr).add (l*C.width nm)=C.at nm l 0:=by
 rw [add_at]
 unfold Ctx.at at_ at *
 simp only [Addr.mk.injEq,and_true] at hb
 obtain ⟨rfl,h2⟩:=hb
 simp only [Addr.mk.injEq,and_true,true_and]
 simp at h2
 omega
theorem addat (nm:Nm) (i j n:Nat):(C.at nm i j).add (n*C.width nm)=C.at nm (i+n) j:=by
 unfold Ctx.at at_
 rw [add_at]
 simp only [Addr.mk.injEq,and_true,true_and]
 rw [Nat.add_mul];omega
theorem addoff (nm:Nm) (i j n:Nat):(C.at nm i j).add n=C.at nm i (j+n):=by
 unfold Ctx.at at_
 rw [add_at]
 simp only [Addr.mk.injEq,and_true,true_and]
 omega
theorem toList_getElem? {α:Type} (l:List α) (n m i:Nat):((l.take m).drop n)[i]?=if n+i<m then l[n+i]? else none:=by
 rw [List.getElem?_drop,List.getElem?_take]
theorem VC.part {mem:Addr→Option Value} {e:List CT} {xs:List AV} {av:Option Addr} {n cap l h:Nat} (hv:VC mem (.sl e) (.sl e xs) (.slice av n cap)) (h1:l≤h) (h2:h≤xs.length) (c2:Nat) (hc2:h - l≤c2)
  (av':Option Addr) (ha':0<h - l→∀ b o,av=some ⟨b,o,none⟩→av'=some ⟨b,o+l*e.length,none⟩):VC mem (.sl e) (.sl e ((xs.take h).drop l)) (.slice av' (h - l) c2):=by
 cases hv with
 | sl e xs a cap U hcap hmax hm ha hx hv =>
  have hlen:((xs.take h).drop l).length=h - l:=by simp;omega
  have key:=VC.sl (mem:=mem) e ((xs.take h).drop l) av' c2 (fun i j=>U (l+i) j) (by omega) (by omega) (fun i j hi hj=>?_) (fun hp=>?_) (fun i x hi=>?_) (fun i x j ct c hi hj hc=>?_)
  ·rw [hlen] at key;exact key
  ·rw [hlen] at hi
   obtain ⟨b,o,rfl,hu⟩:=hm (l+i) j (by omega) hj
   refine ⟨b,o+l*e.length,ha' (by omega) b o rfl,?_⟩
   rw [← hu]
   congr 1
   unfold at_
   simp only [Addr.mk.injEq,and_true,true_and]
   rw [Nat.add_mul];omega
  ·rw [hlen] at hp
   obtain ⟨b,o,rfl⟩:=ha (by omega)
   exact ⟨b,_,ha' hp b o rfl⟩
  ·rw [toList_getElem?] at hi
   split at hi
   ·exact hx _ _ hi
   ·cases hi
  ·rw [toList_getElem?] at hi
   split at hi
   ·exact hv _ _ _ _ _ hi hj hc
   ·cases hi
theorem elemT_spec {t e:TypeId} (h:elemT P t=some e):P.underlying t=some (.slice e)∧∃ d,P.underlying e=some d:=by
 unfold elemT at h
 split at h
 ·rename_i e' he
  split at h
  ·rename_i d hd
   obtain rfl:=Option.some.inj h
   exact ⟨he,d,hd⟩
  ·cases h
 ·cases h
theorem run_slice {t e:TypeId} {av:Option Addr} {n cap:Nat} {lo hi:Option Int} {lo' hi':Option Value} (ht:elemT P t=some e) (hl:BoundR lo lo') (hh:BoundR hi hi')
  (h0:0≤lo.getD 0) (h1:lo.getD 0≤hi.getD n) (h2:hi.getD n≤cap) :
  (Instr.sliceAt t (.slice av n cap) lo' hi' none).run P w = .ok (.slice (if cap=(lo.getD 0).toNat then av else av.map (·.add ((lo.getD 0).toNat*P.cellsOf e))) ((hi.getD n).toNat - (lo.getD 0).toNat) (cap - (lo.getD 0).toNat)) w:=by
 obtain ⟨hu,d,hd⟩:=elemT_spec ht
 unfold Instr.sliceAt
 rw [run_bind' (run_underlying hu)]
 simp only
 unfold Instr.slice
 rw [run_bind' (run_underlying hu)]
 simp only
 rw [run_bind' (run_sliceBounds (isS:=true) hl hh h0 h1 h2)]
 simp only
 rw [run_bind' (run_sizeOf hd)]
 rfl
theorem slice_sound [Glob] {t e:TypeId} {x v:AV} {u:Value} {lo hi:Option Int} {lo' hi':Option Value} (hs:Sim C nt st a w) (hx:VR C x u) (hl:BoundR lo lo') (hh:BoundR hi hi')
  (ht:elemT P t=some e) (h:sliceA st.heap (P.cellsOf e) x lo hi=some (true,v)):∃ r,(Instr.sliceAt t u lo' hi' none).run P w = .ok r w∧VR C v r:=by
 unfold sliceA at h
 split at h
 ·rename_i tys xs
  simp only [Option.some.injEq,Prod.mk.injEq,Bool.and_eq_true,decide_eq_true_eq] at h
  obtain ⟨⟨hw,⟨h0,h1⟩,h2⟩,rfl⟩:=h
  have hw:=Nat.eq_of_beq_eq_true hw
  cases hx with
  | sl _ _ _ hv =>
   obtain ⟨av,cap,rfl,hcap⟩:∃ av cap,u=Value.slice av xs.length cap∧xs.length≤cap:=by cases hv;exact ⟨_,_,rfl,by assumption⟩
   refine ⟨_,run_slice ht hl hh h0 h1 (by omega),.sl _ _ _ (VC.part hv (by omega) (by omega) _ (by omega) _ (fun hp b o hb=>?_))⟩
   rw [if_neg (by omega),hb,← hw]
   simp [add_at]
 ·rename_i nm
  split at h
  ·rename_i b hb
   simp only [Option.some.injEq,Prod.mk.injEq,Bool.and_eq_true,decide_eq_true_eq,Bool.not_eq_true'] at h
   obtain ⟨⟨⟨hbox,hw⟩,⟨h0,h1⟩,h2⟩,rfl⟩:=h
   have hw:=Nat.eq_of_beq_eq_true hw
   have B:=hs.blk nm b hb
   have hlen:=B.len
   have hwid:=B.width hbox
   cases hx with
   | own nm cap hr c1 c2 =>
    rw [hlen] at c1 ⊢
    refine ⟨_,run_slice ht hl hh h0 h1 (by omega),.sub _ _ _ _ _ (by omega) (fun hp=>⟨hr,?_⟩) (.inl ⟨hr,if cap=(lo.getD 0).toNat then 0 else (lo.getD 0).toNat,?_,?_⟩) ?_⟩
    ·rw [if_neg (by omega),← hw,← hwid]
     simp only [Option.map_some,addat,Nat.zero_add]
    ·split
     ·rfl
     ·rw [← hw,← hwid]
      simp only [Option.map_some,addat,Nat.zero_add]
    ·split <;> omega
    ·omega
   | ownNil nm hz =>
    rw [hlen] at hz
    rw [hz] at h1 h2 ⊢
    exact ⟨_,run_slice ht hl hh h0 h1 h2,.sub _ _ _ _ _ (by omega) (fun hp=>by omega) (.inr ⟨by split <;> rfl,by omega⟩) (by omega)⟩
  ·cases h
 ·rename_i nm o n
  split at h
  ·rename_i b hb
   simp only [Option.some.injEq,Prod.mk.injEq,Bool.and_eq_true,decide_eq_true_eq,Bool.not_eq_true'] at h
   obtain ⟨⟨⟨hbox,hw⟩,⟨h0,h1⟩,h2⟩,rfl⟩:=h
   have hw:=Nat.eq_of_beq_eq_true hw
   have B:=hs.blk nm b hb
   have hwid:=B.width hbox
   cases hx with
   | sub nm o n cap av c1 c2 c3 c4 =>
    refine ⟨_,run_slice ht hl hh h0 h1 (by omega),.sub _ _ _ _ _ (by omega) (fun hp=>?_) ?_ (by clear c2 c3;omega)⟩
    ·clear c3
     obtain ⟨hr,rfl⟩:=c2 (by omega)
     refine ⟨hr,?_⟩
     rw [if_neg (by omega),← hw,← hwid]
     simp only [Option.map_some,addat]
    ·rcases c3 with ⟨hr,l,rfl,hl⟩|⟨rfl,hz⟩
     ·refine .inl ⟨hr,if cap=(lo.getD 0).toNat then l else l+(lo.getD 0).toNat,?_,?_⟩
      ·split
       ·rfl
       ·rw [← hw,← hwid]
        simp only [Option.map_some,addat]
      ·split <;> omega
     ·exact .inr ⟨by split <;> rfl,by omega⟩
  ·cases h
 ·simp only [Option.some.injEq,Prod.mk.injEq,Bool.and_eq_true,decide_eq_true_eq] at h
  obtain ⟨⟨⟨h0,h1⟩,h2⟩,rfl⟩:=h
  cases hx
  refine ⟨_,run_slice ht hl hh h0 h1 (by simpa using h2),?_⟩
  have e1:(lo.getD 0).toNat=0:=by omega
  have e2:(hi.getD ((0:Nat):Int)).toNat=0:=by
   have:hi.getD ((0:Nat):Int)=hi.getD 0:=rfl
   omega
  rw [e1,e2]
  exact .snil
 ·cases h
theorem sliceS_sound {t:TypeId} {x v:AV} {u:Value} {lo hi:Option Int} {lo' hi':Option Value} (hx:VR C x u) (hl:BoundR lo lo') (hh:BoundR hi hi')
  (ht:P.underlying t=some .string) (h:sliceS x lo hi=some (true,v)):∃ r,(Instr.sliceAt t u lo' hi' none).run P w = .ok r w∧VR C v r:=by
 unfold sliceS at h
 split at h
 ·rename_i s
  simp only [Option.some.injEq,Prod.mk.injEq,Bool.and_eq_true,decide_eq_true_eq] at h
  obtain ⟨⟨⟨h0,h1⟩,h2⟩,rfl⟩:=h
  cases hx
  refine ⟨.string (s.extract (lo.getD 0).toNat (hi.getD s.size).toNat),?_,.str _⟩
  unfold Instr.sliceAt
  rw [run_bind' (run_underlying ht)]
  simp only
  unfold Instr.slice
  rw [run_bind' (run_underlying ht)]
  simp only
  simp only [Option.isSome_none,Bool.false_eq_true,if_false]
  rw [run_bind' (run_sliceBounds (isS:=false) hl hh h0 h1 h2)]
  rfl
 ·cases h
end
end Go.Proofs.VE
