import Derived.Test.YtcondihilccdpaaDoorVEf
import Derived.Laws.StructEq
import Derived.Laws.BytesString
namespace Go.Proofs.VE
open Go
section
variable {P:Program} {C:Ctx} {nt:Nat} {st:St} {a:Act} {w:World}
theorem map_pair {x:Option AV} {v:AV} (h:x.map (fun v=>(true,v))=some (true,v)):x=some v:=by
 cases x with
 | none=>cases h
 | some y=>simp at h;rw [h]
theorem map_pair' {α:Type} {x:Option α} {f:α→AV} {v:AV} (h:x.map (fun y=>(true,f y))=some (true,v)):∃ y,x=some y∧f y=v:=by
 cases x with
 | none=>cases h
 | some y=>simp at h;exact ⟨y,rfl,h⟩
theorem boundR_of [Glob] (hs:Sim C nt st a w) (lo:Option Operand) (h:lo.map (fun x=>intOf? (opA st.env x)) ≠ some none) :
  BoundR ((lo.map (fun x=>intOf? (opA st.env x))).bind id) (lo.map a.eval):=by
 cases lo with
 | none=>exact .none
 | some x =>
  simp only [Option.map_some,Option.bind_some,id] at h ⊢
  cases hi:intOf? (opA st.env x) with
  | none=>rw [hi] at h;exact absurd rfl h
  | some n =>
   obtain ⟨k,hk⟩:=intOf_sound (opA_sound hs x) hi
   rw [hk]
   exact .some k n
theorem partsR_of [Glob] (hs:Sim C nt st a w):∀ (l:List (Nat × Operand)),PartsR C (l.map fun (i,x)=>(i,opA st.env x)) (l.map fun (i,x)=>(i,a.eval x))
 | [] => .nil
 | (i,x) :: r => .cons i _ _ _ _ (opA_sound hs x) (partsR_of hs r)
theorem run_len {t:TypeId} {ts:Array TypeId} {ty:TypeId} {u:Value} {n:Nat} (ht0:ts[0]?=some t)
  (ht:(∃ e av c,P.underlying t=some (.slice e)∧u = .slice av n c)∨∃ s:ByteArray,P.underlying t=some .string∧u = .string s∧n=s.size) :
  (Builtin.len_ ts ty #[u]).run P w = .ok (.int .i64 n) w:=by
 have e:(#[u])[0]?=some u:=rfl
 unfold Builtin.len_
 rcases ht with ⟨e',av,c,he,rfl⟩|⟨s,hs,rfl,rfl⟩
 ·simp only [ht0,e]
  rw [run_bind' (run_underlying he)]
  rfl
 ·simp only [ht0,e]
  rw [run_bind' (run_underlying hs)]
  rfl
theorem len_sound [Glob] {x:AV} {u:Value} {n:Nat} (hs:Sim C nt st a w) (hx:VR C x u) (h:lenA st.heap x=some n):∃ av c,u = .slice av n c:=by
 unfold lenA at h
 split at h
 ·rename_i nm
  split at h
  ·rename_i b hb
   have B:=hs.blk nm b hb
   cases hbox:b.box with
   | true=>rw [hbox] at h;simp at h
   | false =>
    rw [hbox] at h
    simp only [cond_false,Option.some.injEq] at h
    have:=B.len
    cases hx with
    | own _ cap _ _ _=>rw [this,h];exact ⟨_,_,rfl⟩
    | ownNil _ hz =>
             rw [this] at hz;obtain rfl:n=0:=by omega
             exact ⟨_,_,rfl⟩
  ·cases h
 ·obtain rfl:=Option.some.inj h
  cases hx;exact ⟨_,_,rfl⟩
 ·obtain rfl:=Option.some.inj h
  cases hx with
  | sl _ _ _ hv=>cases hv;exact ⟨_,_,rfl⟩
 ·obtain rfl:=Option.some.inj h
  cases hx;exact ⟨_,_,rfl⟩
 ·obtain rfl:=Option.some.inj h
  cases hx;exact ⟨_,_,rfl⟩
 ·cases h
theorem eqC_sound {t:TypeId} {x y:AV} {u u':Value} {b:Bool} (d:Nat) (hx:VR C x u) (hy:VR C y u') (h:eqC P t x y=some b):(Op.equalIn (d+1) t u u').run P w = .ok b w:=by
 unfold eqC at h
 split at h
 ·rename_i k k' a j c ht
  cases hk:kEq k' j with
  | false=>rw [hk] at h;simp at h
  | true =>
   rw [hk] at h
   simp only [cond_true,Option.some.injEq] at h
   subst h
   obtain rfl:=(kEq_iff _ _).1 hk
   cases hx;cases hy
   rw [run_equalIn_int w d t _ _ a c ht]
   congr 1
 ·rename_i a c ht
  obtain rfl:=Option.some.inj h
  cases hx;cases hy
  exact run_equalIn_bool' w d t a c ht
 ·rename_i a c ht
  obtain rfl:=Option.some.inj h
  cases hx;cases hy
  rw [run_equalIn_string w d t a c ht,beq_toListBytes]
 ·cases h
theorem eqFs_sound {xs ys:List AV} {us vs:List Value} (d:Nat) (h1:xs.length=us.length) (h2:∀ (i:Nat) (c:AV) (v:Value),xs[i]?=some c→us[i]?=some v→VR C c v) (h3:∀ v,v ∈ us→v.oneCell'=true)
  (k1:ys.length=vs.length) (k2:∀ (i:Nat) (c:AV) (v:Value),ys[i]?=some c→vs[i]?=some v→VR C c v) (k3:∀ v,v ∈ vs→v.oneCell'=true) :
  ∀ {fs:List Field} {b:Bool},eqFs P xs ys fs=some b→(Op.eqFields (d+1) us.toArray vs.toArray fs).run P w = .ok b w
 | [],b,h=>by
  simp only [eqFs,Option.some.injEq] at h
  subst h
  rfl
 | f :: fs,b,h=>by
  simp only [eqFs] at h
  cases hn:f.name == "_" with
  | true=>rw [hn] at h;simp at h
  | false =>
   rw [hn] at h
   simp only [cond_false] at h
   split at h
   ·rename_i x y q e1 e2 e3
    split at h
    ·rename_i p e4
     obtain rfl:=Option.some.inj h
     obtain ⟨u,g1,g2⟩:=part_sound (P:=P) (w:=w) h1 h2 h3 e1
     obtain ⟨v,g3,g4⟩:=part_sound (P:=P) (w:=w) k1 k2 k3 e2
     have ih:=eqFs_sound d h1 h2 h3 k1 k2 k3 e3
     have hn':f.name ≠ "_" := by simpa using hn
     simp only [Op.eqFields]
     rw [if_pos hn']
     rw [run_bind' g1,run_bind' g3,run_bind' (eqC_sound d g2 g4 e4)]
     cases p with
     | true=>simpa using ih
     | false=>rfl
    ·cases h
   ·cases h
theorem eqS_sound {t:TypeId} {xs ys:List AV} {u u':Value} {b:Bool} {op:BinOp} {xo yo:Operand} (hx:VR C (.agg xs) u) (hy:VR C (.agg ys) u') (h:eqS P t xs ys=some b) :
  (op = .eql→(do eqGuard op t xo yo u u';binOp op t u u':Sem Value).run P w = .ok (.bool b) w)∧(op = .neq→(do eqGuard op t xo yo u u';binOp op t u u':Sem Value).run P w = .ok (.bool (!b)) w):=by
 unfold eqS at h
 split at h
 ·rename_i fs ht
  cases hc : !P.eqGuardType P.depth t && !P.stoodInHeld t with
  | false=>rw [hc] at h;simp at h
  | true =>
   rw [hc] at h
   simp only [Bool.and_eq_true,Bool.not_eq_true'] at hc
   simp only [cond_true] at h
   obtain ⟨us,rfl,h1,h2,h3⟩:=hx.agg_inv
   obtain ⟨vs,rfl,k1,k2,k3⟩:=hy.agg_inv
   have hf:P.fieldsOf t=fs:=by simp [Program.fieldsOf,ht]
   have e:(Op.equalIn 10000 t (.agg us.toArray) (.agg vs.toArray)).run P w = .ok b w:=by
    rw [show (10000:Nat)=9998+1+1 from rfl,run_equalIn_struct w (9998+1) t us.toArray vs.toArray (by rw [hf];exact ht) hc.2,hf]
    exact eqFs_sound 9998 h1 h2 h3 k1 k2 k3 h
   constructor
   ·rintro rfl
    rw [run_bind' (run_eqGuard_agg w .eql t xo yo us.toArray vs.toArray hc.1),run_eql_struct,e]
    rfl
   ·rintro rfl
    rw [run_bind' (run_eqGuard_agg w .neq t xo yo us.toArray vs.toArray hc.1),run_neq_struct,e]
    rfl
 ·cases h
theorem nilS_sound {t:TypeId} {x:AV} {u:Value} {b:Bool} {op:BinOp} {xo yo:Operand} (hx:VR C x u) (h:nilS P t x=some (true,b)) :
  (op = .eql→(do eqGuard op t xo yo u (.slice none 0 0);binOp op t u (.slice none 0 0):Sem Value).run P w = .ok (.bool b) w)∧(op = .neq→(do eqGuard op t xo yo u (.slice none 0 0);binOp op t u (.slice none 0 0):Sem Value).run P w = .ok (.bool (!b)) w):=by
 unfold nilS at h
 split at h
 ·rename_i e ht
  have key:∀ (ad:Option Addr) (n cap:Nat),u = .slice ad n cap→ad.isNone=b →
    (op = .eql→(do eqGuard op t xo yo u (.slice none 0 0);binOp op t u (.slice none 0 0):Sem Value).run P w = .ok (.bool b) w)∧(op = .neq→(do eqGuard op t xo yo u (.slice none 0 0);binOp op t u (.slice none 0 0):Sem Value).run P w = .ok (.bool (!b)) w):=by
   intro ad n cap hu hb
   subst hu
   have e:(Op.equal t (.slice ad n cap) (.slice none 0 0)).run P w = .ok b w:=by
    unfold Op.equal
    rw [show Op.maxDepth=9999+1 from rfl]
    unfold Op.equalIn
    rw [run_bind' (run_underlying ht)]
    cases ad <;> (subst hb;rfl)
   constructor
   ·rintro rfl
    have g:(eqGuard .eql t xo yo (.slice ad n cap) (.slice none 0 0)).run P w = .ok () w:=by simp [eqGuard]
    rw [run_bind' g]
    show (do pure (Value.bool (← Op.equal t (.slice ad n cap) (.slice none 0 0))):Sem Value).run P w=_
    rw [run_bind' e]
    rfl
   ·rintro rfl
    have g:(eqGuard .neq t xo yo (.slice ad n cap) (.slice none 0 0)).run P w = .ok () w:=by simp [eqGuard]
    rw [run_bind' g]
    show (do pure (Value.bool (!(← Op.equal t (.slice ad n cap) (.slice none 0 0)))):Sem Value).run P w=_
    rw [run_bind' e]
    rfl
  split at h
  ·simp only [Option.some.injEq,Prod.mk.injEq,true_and] at h
   subst h
   cases hx
   exact key _ _ _ rfl rfl
  ·simp only [Option.some.injEq,Prod.mk.injEq,true_and] at h
   subst h
   cases hx with
   | sle _ _ ad cap hb=>exact key _ _ _ rfl hb
  ·simp only [Option.some.injEq,Prod.mk.injEq,decide_eq_true_eq] at h
   obtain ⟨h0,rfl⟩:=h
   cases hx with
   | sl _ _ _ hv =>
    cases hv with
    | sl _ _ a cap U _ _ _ ha =>
     obtain ⟨bb,o,rfl⟩:=ha h0
     exact key _ _ _ rfl rfl
  ·cases h
 ·cases h
theorem binX_sound {op:BinOp} {t:TypeId} {xo yo:Operand} {x y v:AV} {u u':Value} (hx:VR C x u) (hy:VR C y u') (h:binX P op t x y=some (true,v)) :
  ∃ r,(do eqGuard op t xo yo u u';binOp op t u u':Sem Value).run P w = .ok r w∧VR C v r:=by
 unfold binX at h
 split at h
 ·obtain ⟨b,h1,h2⟩:=Option.map_eq_some_iff.1 h
  simp only [Prod.mk.injEq,true_and] at h2
  subst h2
  exact ⟨_,(eqS_sound hx hy h1).1 rfl,.bool b⟩
 ·obtain ⟨b,h1,h2⟩:=Option.map_eq_some_iff.1 h
  simp only [Prod.mk.injEq,true_and] at h2
  subst h2
  exact ⟨_,(eqS_sound hx hy h1).2 rfl,.bool _⟩
 ·obtain ⟨⟨g,b⟩,h1,h2⟩:=Option.map_eq_some_iff.1 h
  simp only [Prod.mk.injEq] at h2
  obtain ⟨rfl,rfl⟩:=h2
  cases hy
  exact ⟨_,(nilS_sound hx h1).1 rfl,.bool b⟩
 ·obtain ⟨⟨g,b⟩,h1,h2⟩:=Option.map_eq_some_iff.1 h
  simp only [Prod.mk.injEq] at h2
  obtain ⟨rfl,rfl⟩:=h2
  cases hy
  exact ⟨_,(nilS_sound hx h1).2 rfl,.bool _⟩
 ·exact bin_sound hx hy h
theorem foldMin_sound:∀ (l:List AV) (us:List Value) (n m:Int),l.length=us.length→(∀ (i:Nat) (c:AV) (u:Value),l[i]?=some c→us[i]?=some u→VR C c u)→foldMin n l=some m →
  (us.foldlM Builtin.min2 (.int .i64 n)).run P w = .ok (.int .i64 m) w
 | [],us,n,m,hl,_,h=>by
  cases us with
  | nil=>simp only [foldMin,Option.some.injEq] at h;subst h;rfl
  | cons u us=>simp at hl
 | c :: l,us,n,m,hl,hv,h=>by
  cases us with
  | nil=>simp at hl
  | cons u us =>
   have hc:=hv 0 c u rfl rfl
   cases c <;> try (simp [foldMin] at h;done)
   rename_i k z
   cases k <;> try (simp [foldMin] at h;done)
   cases hc
   simp only [foldMin] at h
   simp only [List.foldlM_cons]
   rw [run_bind' (x := .int .i64 (if z<n then z else n)) (w':=w) rfl]
   exact foldMin_sound l us _ m (by simpa using hl) (fun i c u h1 h2=>hv (i+1) c u (by simpa using h1) (by simpa using h2)) h
theorem foldMax_sound:∀ (l:List AV) (us:List Value) (n m:Int),l.length=us.length→(∀ (i:Nat) (c:AV) (u:Value),l[i]?=some c→us[i]?=some u→VR C c u)→foldMax n l=some m →
  (us.foldlM Builtin.max2 (.int .i64 n)).run P w = .ok (.int .i64 m) w
 | [],us,n,m,hl,_,h=>by
  cases us with
  | nil=>simp only [foldMax,Option.some.injEq] at h;subst h;rfl
  | cons u us=>simp at hl
 | c :: l,us,n,m,hl,hv,h=>by
  cases us with
  | nil=>simp at hl
  | cons u us =>
   have hc:=hv 0 c u rfl rfl
   cases c <;> try (simp [foldMax] at h;done)
   rename_i k z
   cases k <;> try (simp [foldMax] at h;done)
   cases hc
   simp only [foldMax] at h
   simp only [List.foldlM_cons]
   rw [run_bind' (x := .int .i64 (if z > n then z else n)) (w':=w) rfl]
   exact foldMax_sound l us _ m (by simpa using hl) (fun i c u h1 h2=>hv (i+1) c u (by simpa using h1) (by simpa using h2)) h
theorem ops_VR [Glob] (hs:Sim C nt st a w) (l:List Operand):∀ (i:Nat) (c:AV) (u:Value),(l.map (opA st.env))[i]?=some c→(l.map a.eval)[i]?=some u→VR C c u:=by
 intro i c u h1 h2
 rw [List.getElem?_map] at h1 h2
 cases hl:l[i]? with
 | none=>simp [hl] at h1
 | some x =>
  simp only [hl,Option.map_some,Option.some.injEq] at h1 h2
  rw [← h1,← h2]
  exact opA_sound hs x
theorem run_builtin {o:Oper} {b:Builtin} {args:Array Operand} {argTypes:Array TypeId} {u:Value} {s:Sem Value} (ho:o.op = .call { callee := .builtin b,args,argTypes })
  (hb:∀ cs,builtin b argTypes o.type cs (args.map a.eval)=(do pure (Next.value (← s)))) (h:s.run P w = .ok u w) :
  (execOp a.eval o).run P w = .ok (.value u) w:=by
 unfold execOp
 simp only [ho]
 unfold resolve
 simp only [pure_bind]
 unfold invoke
 exact (congrArg (fun s=>Sem.run P s w) (hb _)).trans (run_v h)
theorem val_sound [Glob] {o:Oper} {v:AV} (hs:Sim C nt st a w) (h:valA P st o.op=some (true,v)):∃ u,(execOp a.eval o).run P w = .ok (.value u) w∧VR C v u:=by
 obtain ⟨dst,op,type,pos,after,guard⟩:=o
 simp only at h
 cases op with
 | move x=>simp only [valA,Option.some.injEq,Prod.mk.injEq,true_and] at h;subst h;exact ⟨_,rfl,opA_sound hs x⟩
 | assign x=>simp only [valA,Option.some.injEq,Prod.mk.injEq,true_and] at h;subst h;exact ⟨_,rfl,opA_sound hs x⟩
 | pick c x y =>
  simp only [valA] at h
  split at h
  ·rename_i b hb
   simp only [Option.some.injEq,Prod.mk.injEq,true_and] at h
   subst h
   have hc:=opA_sound hs c
   rw [hb] at hc
   refine ⟨if b then a.eval x else a.eval y,?_,pick_sound (opA_sound hs x) (opA_sound hs y)⟩
   generalize ha:a.eval c=u at hc
   cases hc
   simp only [execOp,ha]
   rfl
  ·cases h
 | load t x =>
  simp only [valA] at h
  have hx:=opA_sound hs x
  split at h
  ·rename_i nm i off hp
   rw [hp] at hx
   split at h
   ·rename_i b hb
    have h:=map_pair h
    generalize ha:a.eval x=u at hx
    cases hx with
    | ptr _ _ _ hr hi =>
     obtain ⟨r,h1,h2⟩:=load_sound hs hb h hi
     refine ⟨r,?_,h2⟩
     simp only [execOp,ha]
     exact run_v (by unfold Instr.loadAt;rw [run_bind' (x:=C.at nm i off) (w':=w) rfl];exact h1)
   ·cases h
  ·rename_i tys y off hp
   rw [hp] at hx
   have h:=map_pair h
   generalize ha:a.eval x=u at hx
   cases hx with
   | rptr _ _ _ b o U hm hx hv =>
    obtain ⟨r,h1,h2⟩:=rload_sound hs hm hx hv h
    refine ⟨r,?_,h2⟩
    simp only [execOp,ha]
    exact run_v (by unfold Instr.loadAt;rw [run_bind' (x:=⟨b,o+off,none⟩) (w':=w) rfl];exact h1)
  ·cases h
 | nilCheck x =>
  simp only [valA] at h
  have hx:=opA_sound hs x
  split at h
  all_goals first|(cases h;done)|skip
  all_goals
   rename_i hp
   rw [hp] at hx
   simp only [Option.some.injEq,Prod.mk.injEq,true_and] at h
   subst h
   refine ⟨a.eval x,?_,hx⟩
   generalize ha:a.eval x=u at hx
   cases hx
   simp only [execOp,ha]
   rfl
 | binOp op t x y yt =>
  simp only [valA] at h
  obtain ⟨r,h1,h2⟩:=binX_sound (P:=P) (w:=w) (xo:=x) (yo:=y) (opA_sound hs x) (opA_sound hs y) h
  exact ⟨r,by simp only [execOp];exact run_v h1,h2⟩
 | unOp op t x =>
  simp only [valA] at h
  split at h
  ·rename_i v' hv'
   have h:=map_pair h
   obtain ⟨r,h1,h2⟩:=Option.bind_eq_some_iff.1 h
   have e:=toV_sound (opA_sound hs x) hv'
   refine ⟨r,?_,ofV_sound h2⟩
   simp only [execOp,e]
   exact run_v (runP_sound h1 w)
  ·cases h
 | convert s d x =>
  simp only [valA] at h
  have hx:=opA_sound hs x
  split at h
  ·rename_i k n hp
   rw [hp] at hx
   have h:=map_pair h
   obtain ⟨r,h1,h2⟩:=Option.bind_eq_some_iff.1 h
   generalize ha:a.eval x=u at hx
   cases hx
   refine ⟨r,?_,ofV_sound h2⟩
   simp only [execOp,ha]
   exact run_v (runP_sound h1 w)
  ·rename_i nm hp
   rw [hp] at hx
   split at h
   ·rename_i b he hd hb
    cases hg : !b.box && ctsEq b.tys [.int .u8] with
    | false=>rw [hg] at h;cases h
    | true =>
     rw [hg] at h
     simp only [cond_true,Option.some.injEq,Prod.mk.injEq,true_and] at h
     subst h
     simp only [Bool.and_eq_true,Bool.not_eq_true'] at hg
     obtain ⟨gb,gt⟩:=hg
     have gt:=ctsEq_eq _ _ gt
     obtain ⟨e,he1,he2⟩:=Option.bind_eq_some_iff.1 he
     have hs1:P.underlying s=some (.slice e):=by
      unfold elemT at he1
      split at he1
      ·rename_i e' hu
       split at he1
       ·obtain rfl:=Option.some.inj he1
        exact hu
       ·cases he1
      ·cases he1
     have B:=hs.blk nm b hb
     have hw1:C.width nm=1:=by rw [B.width gb,gt];rfl
     generalize ha:a.eval x=u at hx
     refine ⟨.string (bytesA b.xs),?_,.str _⟩
     simp only [execOp,ha]
     refine run_v ?_
     cases hx with
     | ownNil _ hz =>
      rw [run_convert_bytes_string w s d e none 0 0 hs1 he2 hd]
      have:b.xs=[]:=List.eq_nil_of_length_eq_zero (by rw [← B.len];exact hz)
      rw [this]
      rfl
     | own _ cap hr h1 h2 =>
      rw [run_convert_bytes_string w s d e _ _ _ hs1 he2 hd,B.len]
      have hcs:∀ j v,((b.xs.map fun x=>fI x 0).map (Value.int .u8))[j]?=some v→w.cell? ((C.at nm 0 0).add j)=some v:=fun j v hj=>by
       rw [List.getElem?_map,List.getElem?_map] at hj
       cases hx:b.xs[j]? with
       | none=>rw [hx] at hj;cases hj
       | some y =>
        rw [hx] at hj
        obtain rfl:=Option.some.inj hj
        obtain ⟨g1,g2⟩:=B.cells j y hx
        rw [hw1] at g1
        obtain ⟨u,g3,g4,g5⟩:=g2 0 y.cells[0] (List.getElem?_eq_getElem (by omega))
        simp only [gb,Bool.false_eq_true,if_false] at g5
        obtain ⟨ct,g6,g7⟩:=g5
        rw [gt] at g6
        obtain rfl:CT.int .u8=ct:=Option.some.inj g6
        unfold Ctx.at at_ at g3 ⊢
        rw [add_at]
        simp only [hw1,Nat.add_zero,Nat.mul_one] at g3 ⊢
        rw [g3]
        unfold fI
        rw [List.getElem?_eq_getElem (by omega)]
        generalize y.cells[0]=c at g7
        cases g7
        rfl
      have hl:=run_loadCells_list (P:=P) w (C.at nm 0 0) _ hcs
      rw [List.length_map,List.length_map] at hl
      rw [run_bytesToString w (C.at nm 0 0) b.xs.length cap (b.xs.map fun x=>fI x 0) hl]
      unfold bytesA
      rw [List.foldl_map]
   ·cases h
  ·cases h
 | makeFunc fn first caps =>
  cases fn with
  | func f =>
   simp only [valA] at h
   cases he:first.isEmpty with
   | false=>rw [he] at h;simp at h
   | true =>
    rw [he] at h
    simp only [cond_true,Option.some.injEq,Prod.mk.injEq,true_and] at h
    subst h
    refine ⟨.func (.func f) #[] (caps.toList.map a.eval).toArray,?_,.fn f _ _ (by simp) (ops_VR hs _)⟩
    simp only [execOp]
    have:first=#[]:=by simpa using he
    subst this
    refine run_v ?_
    have e:(caps.toList.map a.eval).toArray=caps.map a.eval:=by apply Array.ext';simp
    have e2:(#[]:Array Operand).map a.eval=#[]:=by simp
    rw [e,e2]
    rfl
  | _=>simp [valA] at h
 | slice t x lo hi mx =>
  simp only [valA] at h
  have hx:=opA_sound hs x
  split at h
  ·cases h
  ·cases h
  ·cases h
  ·rename_i h1 h2
   have b1:=boundR_of hs lo (fun e=>h1 e)
   have b2:=boundR_of hs hi (fun e=>h2 e)
   split at h
   ·rename_i e he
    obtain ⟨r,h3,h4⟩:=slice_sound hs hx b1 b2 he h
    refine ⟨r,?_,h4⟩
    simp only [execOp]
    exact run_v h3
   ·split at h
    ·rename_i ht
     obtain ⟨r,h3,h4⟩:=sliceS_sound (P:=P) (w:=w) hx b1 b2 ht h
     refine ⟨r,?_,h4⟩
     simp only [execOp]
     exact run_v h3
    ·cases h
 | fieldAddr s x f =>
  simp only [valA] at h
  have hx:=opA_sound hs x
  split at h
  ·rename_i fd hfd
   cases hc:Nat.beq (P.cellsOf fd.type) 0 with
   | true=>rw [hc] at h;simp at h
   | false =>
    rw [hc] at h
    simp only [cond_false] at h
    have hc:=Nat.ne_of_beq_eq_false hc
    split at h
    ·rename_i nm i off hp
     rw [hp] at hx
     simp only [Option.some.injEq,Prod.mk.injEq,true_and] at h
     subst h
     generalize ha:a.eval x=u at hx
     cases hx with
     | ptr _ _ _ hr hi =>
      refine ⟨.pointer (some (C.at nm i (off+fd.offset))),?_,.ptr _ _ _ hr hi⟩
      simp only [execOp,ha]
      refine run_v ?_
      rw [run_fieldAt hfd hc,addoff]
    ·rename_i tys y off hp
     rw [hp] at hx
     simp only [Option.some.injEq,Prod.mk.injEq,true_and] at h
     subst h
     generalize ha:a.eval x=u at hx
     cases hx with
     | rptr _ _ _ b o U hm hx hv =>
      refine ⟨.pointer (some ⟨b,o+(off+fd.offset),none⟩),?_,.rptr _ _ _ b o U hm hx hv⟩
      simp only [execOp,ha]
      refine run_v ?_
      rw [run_fieldAt hfd hc,add_at,Nat.add_assoc]
    ·cases h
  ·cases h
 | field t x f =>
  simp only [valA] at h
  have hx:=opA_sound hs x
  split at h
  ·rename_i fd hfd
   split at h
   ·rename_i cs hp
    rw [hp] at hx
    have h:=map_pair h
    obtain ⟨vs,ha,h1,h2,h3⟩:=hx.agg_inv
    obtain ⟨r,h4,h5⟩:=part_sound (P:=P) (w:=w) h1 h2 h3 h
    refine ⟨r,?_,h5⟩
    simp only [execOp,ha]
    exact run_v (run_field hfd h4)
   ·cases h
  ·cases h
 | indexAddr t x i =>
  simp only [valA] at h
  split at h
  ·rename_i n hn
   obtain ⟨k,hk⟩:=intOf_sound (opA_sound hs i) hn
   obtain ⟨r,h1,h2⟩:=indexAddr_sound (k:=k) hs (opA_sound hs x) h
   refine ⟨r,?_,h2⟩
   simp only [execOp,hk]
   exact run_v h1
  ·cases h
 | index t x i =>
  simp only [valA] at h
  have hx:=opA_sound hs x
  split at h
  ·rename_i s n ht hp hn
   rw [hp] at hx
   obtain ⟨k,hk⟩:=intOf_sound (opA_sound hs i) hn
   simp only [Option.some.injEq,Prod.mk.injEq,Bool.and_eq_true,decide_eq_true_eq] at h
   obtain ⟨⟨h0,h1⟩,rfl⟩:=h
   generalize ha:a.eval x=u at hx
   cases hx
   refine ⟨_,?_,.int _ _⟩
   simp only [execOp,hk,ha]
   exact run_v (run_index_str ht h0 h1)
  ·rename_i m e cs n ht hp hn
   rw [hp] at hx
   obtain ⟨k,hk⟩:=intOf_sound (opA_sound hs i) hn
   cases hpa:partA P e (.agg cs) (n.toNat*P.cellsOf e) with
   | none=>rw [hpa] at h;cases h
   | some v' =>
    rw [hpa] at h
    simp only [Option.map_some,Option.some.injEq,Prod.mk.injEq,Bool.and_eq_true,decide_eq_true_eq] at h
    obtain ⟨⟨h0,h1⟩,rfl⟩:=h
    obtain ⟨vs,ha,g1,g2,g3⟩:=hx.agg_inv
    obtain ⟨r,h4,h5⟩:=part_sound (P:=P) (w:=w) g1 g2 g3 hpa
    refine ⟨r,?_,h5⟩
    simp only [execOp,hk,ha]
    exact run_v (run_index_arr ht (partA_size hpa) h0 h1 h4)
  ·cases h
 | extract x k =>
  simp only [valA] at h
  have hx:=opA_sound hs x
  split at h
  ·rename_i vs hp
   rw [hp] at hx
   have h:=map_pair h
   generalize ha:a.eval x=u at hx
   cases hx with
   | tup _ us h1 h2 =>
    have hlt:k<vs.length:=(List.getElem?_eq_some_iff.1 h).1
    have hu:us[k]?=some (us[k]'(by omega)):=List.getElem?_eq_getElem (by omega)
    refine ⟨us[k]'(by omega),?_,h2 k _ _ h hu⟩
    simp only [execOp,ha]
    refine run_v ?_
    unfold Instr.extract
    have:us.toArray[k]?=some (us[k]'(by omega)):=by simp
    simp only [this]
    rfl
  ·cases h
 | build t parts =>
  simp only [valA] at h
  split at h
  ·rename_i fs z hu hz
   cases hc:okV z && fs.toList.all (fun f=>(P.info? f.type).isSome) with
   | false=>rw [hc] at h;simp at h
   | true =>
    rw [hc] at h
    simp only [Bool.and_eq_true] at hc
    simp only [cond_true] at h
    obtain ⟨r,h1,rfl⟩:=map_pair' h
    obtain ⟨u,h2,h3⟩:=build_sound (w:=w) (l':=parts.map fun (i,x)=>(i,a.eval x)) hu hz hc.1 hc.2 (by rw [Array.toList_map];exact partsR_of hs parts.toList) h1
    refine ⟨u,?_,h3⟩
    simp only [execOp]
    exact run_v h2
  ·rename_i n e z hu hz
   cases hc:okV z && (P.info? e).isSome with
   | false=>rw [hc] at h;simp at h
   | true =>
    rw [hc] at h
    simp only [Bool.and_eq_true] at hc
    simp only [cond_true] at h
    obtain ⟨r,h1,rfl⟩:=map_pair' h
    obtain ⟨u,h2,h3⟩:=build_soundA (w:=w) (l':=parts.map fun (i,x)=>(i,a.eval x)) hu hz hc.1 hc.2 (by rw [Array.toList_map];exact partsR_of hs parts.toList) h1
    refine ⟨u,?_,h3⟩
    simp only [execOp]
    exact run_v h2
  ·cases h
 | call c =>
  obtain ⟨callee,args,argTypes⟩:=c
  cases callee with
  | builtin b =>
   cases b <;> try (simp [valA] at h;done)
   case len =>
    simp only [valA] at h
    split at h
    ·rename_i x e hargs ht
     obtain ⟨n,hn,rfl⟩:=map_pair' h
     obtain ⟨av,c,hu⟩:=len_sound hs (opA_sound hs x) hn
     obtain ⟨t,ht0,ht⟩:=Option.bind_eq_some_iff.1 ht
     have ea:args.map a.eval=#[a.eval x]:=by apply Array.ext';simp [hargs]
     exact ⟨_,run_builtin (o:=⟨dst,_,type,pos,after,guard⟩) rfl (fun _=>by rw [ea];rfl) (run_len ht0 (.inl ⟨e,av,c,ht,hu⟩)),.int _ _⟩
    ·rename_i x hargs ht
     split at h
     ·rename_i s hp
      simp only [Option.some.injEq,Prod.mk.injEq,true_and] at h
      subst h
      obtain ⟨t,ht0,ht⟩:=Option.bind_eq_some_iff.1 ht
      have hx:=opA_sound hs x
      rw [hp] at hx
      generalize hu:a.eval x=u at hx
      cases hx
      have ea:args.map a.eval=#[a.eval x]:=by apply Array.ext';simp [hargs]
      exact ⟨_,run_builtin (o:=⟨dst,_,type,pos,after,guard⟩) rfl (fun _=>by rw [ea];rfl) (run_len ht0 (.inr ⟨s,ht,hu,rfl⟩)),.int _ _⟩
     ·cases h
    ·cases h
   case min =>
    simp only [valA] at h
    split at h
    ·rename_i n r hargs
     obtain ⟨m,hm,rfl⟩:=map_pair' h
     cases hl:args.toList with
     | nil=>rw [hl] at hargs;simp at hargs
     | cons x xs =>
      rw [hl] at hargs
      simp only [List.map_cons,List.cons.injEq] at hargs
      have hx:=opA_sound hs x
      rw [hargs.1] at hx
      generalize hu:a.eval x=u at hx
      cases hx
      have ea:(args.map a.eval).toList = .int .i64 n :: xs.map a.eval:=by simp [hl,hu]
      refine ⟨_,run_builtin (o:=⟨dst,_,type,pos,after,guard⟩) (s:=Builtin.min_ argTypes type (args.map a.eval)) rfl (fun _=>rfl) ?_,.int _ _⟩
      unfold Builtin.min_
      rw [ea]
      exact foldMin_sound r _ n m (by rw [← hargs.2];simp) (by rw [← hargs.2];exact ops_VR hs xs) hm
    ·cases h
   case max =>
    simp only [valA] at h
    split at h
    ·rename_i n r hargs
     obtain ⟨m,hm,rfl⟩:=map_pair' h
     cases hl:args.toList with
     | nil=>rw [hl] at hargs;simp at hargs
     | cons x xs =>
      rw [hl] at hargs
      simp only [List.map_cons,List.cons.injEq] at hargs
      have hx:=opA_sound hs x
      rw [hargs.1] at hx
      generalize hu:a.eval x=u at hx
      cases hx
      have ea:(args.map a.eval).toList = .int .i64 n :: xs.map a.eval:=by simp [hl,hu]
      refine ⟨_,run_builtin (o:=⟨dst,_,type,pos,after,guard⟩) (s:=Builtin.max_ argTypes type (args.map a.eval)) rfl (fun _=>rfl) ?_,.int _ _⟩
      unfold Builtin.max_
      rw [ea]
      exact foldMax_sound r _ n m (by rw [← hargs.2];simp) (by rw [← hargs.2];exact ops_VR hs xs) hm
    ·cases h
  | _=>simp [valA] at h
 | _=>simp [valA] at h
end
end Go.Proofs.VE
