import Derived.Test.YtcondihilccdpaaDoorVEnj
namespace Go.Proofs.VE
open Go
section
variable {P:Program} {C C':Ctx} {nt:Nat} {st:St} {a:Act} {w w':World} {heap:List (Nm × Blk)}
theorem Eff.wp [Glob] {π:Nm} {o:Oper} {st':St} {next:Act→World→Prop} {Q:Exit→Act→World→Prop} (h:Eff P π C nt o a w st')
  (hk:∀ C' a' w',Sim C' nt st' a' w'→Agree (isLoc π) C C'→next a' w'):o.wp P a w next Q:=by
 obtain ⟨C',n,u,w',h1,h2,h3,h4⟩:=h
 unfold Oper.wp
 rw [h1]
 rcases h2 with rfl|⟨rfl,rfl⟩
 ·exact hk C' _ w' h4 h3
 ·exact hk C' _ w' h4 h3
theorem addH_eq:∀ (l heap:List (Nm × Blk)),(∀ x ∈ l,getH heap x.1=none)→(l.map (·.1)).Nodup →
  addH heap l=some ((l.map fun x=>(x.1,some x.2)).foldl (fun h (x:Nm × Option Blk)=>match x.2 with|some b=>setH h x.1 b|none=>delH h x.1) heap)
 | [],_,_,_=>rfl
 | (m,b) :: r,heap,h,hn=>by
  rw [List.map_cons,List.nodup_cons] at hn
  unfold addH
  rw [h (m,b) List.mem_cons_self]
  simp only [List.map_cons,List.foldl_cons]
  refine addH_eq r _ (fun x hx=>?_) hn.2
  rw [getH_setH,if_neg (fun e=>hn.1 (List.mem_map.2 ⟨x,hx,e.symm⟩))]
  exact h x (List.mem_cons_of_mem _ hx)
theorem effW_sound [Glob] {cf:Cfg} {π:Nm} {o:Oper} {wr:Wr} {next:Act→World→Prop} {Q:Exit→Act→World→Prop} (hP:cf.P=P) (hF:FOK P cf)
  (hd:∀ d,o.dst=some d→d<nt) (hs:Sim C nt st a w) (h:effW cf π st o=some (true,wr))
  (hk:∀ C' a' w',Sim C' nt (wr.on st) a' w'→Agree (isLoc π) C C'→next a' w'):o.wp P a w next Q:=by
 subst hP
 unfold effW at h
 split at h
 ·
  rename_i t d hop ho
  split at h
  ·rename_i z hz
   cases hc:okV z && cleanS (d :: π) st with
   | false=>rw [hc] at h;simp at h
   | true =>
    rw [hc] at h
    rw [Bool.and_eq_true] at hc
    simp only [cond_true,Option.some.injEq,Prod.mk.injEq,true_and] at h
    subst h
    exact (alloc_eff (hd d ho) ho hop hs hz hc.1 hc.2).wp hk
  ·cases h
 ·
  rename_i t x d hop ho
  cases hc:okV (opA st.env x) && cleanS (d :: π) st with
  | false=>rw [hc] at h;simp at h
  | true =>
   rw [hc] at h
   rw [Bool.and_eq_true] at hc
   simp only [cond_true,Option.some.injEq,Prod.mk.injEq,true_and] at h
   subst h
   exact (box_eff (hd d ho) ho hop hs hc.1 hc.2).wp hk
 ·
  rename_i t n parts d hop ho
  split at h
  ·rename_i e he
   split at h
   ·rename_i xs ns hfr
    revert h
    generalize hc:(cleanS (d :: π) st && Nat.beq parts.size n && Nat.ble n 16777216 && (parts.toList.map (·.1) == List.range n) && Nat.ble (n*cf.P.cellsOf e) 16777216 && Nat.beq (ctsT cf.P 6 e).length (cf.P.cellsOf e) && zeroOK cf.P e)=bb
    intro h
    cases bb with
    | false=>simp at h
    | true =>
     simp only [Bool.and_eq_true,beq_iff_eq] at hc
     obtain ⟨⟨⟨⟨⟨⟨c1,c2⟩,c2b⟩,c3⟩,c4⟩,c5⟩,c6⟩:=hc
     simp only [cond_true,Option.some.injEq,Prod.mk.injEq,true_and] at h
     subst h
     obtain ⟨C1,a1,s1,l1,v1⟩:=frzVs_sound (us:=parts.toList.map fun p=>a.eval p.2) hs.toHSim (by simp) (fun i x u hx hu=>by
      rw [List.getElem?_map] at hx hu
      obtain ⟨p,g1,rfl⟩:=Option.map_eq_some_iff.1 hx
      rw [g1] at hu
      obtain rfl:=Option.some.inj hu
      exact opA_sound hs p.2) hfr
     refine (build_eff (hd d ho) ho hop (hs.frz a1 s1) he (cleanS_dels ns c1) (Nat.eq_of_beq_eq_true c2) (Nat.le_of_ble_eq_true c2b) c3 (Nat.le_of_ble_eq_true c4) (Nat.eq_of_beq_eq_true c5) c6 l1 v1).wp fun C' a' w' h1 h2=>hk C' a' w' ?_ ((a1.mono fun _ h=>by cases h).trans h2)
     rw [Wr.on_gone]
     exact h1
   ·cases h
  ·cases h
 ·
  rename_i t lo co d hop ho
  split at h
  ·rename_i e l c he hl hc
   split at h
   ·rename_i z hz
    revert h
    generalize hb:(cleanS (d :: π) st && zeroOK cf.P e && Nat.beq (ctsT cf.P 6 e).length (cf.P.cellsOf e))=bb
    intro h
    cases bb with
    | false=>simp at h
    | true =>
     simp only [Bool.and_eq_true] at hb
     obtain ⟨⟨c1,c2⟩,c3⟩:=hb
     simp only [cond_true,Option.some.injEq,Prod.mk.injEq,Bool.and_eq_true,decide_eq_true_eq] at h
     obtain ⟨⟨⟨⟨d1,d2⟩,d3⟩,d4⟩,rfl⟩:=h
     exact (make_eff (hd d ho) ho hop hs he hl hc hz c1 c2 (Nat.eq_of_beq_eq_true c3) d1 d2 d3 d4).wp hk
   ·cases h
  ·cases h
 ·
  rename_i t x y hop
  split at h
  ·rename_i nm i off hx
   split at h
   ·rename_i b hb
    split at h
    ·rename_i v ns hfr
     split at h
     ·rename_i b' hst
      cases hz:Nat.beq (cf.P.cellsOf t) 0 || ns.any (nmEq nm) with
      | true=>rw [hz] at h;simp at h
      | false =>
       rw [hz] at h
       simp only [cond_false,Option.some.injEq,Prod.mk.injEq,true_and] at h
       subst h
       rw [Bool.or_eq_false_iff] at hz
       obtain ⟨C1,a1,s1,v1,f1⟩:∃ C1,Agree (fun _=>false) C C1∧HSim C1 (dels ns st.heap) w∧VR C1 v (a.eval y)∧(b.box=false→∀ (j:Nat) (ct:CT) (z:AV) (x:Value),((b.tys.drop off).take (cf.P.cellsOf t))[j]?=some ct→v.cells[j]?=some z→(a.eval y).cells[j]?=some x→VC C1.memF ct z x):=by
        cases hbox:b.box with
        | true =>
         rw [hbox] at hfr
         simp only [cond_true,Option.some.injEq,Prod.mk.injEq] at hfr
         obtain ⟨rfl,rfl⟩:=hfr
         exact ⟨C,Agree.refl _ _,hs.toHSim,opA_sound hs y,fun h=>by cases h⟩
        | false =>
         rw [hbox] at hfr
         simp only [cond_false] at hfr
         obtain ⟨C1,a1,s1,v1,_,_,f1⟩:=frzV_sound hs.toHSim (opA_sound hs y) hfr
         exact ⟨C1,a1,s1,v1,fun _ j ct z x h1 h2 h3=>(f1 j ct z x h1 h2 h3).1⟩
       refine (store_eff (π:=π) hd hop (hs.frz a1 s1) hx (by rw [getH_dels ns _ _ hz.2];exact hb) v1 hst (Nat.ne_of_beq_eq_false hz.1) f1).wp fun C' a' w' h1 h2=>hk C' a' w' ?_ ((a1.mono fun _ h=>by cases h).trans h2)
       rw [Wr.on_gone]
       cases hdst:o.dst with
       | none=>rw [hdst] at h1;exact h1
       | some d=>rw [hdst] at h1;exact h1
     ·cases h
    ·cases h
   ·cases h
  ·cases h
 ·
  rename_i args argTypes d hop ho
  split at h
  ·rename_i x y t t' hargs hts
   split at h
   ·rename_i e tys ys he hy
    revert h
    generalize hb:(cleanS (d :: π) st && Nat.beq t t' && Nat.beq tys.length (cf.P.cellsOf e) && zeroOK cf.P e && !(Nat.beq tys.length 0) && elemsF st.heap (opA st.env y))=bb
    intro h
    cases bb with
    | false=>simp at h
    | true =>
     simp only [Bool.and_eq_true,Bool.not_eq_true'] at hb
     obtain ⟨⟨⟨⟨⟨c1,c2⟩,c3⟩,c4⟩,c5⟩,c6⟩:=hb
     have e2:=Nat.eq_of_beq_eq_true c2
     subst e2
     obtain ⟨A1,A2⟩:=append_eff (hd d ho) ho hop hargs hts hs he hy c1 (Nat.eq_of_beq_eq_true c3) c4 (Nat.ne_of_beq_eq_false c5) c6
     simp only [cond_true] at h
     split at h
     ·rename_i hx
      simp only [Option.some.injEq,Prod.mk.injEq,Bool.and_eq_true,decide_eq_true_eq] at h
      obtain ⟨⟨d1,d2⟩,rfl⟩:=h
      exact (A1 hx d1 d2).wp hk
     ·rename_i nm hx
      split at h
      ·rename_i b hb
       cases hbb:(!b.box && ctsEq tys b.tys) with
       | false=>rw [hbb] at h;simp at h
       | true =>
        rw [hbb] at h
        simp only [Bool.and_eq_true,Bool.not_eq_true'] at hbb
        simp only [cond_true,Option.some.injEq,Prod.mk.injEq,Bool.and_eq_true,decide_eq_true_eq] at h
        obtain ⟨⟨d1,d2⟩,rfl⟩:=h
        exact (A2 nm b hx hb hbb.1 (ctsEq_eq _ _ hbb.2) d1 d2).wp hk
      ·cases h
     ·cases h
   ·cases h
  ·cases h
 ·
  rename_i args argTypes hop
  split at h
  ·rename_i x t hargs hts
   split at h
   ·rename_i e nm lo n he hx
    split at h
    ·rename_i b z hb hz
     cases hc : !b.box && ctsEq b.tys (ctsT cf.P 6 e) && Nat.beq (ctsT cf.P 6 e).length (cf.P.cellsOf e) && zeroOK cf.P e with
     | false=>rw [hc] at h;simp at h
     | true =>
      rw [hc] at h
      simp only [Bool.and_eq_true,Bool.not_eq_true'] at hc
      obtain ⟨⟨⟨c1,c2⟩,c3⟩,c4⟩:=hc
      simp only [cond_true,Option.some.injEq,Prod.mk.injEq,true_and] at h
      subst h
      refine (clear_eff (π:=π) hd hop hargs hts hs he hx hb c1 (ctsEq_eq _ _ c2) (Nat.eq_of_beq_eq_true c3) c4 hz).wp ?_
      cases hdst:o.dst with
      | none=>rw [hdst] at hk;exact hk
      | some d=>rw [hdst] at hk;exact hk
    ·cases h
   ·cases h
  ·cases h
 ·
  rename_i f args argTypes hop
  have hfv:=opA_sound hs f
  split at h
  ·rename_i g caps hf
   rw [hf] at hfv
   have hargs:=ops_VR hs args.toList
   obtain ⟨vs,hfe,hcl,hcv⟩:∃ vs:List Value,a.eval f = .func (.func g) #[] vs.toArray∧caps.length=vs.length∧∀ (i:Nat) (c:AV) (v:Value),caps[i]?=some c→vs[i]?=some v→VR C c v:=by
    generalize a.eval f=u at hfv
    cases hfv with
    | fn _ _ vs h1 h2=>exact ⟨vs,rfl,h1,h2⟩
   have harr:(args.toList.map a.eval++vs).toArray=args.map a.eval++vs.toArray:=by apply Array.ext';simp
   split at h
   ·rename_i m hm
    split at h
    ·rename_i xs cs hxs hcs
     split at h
     ·rename_i gg rv hrv
      obtain ⟨hknown,hmeets⟩:=hF.tree g m hm
      have hgg:gg=true:=by
       split at h
       ·rename_i d _
        cases hcl:cleanS (d :: π) st && nodupN ((impV (1 :: d :: π) rv).2.map (·.1)) with
        | false=>rw [hcl] at h;simp at h
        | true=>rw [hcl] at h;simp only [cond_true,Option.some.injEq,Prod.mk.injEq] at h;exact h.1
       ·simp only [Option.some.injEq,Prod.mk.injEq] at h;exact h.1
      subst hgg
      obtain ⟨g1,g2⟩:=roVals_sound hs (us:=args.toList.map a.eval) (by simp) hargs hxs
      obtain ⟨g3,g4⟩:=capArgs_sound hs hcl hcv hcs
      have hcalls:=hmeets (xs++cs) rv hrv w (args.toList.map a.eval++vs) hs.globW (by simp only [List.length_append,g1,g3]) (fun i x u hx hu=>by
       by_cases hi:i<xs.length
       ·rw [List.getElem?_append_left hi] at hx
        rw [List.getElem?_append_left (by omega)] at hu
        exact g2 i x u hx hu
       ·rw [List.getElem?_append_right (by omega)] at hx hu
        rw [g1] at hx
        exact g4 _ x u hx hu)
      unfold Oper.wp
      rw [run_call hop hfe hknown,Oper.upon_enter,← harr]
      refine hcalls.mono fun e w' he=>?_
      obtain ⟨u,rfl,hbelow,hret⟩:=he
      simp only
      split at h
      ·rename_i d ho
       cases hcl:cleanS (d :: π) st && nodupN ((impV (1 :: d :: π) rv).2.map (·.1)) with
       | false=>rw [hcl] at h;simp at h
       | true =>
        rw [hcl] at h
        rw [Bool.and_eq_true] at hcl
        simp only [cond_true,Option.some.injEq,Prod.mk.injEq,true_and] at h
        subst h
        have hcl':=hcl.1
        unfold cleanS at hcl'
        rw [Bool.and_eq_true] at hcl'
        have hadd:=addH_eq (impV (1 :: d :: π) rv).2 st.heap (fun x hx=>by
         cases hg:getH st.heap x.1 with
         | none=>rfl
         | some b =>
          have:=(cleanH_get hcl'.2 x.1 b hg).1
          rw [under_trans (impV_under _ rv x hx) (under_new d π)] at this
          cases this) (nodupN_spec _ hcl.2)
        obtain ⟨C',k1,k2,k3⟩:=import_sound hs hcl.1 (under_new d π) hbelow hret hadd
        rw [ho]
        exact hk C' _ _ (k2.put k3 (hd d ho)) (k1.mono fun nm=>under_isLoc)
      ·rename_i ho
       simp only [Option.some.injEq,Prod.mk.injEq,true_and] at h
       subst h
       rw [ho]
       exact hk C _ _ (hs.withH (hs.toHSim.world (Below.grownBy hbelow) fun k hk=>by cases hk) hs.env) (Agree.refl _ _)
     ·cases h
    ·cases h
   ·rename_i m hm
    obtain ⟨hknown,hmeets⟩:=hF.wrt g m hm
    unfold mutW at h
    split at h
    ·rename_i bs xs hbs hxs
     split at h
     ·rename_i gg rv bs' hrv
      cases hc:bs.all flatB && bs'.all flatB && retR rv && Nat.beq bs'.length bs.length with
      | false=>rw [hc] at h;simp at h
      | true =>
       rw [hc] at h
       simp only [Bool.and_eq_true] at hc
       obtain ⟨⟨⟨d1,d2⟩,d3⟩,d4⟩:=hc
       simp only [cond_true,Option.some.injEq,Prod.mk.injEq] at h
       obtain ⟨rfl,rfl⟩:=h
       have hvals:∀ (i:Nat) (x:AV) (u:Value),(args.toList.map (opA st.env)++caps)[i]?=some x→(args.toList.map a.eval++vs)[i]?=some u→VR C x u:=fun i x u hx hu=>by
        by_cases hi:i<args.toList.length
        ·rw [List.getElem?_append_left (by simpa using hi)] at hx hu
         exact hargs i x u hx hu
        ·rw [List.getElem?_append_right (by simp at hi ⊢;omega)] at hx hu
         simp only [List.length_map] at hx hu
         exact hcv _ x u hx hu
       have hlen:=Nat.eq_of_beq_eq_true d4
       have M:=fun w'=>mut_sim (bs':=bs') (w':=w') hs.toHSim (dedupN_nodup List.nodup_nil) hbs hxs (by simp [hcl]) hvals d1
       obtain ⟨m1,m2,m3,_⟩:=M w
       have hcalls:=hmeets xs bs rv bs' hrv d1 d2 d3 hlen _ w _ m1 m2 m3
       unfold Oper.wp
       rw [run_call hop hfe hknown,Oper.upon_enter,← harr]
       refine hcalls.mono fun e w' he=>?_
       obtain ⟨u,rfl,k1,k2⟩:=he
       simp only
       have k3:=(M w').2.2.2 hlen d2 k2
       have k4:=uncan_sound k1 d3
       cases hdst:o.dst with
       | none =>
        refine hk C _ _ ?_ (Agree.refl _ _)
        have:=hs.withH k3 hs.env
        simp only [hdst,Wr.on,toD,List.foldl_nil] at this ⊢
        exact this
       | some d =>
        refine hk C _ _ ?_ (Agree.refl _ _)
        have:=(hs.withH k3 hs.env).put k4 (hd d hdst)
        simp only [hdst,Wr.on,toD,List.foldl_nil,List.foldl_cons] at this ⊢
        exact this
     ·cases h
    ·cases h
   ·rename_i m hm
    obtain ⟨hknown,hmeets⟩:=hF.gen g m hm
    split at h
    ·rename_i d hdst
     cases hcl2:cleanS (d :: π) st with
     | false=>rw [hcl2] at h;simp at h
     | true =>
      rw [hcl2] at h
      simp only [cond_true] at h
      unfold genW at h
      split at h
      ·rename_i bs xs hbs hxs
       split at h
       ·rename_i cs hcs
        split at h
        ·rename_i gg rs bs' hrv
         simp only [Bool.cond_eq_ite] at h
         split at h
         ·rename_i hc
          rw [Bool.and_eq_true] at hc
          simp only [Option.some.injEq,Prod.mk.injEq] at h
          obtain ⟨rfl,rfl⟩:=h
          have hvals:∀ (i:Nat) (x:AV) (u:Value),(args.toList.map (opA st.env)++caps)[i]?=some x→(args.toList.map a.eval++vs)[i]?=some u→VR C x u:=fun i x u hx hu=>by
           by_cases hi:i<args.toList.length
           ·rw [List.getElem?_append_left (by simpa using hi)] at hx hu
            exact hargs i x u hx hu
           ·rw [List.getElem?_append_right (by simp at hi ⊢;omega)] at hx hu
            simp only [List.length_map] at hx hu
            exact hcv _ x u hx hu
          have hnd:(closeN st.heap ((args.toList.map (opA st.env)).flatMap namesV++caps.flatMap namesK)).Nodup:=dedupN_nodup List.nodup_nil
          obtain ⟨m1,m2,m3⟩:=gen_enter hs.toHSim hnd hbs hxs hcs (by simp [hcl]) hvals
          obtain ⟨b1,b2⟩:=getAll_get hbs
          obtain ⟨c1,_⟩:=canBs_get hcs
          have hcalls:=hmeets xs cs rs bs' hrv _ w _ m1 m2 m3
          rw [c1.trans b1] at hcalls
          unfold Oper.wp
          rw [run_call hop hfe hknown,Oper.upon_enter,← harr]
          refine hcalls.mono fun e w' he=>?_
          obtain ⟨u,rfl,C',ts,gs,v,hp,k1,k2,k3,k4⟩:=he
          simp only
          obtain ⟨C2,q1,q2,q3⟩:=gen_back hs hcl2 hnd (fun n hn=>by
           obtain ⟨j,hj⟩:=List.getElem?_of_mem hn
           obtain ⟨b,_,hb⟩:=b2 j n hj
           exact ⟨b,hb⟩) k3 k4 k2 k1 hc.2
          rw [hdst]
          exact hk C2 _ _ (q2.put q3 (hd d hdst)) (q1.mono fun nm=>under_isLoc)
         ·cases h
        ·cases h
       ·cases h
      ·cases h
    ·cases h
   ·cases h
  ·cases h
 ·cases h
theorem wr_sound [Glob] {cf:Cfg} {π:Nm} {o:Oper} {wr:Wr} {next:Act→World→Prop} {Q:Exit→Act→World→Prop} (hP:cf.P=P) (hF:FOK P cf)
  (hd:∀ d,o.dst=some d→d<nt) (hs:Sim C nt st a w) (h:wrA cf π st o=some (true,wr))
  (hk:∀ C' a' w',Sim C' nt (wr.on st) a' w'→Agree (isLoc π) C C'→next a' w'):o.wp P a w next Q:=by
 unfold wrA at h
 split at h
 ·rename_i g v hv
  simp only [Option.some.injEq,Prod.mk.injEq] at h
  obtain ⟨rfl,rfl⟩:=h
  rw [hP] at hv
  obtain ⟨u,h1,h2⟩:=val_sound hs hv
  unfold Oper.wp
  rw [h1,Oper.upon_value]
  refine hk C _ _ ?_ (Agree.refl _ _)
  have:=hs.puts h2 hd
  cases hdst:o.dst with
  | none=>rw [hdst] at this;exact this
  | some d=>rw [hdst] at this;exact this
 ·exact effW_sound hP hF hd hs h hk
theorem inl_sound [Glob] {cf:Cfg} {ce:CallE} {π:Nm} {o:Oper} {k:St→Option AV} {r:AV} {next:Act→World→Prop} {Q:Exit→Act→World→Prop} (hP:cf.P=P) (hce:CES cf ce)
  (hd:∀ d,o.dst=some d→d<nt) (hs:Sim C nt st a w) (h:inlO cf ce π st o k=some r)
  (hk:∀ st' C' a' w',k st'=some r→Sim C' nt st' a' w'→Agree (isLoc π) C C'→next a' w'):o.wp P a w next Q:=by
 subst hP
 unfold inlO at h
 split at h
 ·rename_i f args argTypes d hop ho
  have hfv:=opA_sound hs f
  split at h
  ·rename_i g caps hf
   rw [hf] at hfv
   have hargs:=ops_VR hs args.toList
   split at h
   ·rename_i hinl
    cases hcl:cleanS (d :: π) st with
    | false=>rw [hcl] at h;simp at h
    | true =>
     rw [hcl] at h
     simp only [cond_true] at h
     obtain ⟨vs,hfe,hl,hv⟩:∃ vs:List Value,a.eval f = .func (.func g) #[] vs.toArray∧caps.length=vs.length∧∀ (i:Nat) (c:AV) (v:Value),caps[i]?=some c→vs[i]?=some v→VR C c v:=by
      generalize a.eval f=u at hfv
      cases hfv with
      | fn _ _ vs h1 h2=>exact ⟨vs,rfl,h1,h2⟩
     obtain ⟨hknown,hcalls⟩:=hce g _ _ _ _ r C w (args.toList.map a.eval++vs) hinl h (by simp [hl]) (fun i x u hx hu=>by
       by_cases hi:i<args.toList.length
       ·rw [List.getElem?_append_left (by simpa using hi)] at hx hu
        exact hargs i x u hx hu
       ·rw [List.getElem?_append_right (by simp at hi ⊢;omega)] at hx hu
        simp only [List.length_map] at hx hu
        exact hv _ x u hx hu) hs.toHSim
     have harr:(args.toList.map a.eval++vs).toArray=args.map a.eval++vs.toArray:=by apply Array.ext';simp
     unfold Oper.wp
     rw [run_call hop hfe hknown,Oper.upon_enter,← harr]
     refine hcalls.mono fun e w' he=>?_
     obtain ⟨u,rfl,C',v,h',k1,k2,k3,k4⟩:=he
     simp only
     rw [ho]
     have hcl':=hcl
     unfold cleanS at hcl'
     rw [Bool.and_eq_true] at hcl'
     have kag:Agree (under (d :: π)) C C':=k4.mono fun nm h=>isLoc_under h
     have hs':Sim C' nt ⟨st.env,h'⟩ a w':=hs.withH k3 fun t=>(hs.env t).move kag (cleanE_get hcl'.1 t)
     exact hk _ C' _ _ k1 (hs'.put k2 (hd d ho)) (kag.mono fun nm=>under_isLoc)
   ·cases h
  ·cases h
 ·cases h
theorem one_sound [Glob] {cf:Cfg} {ce:CallE} {π:Nm} {o:Oper} {k:St→Option AV} {r:AV} {next:Act→World→Prop} {Q:Exit→Act→World→Prop} (hP:cf.P=P) (hF:FOK P cf) (hce:CES cf ce)
  (hd:∀ d,o.dst=some d→d<nt) (hs:Sim C nt st a w) (h:oneA cf ce π st o k=some r)
  (hk:∀ st' C' a' w',k st'=some r→Sim C' nt st' a' w'→Agree (isLoc π) C C'→next a' w'):o.wp P a w next Q:=by
 unfold oneA at h
 split at h
 ·rename_i g wr hwr
  cases g with
  | false=>simp at h
  | true=>exact wr_sound hP hF hd hs hwr fun C' a' w'=>hk _ C' a' w' h
 ·exact inl_sound hP hce hd hs h hk
end
end Go.Proofs.VE
