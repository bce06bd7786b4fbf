import Derived.Test.YtcondihilccdpaaDoorVEp
namespace Go.Proofs.VE
open Go
def Ex.out:Ex→Exit
 | .normal => .normal
 | .ret => .ret
 | .exit id => .exit id
def LoopOK (cf:Cfg) (ce:CallE) (π:Nm) (fid cur:Nat) (c:Code):Prop :=
 ∀ m,cf.LM fid cur=some m→∀ (st:St) (k:Kont) (r:AV),m ce π st k=some r →
  ∃ N,loopA (fun st k=>codeA cf ce π fid cur c st k) (normA π ((cf.H fid cur).getD [])) N st k=some r
def LoopsOK (cf:Cfg) (ce:CallE) (π:Nm) (fid:Nat) (l:List (Nat × Code)):Prop:=∀ p ∈ l,LoopOK cf ce π fid p.1 p.2
def DrawOK [Glob] (cf:Cfg):Prop :=
 ∀ (π:Nm) (nt:Nat) (ops:Array Oper) (st:St) (k:St→Option AV) (r:AV) (C:Ctx) (a:Act) (w:World) (Q:Exit→Act→World→Prop) (id:Nat),drawA cf π ops st k=some r→Sim C nt st a w →
  (∀ o ∈ ops.toList,∀ d,o.dst=some d→d<nt)→(∀ st' C' a' w',k st'=some r→Sim C' nt st' a' w'→Agree (isLoc π) C C'→Q .normal a' w')→(Code.region id ops true).wp cf.P Q a w
section
variable {cf:Cfg} {C C':Ctx} {nt:Nat} {st:St} {a:Act} {w w':World}
theorem fits_ops {ops:Array Oper} {id:Nat} {d:Bool} (h:fitsC nt (.region id ops d)=true):∀ o ∈ ops.toList,∀ d,o.dst=some d→d<nt:=by
 simp only [fitsC,List.all_eq_true] at h
 intro o ho d hd
 have:=h o ho d (by rw [hd];simp)
 simp only [Nat.blt] at this
 exact Nat.le_of_ble_eq_true this
theorem code_sound [Glob] {ce:CallE} {π:Nm} {fid:Nat} (hF:FOK cf.P cf) (hce:CES cf ce) (hdraw:DrawOK cf) :
  ∀ (c:Code) (cur:Nat) {C:Ctx} {st:St} {a:Act} {w:World} {k:Kont} {r:AV} {Q:Exit→Act→World→Prop},fitsC nt c=true→LoopsOK cf ce π fid (loopsC cur c)→Sim C nt st a w→codeA cf ce π fid cur c st k=some r →
   (∀ e st' C' a' w',k e st'=some r→Sim C' nt st' a' w'→Agree (isLoc π) C C'→Q e.out a' w')→c.wp cf.P Q a w
 | .skip,cur,C,st,a,w,k,r,Q,_,_,hs,h,hk=>wp_skip (hk .normal st C a w h hs (Agree.refl _ _))
 | .region id ops draw,cur,C,st,a,w,k,r,Q,hf,_,hs,h,hk=>by
  unfold codeA at h
  cases draw with
  | true=>exact hdraw π nt ops st (k .normal) r C a w Q id h hs (fits_ops hf) (hk .normal)
  | false=>exact wp_region (ops_sound rfl hF hce ops _ _ (range_ops ops) (fits_ops hf) hs h (hk .normal))
 | .seq x y,cur,C,st,a,w,k,r,Q,hf,hl,hs,h,hk=>by
  simp only [fitsC,Bool.and_eq_true] at hf
  unfold codeA at h
  refine wp_seq (code_sound hF hce hdraw x cur hf.1 (fun p hp=>hl p (List.mem_append_left _ hp)) hs h ?_)
  intro e st' C' a' w' h1 hs1 hag
  cases e with
  | normal=>exact code_sound hF hce hdraw y cur hf.2 (fun p hp=>hl p (List.mem_append_right _ hp)) hs1 h1 fun e st'' C'' a'' w'' h2 hs2 hag2=>hk e st'' C'' a'' w'' h2 hs2 (hag.trans hag2)
  | ret=>exact hk .ret st' C' a' w' h1 hs1 hag
  | exit j=>exact hk (.exit j) st' C' a' w' h1 hs1 hag
 | .cond c x y,cur,C,st,a,w,k,r,Q,hf,hl,hs,h,hk=>by
  simp only [fitsC,Bool.and_eq_true] at hf
  unfold codeA at h
  have hc:=opA_sound hs c
  split at h
  ·rename_i b hb
   rw [hb] at hc
   have he:a.eval c = .bool b:=by generalize a.eval c=u at hc;cases hc;rfl
   refine wp_cond he ?_
   cases b with
   | true=>exact code_sound hF hce hdraw x cur hf.1 (fun p hp=>hl p (List.mem_append_left _ hp)) hs h hk
   | false=>exact code_sound hF hce hdraw y cur hf.2 (fun p hp=>hl p (List.mem_append_right _ hp)) hs h hk
  ·cases h
 | .block id body,cur,C,st,a,w,k,r,Q,hf,hl,hs,h,hk=>by
  unfold codeA at h
  refine wp_block (code_sound hF hce hdraw body id hf hl hs h ?_)
  intro e st' C' a' w' h1 hs1 hag
  cases e with
  | normal=>exact hk .normal _ C' a' w' h1 (trim_sim hs1) hag
  | ret=>exact hk .ret st' C' a' w' h1 hs1 hag
  | exit j =>
   simp only at h1
   show Exit.inBlock id Q (.exit j) a' w'
   simp only [Exit.inBlock]
   cases hb:Nat.beq j id with
   | true =>
    rw [hb] at h1
    rw [if_pos (Nat.eq_of_beq_eq_true hb)]
    exact hk .normal st' C' a' w' h1 hs1 hag
   | false =>
    rw [hb] at h1
    rw [if_neg (Nat.ne_of_beq_eq_false hb)]
    exact hk (.exit j) st' C' a' w' h1 hs1 hag
 | .loop body,cur,C,st,a,w,k,r,Q,hf,hl,hs,h,hk=>by
  unfold codeA at h
  split at h
  ·rename_i m st1 hm hn
   obtain ⟨N,hN⟩:=hl (cur,body) (by simp [loopsC]) m hm st1 k r h
   obtain ⟨C1,hag1,hs1⟩:=norm_sound hs hn
   refine wp_loop_ghost (fun n a w=>∃ st C1,Sim C1 nt st a w∧Agree (isLoc π) C C1∧loopA (fun st k=>codeA cf ce π fid cur body st k) (normA π ((cf.H fid cur).getD [])) n st k=some r) N ⟨st1,C1,hs1,hag1,hN⟩ ?_
   rintro n a w ⟨st2,C2,hs2,hag2,h2⟩
   cases n with
   | zero=>cases h2
   | succ n =>
    simp only [loopA,stepA] at h2
    refine code_sound hF hce hdraw body cur hf (fun p hp=>hl p (by simp only [loopsC];exact List.mem_cons_of_mem _ hp)) hs2 h2 ?_
    intro e st' C' a' w' h3 hs3 hag3
    cases e with
    | normal =>
     simp only at h3
     split at h3
     ·rename_i st3 hn3
      obtain ⟨C4,hag4,hs4⟩:=norm_sound hs3 hn3
      exact ⟨n,Nat.lt_succ_self n,st3,C4,hs4,(hag2.trans hag3).trans hag4,h3⟩
     ·cases h3
    | ret=>exact hk .ret st' C' a' w' h3 hs3 (hag2.trans hag3)
    | exit j=>exact hk (.exit j) st' C' a' w' h3 hs3 (hag2.trans hag3)
  ·cases h
 | .exit id,cur,C,st,a,w,k,r,Q,_,_,hs,h,hk=>by
  unfold codeA at h
  exact wp_exit (hk (.exit id) _ C a w h (trim_sim hs) (Agree.refl _ _))
 | .ret,cur,C,st,a,w,k,r,Q,_,_,hs,h,hk=>by
  unfold codeA at h
  exact wp_ret (hk .ret _ C a w h (trim_sim hs) (Agree.refl _ _))
 | .rangeFunc ..,_,_,_,_,_,_,_,_,_,_,_,h,_=>by simp [codeA] at h
 | .scope _,_,_,_,_,_,_,_,_,_,_,_,h,_=>by simp [codeA] at h
 | .label _,_,_,_,_,_,_,_,_,_,_,_,h,_=>by simp [codeA] at h
 | .goto _,_,_,_,_,_,_,_,_,_,_,_,h,_=>by simp [codeA] at h
 | .refuse _,_,_,_,_,_,_,_,_,_,_,_,h,_=>by simp [codeA] at h
def resV (tmps:Array Value):ResultVar→Sem Value
 | .tmp t=>pure (tmps.getD t undef)
 | .cell a t=>do loadVar t (← asAddr (tmps.getD a undef))
theorem res_sound [Glob] (hs:Sim C nt st a w) {rv:ResultVar} {v:AV} (h:resA cf.P st rv=some v):∃ u,(resV a.tmps rv).run cf.P w = .ok u w∧VR C v u:=by
 cases rv with
 | tmp t =>
  simp only [resA,Option.some.injEq] at h
  subst h
  exact ⟨_,rfl,hs.env t⟩
 | cell c t =>
  simp only [resA] at h
  split at h
  ·rename_i nm i off hp
   split at h
   ·rename_i b hb
    have hx:=hs.env c
    rw [hp] at hx
    generalize hu:a.tmps.getD c undef=u at hx
    cases hx with
    | ptr _ _ _ hr hi =>
     obtain ⟨x,h1,h2⟩:=load_sound hs hb h hi
     refine ⟨x,?_,h2⟩
     show (do loadVar t (← asAddr (a.tmps.getD c undef)):Sem Value).run cf.P w=_
     rw [hu,run_bind' (x:=C.at nm i off) (w':=w) rfl]
     exact h1
   ·cases h
  ·cases h
theorem ress_sound [Glob] (hs:Sim C nt st a w):∀ {rvs:List ResultVar} {vs:List AV},resAs cf.P st rvs=some vs →
  ∃ us:List Value,(rvs.mapM (resV a.tmps)).run cf.P w = .ok us w∧vs.length=us.length∧∀ (i:Nat) (v:AV) (u:Value),vs[i]?=some v→us[i]?=some u→VR C v u
 | [],vs,h=>by
  simp only [resAs,Option.some.injEq] at h
  subst h
  exact ⟨[],rfl,rfl,fun i v u h=>by simp at h⟩
 | rv :: rvs,vs,h=>by
  simp only [resAs] at h
  split at h
  ·rename_i v vs' h1 h2
   obtain rfl:=Option.some.inj h
   obtain ⟨u,g1,g2⟩:=res_sound hs h1
   obtain ⟨us,g3,g4,g5⟩:=ress_sound hs h2
   refine ⟨u :: us,?_,by simp [g4],fun i v' u' hv hu=>?_⟩
   ·rw [List.mapM_cons,run_bind' g1,run_bind' g3]
    rfl
   ·cases i with
    | zero=>simp at hv hu;subst hv;subst hu;exact g2
    | succ i=>exact g5 i v' u' (by simpa using hv) (by simpa using hu)
  ·cases h
def packV (us:List Value):Value:=if h:us.toArray.size=1 then us.toArray[0] else .tuple us.toArray
theorem pack_sound {vs:List AV} {us:List Value} (hl:vs.length=us.length) (hv:∀ (i:Nat) (v:AV) (u:Value),vs[i]?=some v→us[i]?=some u→VR C v u):VR C (packA vs) (packV us):=by
 match vs,us,hl with
 | [v],[u],_=>exact hv 0 v u rfl rfl
 | [],[],_=>exact .tup [] [] rfl (fun i c v h=>by simp at h)
 | v :: v' :: vs,u :: u' :: us,hl =>
  unfold packV
  rw [dif_neg (by simp)]
  exact .tup _ _ hl hv
theorem results_sound [Glob] {fn:Func} {vs:List AV} (hs:Sim C nt st a w) (h:resAs cf.P st fn.results.toList=some vs) :
  ∃ us:List Value,(results fn a.tmps).run cf.P w = .ok (packV us) w∧vs.length=us.length∧∀ (i:Nat) (v:AV) (u:Value),vs[i]?=some v→us[i]?=some u→VR C v u:=by
 obtain ⟨us,h1,h2,h3⟩:=ress_sound hs h
 refine ⟨us,?_,h2,h3⟩
 have e:results fn a.tmps=(do let vs ← fn.results.mapM (resV a.tmps);pure (if h:vs.size=1 then vs[0] else .tuple vs)):=by
  unfold results
  congr 1
 rw [e]
 rw [run_bind' (x:=us.toArray) (w':=w)]
 ·rfl
 ·rw [Array.mapM_eq_mapM_toList,map_eq_pure_bind,run_bind' h1]
  rfl
theorem getE_env0:∀ (xs:List AV) (j t:Nat),getE (env0 j xs) t=if j≤t∧t<j+xs.length then xs.getD (t - j) .undef else .undef
 | [],j,t=>by
  rw [if_neg (by simp)]
  rfl
 | x :: xs,j,t=>by
  simp only [env0,getE]
  cases hb:Nat.beq j t with
  | true =>
   have:=Nat.eq_of_beq_eq_true hb
   subst this
   rw [if_pos (by simp)]
   simp
  | false =>
   have hne:=Nat.ne_of_beq_eq_false hb
   rw [cond_false,getE_env0 xs (j+1) t]
   by_cases h:j+1≤t∧t<j+1+xs.length
   ·rw [if_pos h,if_pos (by simp only [List.length_cons];omega)]
    rw [show t - j=(t - (j+1))+1 by omega]
    simp
   ·rw [if_neg h,if_neg (by simp only [List.length_cons];omega)]
theorem enter_sim [Glob] {n:Nat} {xs:List AV} {us:List Value} {heap:List (Nm × Blk)} (hh:HSim C heap w) (hl:xs.length=us.length) (hv:∀ (i:Nat) (x:AV) (u:Value),xs[i]?=some x→us[i]?=some u→VR C x u) (hn:xs.length≤n) :
  Sim C n ⟨env0 0 xs,heap⟩ { tmps:=us.toArray++Array.replicate (n - us.toArray.size) undef,defers:=[] } w:=by
 refine { toHSim:=hh,size:=by simp;omega,defers:=rfl,env:=fun t=>?_ }
 simp only [getE_env0,Nat.zero_add,Nat.zero_le,true_and,Nat.sub_zero]
 split
 ·rename_i h
  have h':t<us.length:=by omega
  have e:(us.toArray++Array.replicate (n - us.toArray.size) undef).getD t undef=us[t]:=by
   rw [Array.getD_eq_getD_getElem?,Array.getElem?_append_left (by simpa using h')]
   simp [h']
  have e2:xs.getD t .undef=xs[t]:=by simp [h]
  rw [e,e2]
  exact hv t _ _ (List.getElem?_eq_getElem h) (List.getElem?_eq_getElem h')
 ·exact .undef _
def InlOK (cf:Cfg):Prop:=∀ g,cf.F g = .inl→Known cf.P g∧∀ fn c,cf.P.funcs[g]?=some fn→fn.body=some c→∀ ce π,LoopsOK cf ce π g (loopsC 0 c)
theorem inl_ok [Glob] (hF:FOK cf.P cf) (hdraw:DrawOK cf) (hI:InlOK cf) (hS:SpOK cf):∀ n,CES cf (inlA cf n)
 | 0,g,args,q,heap,k,r,C,w,us,_,h,_,_,_=>by cases h
 | n+1,g,args,q,heap,k,r,C,w,us,hg,h,hl,hv,hh=>by
  obtain ⟨hknown,hloops⟩:=hI g hg
  refine ⟨hknown,?_⟩
  unfold inlA at h
  split at h
  ·rename_i s hs
   exact (hS g s hs).2 args q heap k r C w us h hl hv hh
  split at h
  ·rename_i fn hfn
   split at h
   ·rename_i c hc
    cases hb:fitsC fn.ntmps c && Nat.ble args.length fn.ntmps with
    | false=>rw [hb] at h;simp at h
    | true =>
     rw [hb] at h
     rw [Bool.and_eq_true] at hb
     refine calls_of_wp hfn hc (code_sound hF (inl_ok hF hdraw hI hS n) hdraw c 0 hb.1 (hloops fn c hfn hc _ q) (enter_sim hh hl hv (Nat.le_of_ble_eq_true hb.2)) h ?_)
     intro e st' C' a' w' h1 hs1 hag
     have fin:∀ {x:AV},(match resAs cf.P st' fn.results.toList with|some vs=>k (packA vs) st'.heap|none=>none)=some x→x=r →
       ∃ v,(results fn a'.tmps).run cf.P w' = .ok v w'∧∃ u,Ending.returned v = .returned u∧∃ C' v h',k v h'=some r∧VR C' v u∧HSim C' h' w'∧Agree (isLoc q) C C':=by
      intro x hx he
      subst he
      split at hx
      ·rename_i vs hvs
       obtain ⟨us',g1,g2,g3⟩:=results_sound (cf:=cf) hs1 hvs
       exact ⟨_,g1,_,rfl,C',_,_,hx,pack_sound g2 g3,hs1.toHSim,hag⟩
      ·cases hx
     cases e with
     | normal=>exact ⟨hs1.defers,fin h1 rfl⟩
     | ret=>exact ⟨hs1.defers,fin h1 rfl⟩
     | exit j=>cases h1
   ·cases h
  ·cases h
theorem wrt_sound [Glob] (hF:FOK cf.P cf) (hdraw:DrawOK cf) (hI:InlOK cf) (hS:SpOK cf) {n g:Nat} {q:Nm} {args:List AV} {heap:List (Nm × Blk)} {k:AV→List (Nm × Blk)→Option AV} {r:AV} {us:List Value} (hL:∀ fn c,cf.P.funcs[g]?=some fn→fn.body=some c→LoopsOK cf (inlA cf n) q g (loopsC 0 c))
  (h:inlA cf (n+1) g args q heap k=some r) (hl:args.length=us.length) (hv:∀ (i:Nat) (x:AV) (u:Value),args[i]?=some x→us[i]?=some u→VR C x u) (hh:HSim C heap w) :
  Calls cf.P g us.toArray w fun e w'=>∃ u,e = .returned u∧∃ C' v h',k v h'=some r∧VR C' v u∧HSim C' h' w'∧Agree (isLoc q) C C':=by
 unfold inlA at h
 split at h
 ·rename_i s hs
  exact (hS g s hs).2 args q heap k r C w us h hl hv hh
 split at h
 ·rename_i fn hfn
  split at h
  ·rename_i c hc
   cases hb:fitsC fn.ntmps c && Nat.ble args.length fn.ntmps with
   | false=>rw [hb] at h;simp at h
   | true =>
    rw [hb] at h
    rw [Bool.and_eq_true] at hb
    refine calls_of_wp hfn hc (code_sound hF (inl_ok hF hdraw hI hS n) hdraw c 0 hb.1 (hL fn c hfn hc) (enter_sim hh hl hv (Nat.le_of_ble_eq_true hb.2)) h ?_)
    intro e st' C' a' w' h1 hs1 hag
    have fin:∀ {x:AV},(match resAs cf.P st' fn.results.toList with|some vs=>k (packA vs) st'.heap|none=>none)=some x→x=r →
      ∃ v,(results fn a'.tmps).run cf.P w' = .ok v w'∧∃ u,Ending.returned v = .returned u∧∃ C' v h',k v h'=some r∧VR C' v u∧HSim C' h' w'∧Agree (isLoc q) C C':=by
     intro x hx he
     subst he
     split at hx
     ·rename_i vs hvs
      obtain ⟨us',g1,g2,g3⟩:=results_sound (cf:=cf) hs1 hvs
      exact ⟨_,g1,_,rfl,C',_,_,hx,pack_sound g2 g3,hs1.toHSim,hag⟩
     ·cases hx
    cases e with
    | normal=>exact ⟨hs1.defers,fin h1 rfl⟩
    | ret=>exact ⟨hs1.defers,fin h1 rfl⟩
    | exit j=>cases h1
  ·cases h
 ·cases h
def Good (C:Ctx) (heap:List (Nm × Blk)) (l:List Nm) (tb:List (Nm × Dat)):Prop :=
 Apart tb∧∀ z ∈ tb,z.2.real=true→∃ n ∈ l,(∃ b,getH heap n=some b)∧C.real n=true∧z.2.loc.1=(C.loc n).1
theorem Good.nil {heap:List (Nm × Blk)}:Good C heap [] []:=⟨List.Pairwise.nil,fun z hz=>by simp at hz⟩
theorem Good.append [Glob] {heap:List (Nm × Blk)} {l1 l2:List Nm} {t1 t2:List (Nm × Dat)} (hs:HSim C heap w) (h1:Good C heap l1 t1) (h2:Good C heap l2 t2) (hn:(l1++l2).Nodup):Good C heap (l1++l2) (t1++t2):=by
 refine ⟨List.pairwise_append.2 ⟨h1.1,h2.1,fun x hx y hy rx ry=>?_⟩,fun z hz hr=>?_⟩
 ·obtain ⟨n1,m1,⟨b1,g1⟩,r1,e1⟩:=h1.2 x hx rx
  obtain ⟨n2,m2,⟨b2,g2⟩,r2,e2⟩:=h2.2 y hy ry
  rw [e1,e2]
  refine hs.apart n1 b1 n2 b2 g1 g2 r1 r2 fun e=>?_
  exact (List.nodup_append.1 hn).2.2 n1 m1 n2 m2 e
 ·rcases List.mem_append.1 hz with h|h
  ·obtain ⟨n,m,g,e⟩:=h1.2 z h hr;exact ⟨n,List.mem_append_left _ m,g,e⟩
  ·obtain ⟨n,m,g,e⟩:=h2.2 z h hr;exact ⟨n,List.mem_append_right _ m,g,e⟩
theorem TabR.append {W w':World} {M:Addr→Option Value} {l1 l2:List (Nm × Blk)} {t1 t2:List (Nm × Dat)} (h1:TabR W w' M l1 t1) (h2:TabR W w' M l2 t2):TabR W w' M (l1++l2) (t1++t2):=by
 induction h1 with
 | nil=>exact h2
 | cons n b D l t hb hbox _ ih=>exact .cons n b D _ _ hb hbox ih
theorem Good.memOK [Glob] {W:World} {heap:List (Nm × Blk)} {l:List Nm} {t:List (Nm × Dat)} (hW:C.base=W.heap.size) (hs:HSim C heap w) (h:Good C heap l t):MemOK W w C.memF t:=fun a v hv=>by
 obtain ⟨g1,g2⟩:=hs.own a v hv
 obtain ⟨g3,g4,g5⟩:=hs.mem a v g1
 refine ⟨g3,by rw [← hW];exact g2,fun x hx hr=>?_⟩
 obtain ⟨n,_,⟨b,hb⟩,hrn,e⟩:=h.2 x hx hr
 rw [e]
 exact g5 n b hb hrn
theorem ret1_sound [Glob] {t:TypeId} {x y:AV} {l:List Nm} {u:Value} {W:World} {heap:List (Nm × Blk)} (hW:C.base=W.heap.size) (hs:HSim C heap w) (hx:VR C x u) (h:ret1 cf.P heap t x=some (y,l)) (p:Nm) :
  (∃ tb,TabR W w C.memF (imp1 p y).2 tb∧Good C heap l tb∧∀ C':Ctx,(∀ z ∈ tb,C'.dat z.1=z.2)→VR C' (imp1 p y).1 u)∧u.oneCell'=true∧(∀ cs,y ≠ .agg cs)∧∀ cs,y ≠ .tup cs:=by
 unfold ret1 at h
 split at h
 ·rename_i nm
  split at h
  ·rename_i b hb
   cases hc:b.tys.all goodCT && !b.box with
   | false=>rw [hc] at h;simp at h
   | true =>
    rw [hc] at h
    simp only [cond_true,Option.some.injEq,Prod.mk.injEq] at h
    obtain ⟨rfl,rfl⟩:=h
    simp only [Bool.and_eq_true,Bool.not_eq_true'] at hc
    have e:b=⟨false,b.tys,b.xs⟩:=by rw [← hc.2]
    have hB:=hs.blk nm b hb
    refine ⟨⟨[(p,C.dat nm)],?_,⟨List.pairwise_singleton _ _,fun z hz hr=>?_⟩,fun C' hC'=>?_⟩,?_,(fun cs e=>by cases e),(fun cs e=>by cases e)⟩
    ·refine .cons p _ _ _ _ ?_ rfl .nil
     rw [e] at hB
     exact hB.carry (ctxT_dat _ _ _) (by rw [hW];exact Nat.le_refl _) rfl fun _ _ h=>h
    ·simp only [List.mem_singleton] at hz
     subst hz
     exact ⟨nm,List.mem_singleton_self _,⟨b,hb⟩,hr,rfl⟩
    ·have hd:=hC' (p,C.dat nm) (List.mem_singleton_self _)
     simp only at hd
     cases hx with
     | own _ cap hr h1 h2 =>
      have e1:C.at nm 0 0=C'.at p 0 0:=by unfold Ctx.at Ctx.loc Ctx.width;rw [hd]
      have e2:C.len nm=C'.len p:=by unfold Ctx.len;rw [hd]
      rw [e1,e2]
      exact .own p cap (by unfold Ctx.real;rw [hd];exact hr) (by rw [← e2];exact h1) (by unfold Ctx.room;rw [hd];exact h2)
     | ownNil _ h=>exact .ownNil p (by unfold Ctx.len;rw [hd];exact h)
    ·cases hx <;> rfl
  ·cases h
 ·rename_i nm lo n
  split at h
  ·rename_i b hb
   cases hc:b.tys.all goodCT && !b.box with
   | false=>rw [hc] at h;simp at h
   | true =>
    rw [hc] at h
    simp only [cond_true,Option.some.injEq,Prod.mk.injEq] at h
    obtain ⟨rfl,rfl⟩:=h
    simp only [Bool.and_eq_true,Bool.not_eq_true'] at hc
    have hB:=hs.blk nm b hb
    cases hx with
    | sub _ _ _ cap av h1 h2 h3 h4 =>
     rw [hB.len] at h4
     have hlen:((b.xs.drop lo).take n).length=n:=by simp;omega
     have hw:=hB.width hc.2
     rcases h3 with ⟨hr,k,rfl,hk⟩|⟨rfl,hz⟩
     ·obtain ⟨r1,r2,r3,r4⟩:=hB.room hr
      have hkw:(k+cap)*C.width nm≤C.room nm*C.width nm:=Nat.mul_le_mul_right _ hk
      rw [Nat.add_mul] at hkw
      refine ⟨⟨[(p,⟨true,((C.loc nm).1,(C.loc nm).2+k*C.width nm),C.width nm,n,cap⟩)],?_,⟨List.pairwise_singleton _ _,fun z hz hr'=>?_⟩,fun C' hC'=>?_⟩,rfl,(fun cs e=>by cases e),(fun cs e=>by cases e)⟩
      ·refine .cons p _ _ _ _ ?_ rfl .nil
       have e0:∀ (D:Dat),(ctxT W C.memF D).real []=D.real∧(ctxT W C.memF D).loc []=D.loc∧(ctxT W C.memF D).width []=D.width∧(ctxT W C.memF D).len []=D.len∧(ctxT W C.memF D).room []=D.room:=fun D=>by
        unfold Ctx.real Ctx.loc Ctx.width Ctx.len Ctx.room
        rw [ctxT_dat]
        exact ⟨rfl,rfl,rfl,rfl,rfl⟩
       refine ⟨by rw [hlen];exact Nat.le_trans (by omega) hB.max,by rw [(e0 _).2.2.2.1,hlen],fun _=>by rw [(e0 _).2.2.1];exact hw,(fun h=>by cases h),(fun h=>by rw [(e0 _).1] at h;cases h),fun i x hx=>?_,fun _=>?_,fun _ h0 o=>?_⟩
       ·have hi:i<n:=by have:=(List.getElem?_eq_some_iff.1 hx).1;simp only [hlen] at this;exact this
        rw [List.getElem?_take_of_lt hi,List.getElem?_drop] at hx
        obtain ⟨g1,g2⟩:=hB.cells (lo+i) x hx
        refine ⟨by rw [(e0 _).2.2.1];exact g1,fun j c hcj=>?_⟩
        obtain ⟨u,g3,g4,g5⟩:=g2 j c hcj
        refine ⟨u,?_,g4,?_⟩
        ·rw [← g3]
         have hat:=(h2 (by omega)).2
         have hat:=Option.some.inj hat
         unfold Ctx.at at_ at hat ⊢
         simp only [Addr.mk.injEq,and_true,true_and,Nat.add_zero] at hat
         rw [(e0 _).2.1,(e0 _).2.2.1]
         congr 1
         simp only [Addr.mk.injEq,and_true,true_and]
         rw [Nat.add_mul]
         omega
        ·rw [hc.2] at g5
         simp only [Bool.false_eq_true,if_false] at g5 ⊢
         obtain ⟨ct,g6,g7⟩:=g5
         exact ⟨ct,g6,g7⟩
       ·rw [(e0 _).2.1,(e0 _).2.2.1,(e0 _).2.2.2.2,hlen]
        refine ⟨by rw [hW] at r1;exact r1,r2,h1,fun o ho=>?_⟩
        simp only at ho
        have:=r4 (k*C.width nm+o) (by omega)
        rw [show (C.loc nm).2+(k*C.width nm+o)=(C.loc nm).2+k*C.width nm+o by omega] at this
        exact this
       ·rw [(e0 _).2.1]
        rw [(e0 _).2.2.1,(e0 _).2.2.2.2] at h0
        simp only at h0
        exact hB.froz hr (by omega) o
      ·simp only [List.mem_singleton] at hz
       subst hz
       exact ⟨nm,List.mem_singleton_self _,⟨b,hb⟩,hr,rfl⟩
      ·have hd:=hC' _ (List.mem_singleton_self _)
       simp only at hd
       have e1:C.at nm k 0=C'.at p 0 0:=by
        unfold Ctx.at Ctx.loc Ctx.width at_
        rw [hd]
        simp
       have e2:n=C'.len p:=by unfold Ctx.len;rw [hd]
       rw [e1]
       have:=VR.own (C:=C') p cap (by unfold Ctx.real;rw [hd]) (by rw [← e2];exact h1) (by unfold Ctx.room;rw [hd];exact Nat.le_refl _)
       rw [← e2] at this
       exact this
     ·have hn0:n=0:=by omega
      subst hn0
      subst hz
      refine ⟨⟨[(p,⟨false,(0,0),b.tys.length,0,0⟩)],?_,⟨List.pairwise_singleton _ _,fun z hz hr=>?_⟩,fun C' hC'=>?_⟩,rfl,(fun cs e=>by cases e),(fun cs e=>by cases e)⟩
      ·refine .cons p _ _ _ _ ?_ rfl .nil
       rw [List.take_zero]
       refine ⟨by simp,by unfold Ctx.len;rw [ctxT_dat];rfl,by unfold Ctx.width;rw [ctxT_dat];exact fun _=>rfl,(fun h=>by cases h),fun _=>rfl,(fun i x h=>by simp at h),?_,?_⟩ <;>
       ·unfold Ctx.real
        rw [ctxT_dat]
        exact fun h=>by cases h
      ·simp only [List.mem_singleton] at hz
       subst hz
       cases hr
      ·have hd:=hC' _ (List.mem_singleton_self _)
       simp only at hd
       exact .ownNil p (by unfold Ctx.len;rw [hd])
  ·cases h
 ·split at h
  ·rename_i e he
   cases hc:(ctsT cf.P 6 e).all goodCT with
   | false=>rw [hc] at h;simp at h
   | true =>
    rw [hc] at h
    simp only [cond_true,Option.some.injEq,Prod.mk.injEq] at h
    obtain ⟨rfl,rfl⟩:=h
    cases hx
    refine ⟨⟨[(p,⟨false,(0,0),(ctsT cf.P 6 e).length,0,0⟩)],?_,⟨List.pairwise_singleton _ _,fun z hz hr=>?_⟩,fun C' hC'=>?_⟩,rfl,(fun cs e=>by cases e),(fun cs e=>by cases e)⟩
    ·refine .cons p _ _ _ _ ?_ rfl .nil
     refine ⟨by simp,by unfold Ctx.len;rw [ctxT_dat];rfl,by unfold Ctx.width;rw [ctxT_dat];exact fun _=>rfl,(fun h=>by cases h),fun _=>rfl,(fun i x h=>by simp at h),?_,?_⟩ <;>
     ·unfold Ctx.real
      rw [ctxT_dat]
      exact fun h=>by cases h
    ·simp only [List.mem_singleton] at hz
     subst hz
     cases hr
    ·have hd:=hC' _ (List.mem_singleton_self _)
     simp only at hd
     exact .ownNil p (by unfold Ctx.len;rw [hd])
  ·cases h
 ·simp only [Option.some.injEq,Prod.mk.injEq] at h
  obtain ⟨rfl,rfl⟩:=h
  cases hx
  exact ⟨⟨[],.nil,Good.nil,fun C' _ => .bool _⟩,rfl,(fun cs e=>by cases e),(fun cs e=>by cases e)⟩
 ·simp only [Option.some.injEq,Prod.mk.injEq] at h
  obtain ⟨rfl,rfl⟩:=h
  cases hx
  exact ⟨⟨[],.nil,Good.nil,fun C' _ => .int _ _⟩,rfl,(fun cs e=>by cases e),(fun cs e=>by cases e)⟩
 ·simp only [Option.some.injEq,Prod.mk.injEq] at h
  obtain ⟨rfl,rfl⟩:=h
  cases hx
  exact ⟨⟨[],.nil,Good.nil,fun C' _ => .str _⟩,rfl,(fun cs e=>by cases e),(fun cs e=>by cases e)⟩
 ·cases h
theorem retCs_sound [Glob] {W:World} {heap:List (Nm × Blk)} (hW:C.base=W.heap.size) (hs:HSim C heap w) (p:Nm):∀ {ts:List TypeId} {xs ys:List AV} {l:List Nm} {us:List Value} (j:Nat),xs.length=us.length →
  (∀ (i:Nat) (x:AV) (u:Value),xs[i]?=some x→us[i]?=some u→VR C x u)→retCs cf.P heap ts xs=some (ys,l)→l.Nodup →
  (∃ tb,TabR W w C.memF (impCs p j ys).2 tb∧Good C heap l tb∧∀ C':Ctx,(∀ z ∈ tb,C'.dat z.1=z.2)→(impCs p j ys).1.length=us.length∧∀ (i:Nat) (v:AV) (u:Value),(impCs p j ys).1[i]?=some v→us[i]?=some u→VR C' v u)∧∀ u ∈ us,u.oneCell'=true
 | [],[],ys,l,us,j,hl,_,h,_=>by
  simp only [retCs,Option.some.injEq,Prod.mk.injEq] at h
  obtain ⟨rfl,rfl⟩:=h
  cases us with
  | nil=>exact ⟨⟨[],.nil,Good.nil,fun C' _=>⟨rfl,fun i v u h=>by simp [impCs] at h⟩⟩,fun u h=>by simp at h⟩
  | cons=>simp at hl
 | t :: ts,x :: xs,ys,l,us,j,hl,hv,h,hn=>by
  cases us with
  | nil=>simp at hl
  | cons u us =>
   simp only [retCs] at h
   split at h
   ·rename_i y l1 ys' l2 h1 h2
    simp only [Option.some.injEq,Prod.mk.injEq] at h
    obtain ⟨rfl,rfl⟩:=h
    obtain ⟨⟨t1,a1,a2,a3⟩,a4,_,_⟩:=ret1_sound (cf:=cf) hW hs (hv 0 x u rfl rfl) h1 (j :: p)
    obtain ⟨⟨t2,b1,b2,b3⟩,b4⟩:=retCs_sound hW hs p (us:=us) (j+1) (by simpa using hl) (fun i x u hx hu=>hv (i+1) x u (by simpa using hx) (by simpa using hu)) h2 (List.nodup_append.1 hn).2.1
    refine ⟨⟨t1++t2,a1.append b1,a2.append hs b2 hn,fun C' hC'=>?_⟩,fun v hv'=>?_⟩
    ·obtain ⟨c1,c2⟩:=b3 C' fun z hz=>hC' z (List.mem_append_right _ hz)
     have c3:=a3 C' fun z hz=>hC' z (List.mem_append_left _ hz)
     refine ⟨by simp [impCs,c1],fun i v u' hv' hu'=>?_⟩
     simp only [impCs] at hv'
     cases i with
     | zero=>simp at hv' hu';subst hv';subst hu';exact c3
     | succ i=>exact c2 i v u' (by simpa using hv') (by simpa using hu')
    ·rcases List.mem_cons.1 hv' with rfl|hm
     ·exact a4
     ·exact b4 v hm
   ·cases h
 | [],_ :: _,_,_,_,_,_,_,h,_=>by simp [retCs] at h
 | _ :: _,[],_,_,_,_,_,_,h,_=>by simp [retCs] at h
theorem ret2_sound [Glob] {t:TypeId} {x y:AV} {l:List Nm} {u:Value} {W:World} {heap:List (Nm × Blk)} (hW:C.base=W.heap.size) (hs:HSim C heap w) (hx:VR C x u) (h:ret2 cf.P heap t x=some (y,l)) (hn:l.Nodup) (p:Nm) :
  (∃ tb,TabR W w C.memF (imp2 p y).2 tb∧Good C heap l tb∧∀ C':Ctx,(∀ z ∈ tb,C'.dat z.1=z.2)→VR C' (imp2 p y).1 u)∧∀ cs,y ≠ .tup cs:=by
 unfold ret2 at h
 split at h
 ·rename_i cs
  split at h
  ·rename_i ys l' h1
   simp only [Option.some.injEq,Prod.mk.injEq] at h
   obtain ⟨rfl,rfl⟩:=h
   obtain ⟨vs,rfl,g1,g2,_⟩:=hx.agg_inv
   obtain ⟨⟨tb,a1,a2,a3⟩,a4⟩:=retCs_sound (cf:=cf) hW hs p 0 g1 g2 h1 hn
   refine ⟨⟨tb,a1,a2,fun C' hC'=>?_⟩,(fun cs e=>by cases e)⟩
   obtain ⟨c1,c2⟩:=a3 C' hC'
   exact .agg _ _ c1 c2 a4
  ·cases h
 ·obtain ⟨⟨tb,a1,a2,a3⟩,_,a5,a6⟩:=ret1_sound (cf:=cf) hW hs hx h p
  have e:imp2 p y=imp1 p y:=by cases y <;> first|rfl|exact absurd rfl (a5 _)
  rw [e]
  exact ⟨⟨tb,a1,a2,a3⟩,a6⟩
theorem retVs_sound [Glob] {W:World} {heap:List (Nm × Blk)} (hW:C.base=W.heap.size) (hs:HSim C heap w) (p:Nm):∀ {ts:List TypeId} {xs ys:List AV} {l:List Nm} {us:List Value} (j:Nat),xs.length=us.length →
  (∀ (i:Nat) (x:AV) (u:Value),xs[i]?=some x→us[i]?=some u→VR C x u)→retVs cf.P heap ts xs=some (ys,l)→l.Nodup →
  ∃ tb,TabR W w C.memF (impVs p j ys).2 tb∧Good C heap l tb∧∀ C':Ctx,(∀ z ∈ tb,C'.dat z.1=z.2)→(impVs p j ys).1.length=us.length∧∀ (i:Nat) (v:AV) (u:Value),(impVs p j ys).1[i]?=some v→us[i]?=some u→VR C' v u
 | [],[],ys,l,us,j,hl,_,h,_=>by
  simp only [retVs,Option.some.injEq,Prod.mk.injEq] at h
  obtain ⟨rfl,rfl⟩:=h
  cases us with
  | nil=>exact ⟨[],.nil,Good.nil,fun C' _=>⟨rfl,fun i v u h=>by simp [impVs] at h⟩⟩
  | cons=>simp at hl
 | t :: ts,x :: xs,ys,l,us,j,hl,hv,h,hn=>by
  cases us with
  | nil=>simp at hl
  | cons u us =>
   simp only [retVs] at h
   split at h
   ·rename_i y l1 ys' l2 h1 h2
    simp only [Option.some.injEq,Prod.mk.injEq] at h
    obtain ⟨rfl,rfl⟩:=h
    obtain ⟨⟨t1,a1,a2,a3⟩,_⟩:=ret2_sound (cf:=cf) hW hs (hv 0 x u rfl rfl) h1 (List.nodup_append.1 hn).1 (j :: p)
    obtain ⟨t2,b1,b2,b3⟩:=retVs_sound hW hs p (us:=us) (j+1) (by simpa using hl) (fun i x u hx hu=>hv (i+1) x u (by simpa using hx) (by simpa using hu)) h2 (List.nodup_append.1 hn).2.1
    refine ⟨t1++t2,a1.append b1,a2.append hs b2 hn,fun C' hC'=>?_⟩
    obtain ⟨c1,c2⟩:=b3 C' fun z hz=>hC' z (List.mem_append_right _ hz)
    have c3:=a3 C' fun z hz=>hC' z (List.mem_append_left _ hz)
    refine ⟨by simp [impVs,c1],fun i v u' hv' hu'=>?_⟩
    simp only [impVs] at hv'
    cases i with
    | zero=>simp at hv' hu';subst hv';subst hu';exact c3
    | succ i=>exact c2 i v u' (by simpa using hv') (by simpa using hu')
   ·cases h
 | [],_ :: _,_,_,_,_,_,_,h,_=>by simp [retVs] at h
 | _ :: _,[],_,_,_,_,_,_,h,_=>by simp [retVs] at h
theorem ret_ok [Glob] {W:World} {ts:List TypeId} {heap:List (Nm × Blk)} {xs ys:List AV} {l:List Nm} {us:List Value} (hW:C.base=W.heap.size) (hs:HSim C heap w) (hl:xs.length=us.length)
  (hv:∀ (i:Nat) (x:AV) (u:Value),xs[i]?=some x→us[i]?=some u→VR C x u) (h:retVs cf.P heap ts xs=some (ys,l)) (hn:l.Nodup):RetOK W w (packA ys) (packV us):=by
 intro p
 have many:∀ {us:List Value},xs.length=us.length→(∀ (i:Nat) (x:AV) (u:Value),xs[i]?=some x→us[i]?=some u→VR C x u)→packA ys = .tup ys→packV us = .tuple us.toArray →
   ∃ t M,TabR W w M (impV p (packA ys)).2 t∧Apart t∧MemOK W w M t∧∀ C':Ctx,(∀ x ∈ t,C'.dat x.1=x.2)→VR C' (impV p (packA ys)).1 (packV us):=by
  intro us hl hv e1 e2
  obtain ⟨tb,a1,a2,a3⟩:=retVs_sound (cf:=cf) hW hs p 0 hl hv h hn
  rw [e1,e2]
  refine ⟨tb,_,a1,a2.1,a2.memOK hW hs,fun C' hC'=>?_⟩
  obtain ⟨c1,c2⟩:=a3 C' hC'
  exact .tup _ _ c1 c2
 match ts,xs,us,hl,h with
 | [],[],[],hl,h =>
  simp only [retVs,Option.some.injEq,Prod.mk.injEq] at h
  obtain ⟨rfl,rfl⟩:=h
  exact many hl hv rfl rfl
 | [t],[x],[u],hl,h =>
  simp only [retVs] at h
  split at h
  ·rename_i y l1 ys' l2 h1 h2
   simp only [Option.some.injEq,Prod.mk.injEq] at h2 h
   obtain ⟨rfl,rfl⟩:=h2
   obtain ⟨rfl,rfl⟩:=h
   obtain ⟨⟨tb,a1,a2,a3⟩,a4⟩:=ret2_sound (cf:=cf) hW hs (hv 0 x u rfl rfl) h1 (by simpa using hn) p
   have e:impV p (packA [y])=imp2 p y:=by
    simp only [packA]
    cases y <;> first|rfl|exact absurd rfl (a4 _)
   rw [e]
   exact ⟨tb,_,a1,a2.1,a2.memOK hW hs,a3⟩
  ·cases h
 | t :: t' :: ts,x :: x' :: xs,u :: u' :: us,hl,h =>
  have hys:∃ y y' ys',ys=y :: y' :: ys':=by
   simp only [retVs] at h
   split at h
   ·rename_i y l1 ys' l2 h1 h2
    split at h2
    ·simp only [Option.some.injEq,Prod.mk.injEq] at h h2
     obtain ⟨rfl,rfl⟩:=h2
     exact ⟨_,_,_,h.1.symm⟩
    ·cases h2
   ·cases h
  obtain ⟨y,y',ys',rfl⟩:=hys
  exact many hl hv rfl (by unfold packV;rw [dif_neg (by simp)])
 | [],_ :: _,_,_,h=>simp [retVs] at h
 | _ :: _,[],_,_,h=>simp [retVs] at h
 | [_],_ :: _ :: _,_,_,h =>
  simp only [retVs] at h
  split at h
  ·rename_i h2;simp at h2
  ·cases h
 | _ :: _ :: _,[_],_,_,h =>
  simp only [retVs] at h
  split at h
  ·rename_i h2;simp at h2
  ·cases h
theorem fun_sound [Glob] (hF:FOK cf.P cf) (hdraw:DrawOK cf) (hI:InlOK cf) (hS:SpOK cf) {lvl g:Nat} (hL:∀ fn c,cf.P.funcs[g]?=some fn→fn.body=some c→LoopsOK cf (inlA cf lvl) [] g (loopsC 0 c)) {xs:List AV} {r:AV} (h:funA cf lvl g xs=some r) :
  MeetsAt cf.P g xs r:=by
 intro w us hG hl hv
 unfold funA at h
 split at h
 ·rename_i fn hfn
  split at h
  ·rename_i c hc
   cases hb:fitsC fn.ntmps c && Nat.ble xs.length fn.ntmps with
   | false=>rw [hb] at h;simp at h
   | true =>
    rw [hb] at h
    rw [Bool.and_eq_true] at hb
    have hh:HSim (C0 w) [] w:=⟨(fun nm b h=>by cases h),(fun nm b nm' b' h=>by cases h),fun a v hav=>⟨hav,World.block_lt_of_cell? w a hav,(fun nm b h=>by cases h)⟩,Nat.le_refl _,RowKit.Below.refl _ _,(fun _ _ _ _=>rfl),(fun _ _ h=>by cases h),hG,fun k hk=>hk.elim⟩
    refine calls_of_wp hfn hc (code_sound hF (inl_ok hF hdraw hI hS lvl) hdraw c 0 hb.1 (hL fn c hfn hc) (enter_sim hh hl hv (Nat.le_of_ble_eq_true hb.2)) h ?_)
    intro e st' C' a' w' h1 hs1 hag
    have hbase:C'.base=w.heap.size:=hag.base
    have hbel:RowKit.Below w.heap.size w w':=by
     have:=hs1.kept
     rw [hag.base,hag.w0] at this
     exact this
    have fin:∀ {x:AV},(match resAs cf.P st' fn.results.toList with
      | some vs =>
       match retVs cf.P st'.heap fn.resultTypes.toList vs with
       | some (ys,l)=>bif nodupN l then some (packA ys) else none
       | none=>none
      | none=>none)=some x→x=r →
      ∃ v,(results fn a'.tmps).run cf.P w' = .ok v w'∧∃ u,Ending.returned v = .returned u∧RowKit.Below w.heap.size w w'∧RetOK w w' r u:=by
     intro x hx he
     subst he
     split at hx
     ·rename_i vs hvs
      obtain ⟨us',g1,g2,g3⟩:=results_sound (cf:=cf) hs1 hvs
      split at hx
      ·rename_i ys l hys
       cases hn:nodupN l with
       | false=>rw [hn] at hx;simp at hx
       | true =>
        rw [hn] at hx
        simp only [cond_true,Option.some.injEq] at hx
        subst hx
        exact ⟨_,g1,_,rfl,hbel,ret_ok (cf:=cf) hbase hs1.toHSim g2 g3 hys (nodupN_spec _ hn)⟩
      ·cases hx
     ·cases hx
    cases e with
    | normal=>exact ⟨hs1.defers,fin h1 rfl⟩
    | ret=>exact ⟨hs1.defers,fin h1 rfl⟩
    | exit j=>cases h1
  ·cases h
 ·cases h
end
end Go.Proofs.VE
