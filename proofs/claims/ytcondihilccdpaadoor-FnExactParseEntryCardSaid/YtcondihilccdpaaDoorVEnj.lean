import Derived.Test.YtcondihilccdpaaDoorVEni
namespace Go.Proofs.VE
open Go
section
variable {P:Program} {C C':Ctx} {nt:Nat} {st:St} {a:Act} {w w':World} {heap:List (Nm × Blk)}
theorem unpk_vals {ts:List TypeId} {v:AV} {u:Value} {vs:List AV} (h:unpkA ts v=some vs) (hv:VR C' v u) :
  ∃ us:List Value,vs.length=us.length∧(∀ (i:Nat) (x:AV) (y:Value),vs[i]?=some x→us[i]?=some y→VR C' x y) ∧
   ∀ (C2:Ctx) (zs:List AV),zs.length=vs.length→(∀ (i:Nat) (z:AV) (y:Value),zs[i]?=some z→us[i]?=some y→VR C2 z y)→VR C2 (packA zs) u:=by
 unfold unpkA at h
 split at h
 ·obtain rfl:=Option.some.inj h
  refine ⟨[u],rfl,fun i x y hx hy=>?_,fun C2 zs hl hz=>?_⟩
  ·cases i with
   | zero=>simp at hx hy;subst hx;subst hy;exact hv
   | succ i=>simp at hx
  ·obtain ⟨z,rfl⟩:=List.length_eq_one_iff.1 hl
   exact hz 0 z u rfl rfl
 ·cases h
 ·rename_i hno _
  obtain rfl:=Option.some.inj h
  cases hv with
  | tup _ us h1 h2 =>
   refine ⟨us,h1,h2,fun C2 zs hl hz=>?_⟩
   have hne:zs.length ≠ 1:=fun e=>by
    obtain ⟨x,hx⟩:=List.length_eq_one_iff.1 (hl.symm.trans e)
    exact hno x hx
   have:packA zs = .tup zs:=by
    unfold packA
    split
    ·simp at hne
    ·rfl
   rw [this]
   exact .tup zs us (hl.trans h1) hz
 ·cases h
theorem gen_back [Glob] {q:Nm} {ns:List Nm} {ts:List TypeId} {gs:List Nat} {v:AV} {u:Value} {hp:List (Nm × Blk)} {rs:List AV} {bs':List (Option Blk)} (hs:Sim C nt st a w) (hq:cleanS q st=true) (hns:ns.Nodup) (hin:∀ n ∈ ns,∃ b,getH st.heap n=some b)
  (H:HSim C' hp w') (hag:Agree (isLoc [0]) (ctxG C w ns) C') (hv:VR C' v u) (hk:∀ K,keepG P ns.length ts gs K v hp=K rs bs') (hnod:nodupN ((impVs (1 :: q) 0 (rs++contO bs')).2.map (·.1))=true) :
  ∃ C2,Agree (under q) C C2∧Sim C2 nt ⟨st.env,((ns.zip ((reBsO bs' ((((impVs (1 :: q) 0 (rs++contO bs')).1).map (un2 ns)).drop rs.length)))++(impVs (1 :: q) 0 (rs++contO bs')).2.map fun x=>(x.1,some x.2)).foldl
    (fun h x=>match x.2 with|some b=>setH h x.1 b|none=>delH h x.1) st.heap)⟩ a w' ∧
   VR C2 (packA ((((impVs (1 :: q) 0 (rs++contO bs')).1).map (un2 ns)).take rs.length)) u:=by
 obtain ⟨vs,ys,so,k2,k3,k4,k5,k6⟩:=keepG_inv hk
 obtain ⟨bs,hbs⟩:∃ bs,bs=argB hp ns.length:=⟨_,rfl⟩
 rw [← hbs] at k3 k6
 have hbl:bs.length=ns.length:=by rw [hbs];simp [argB,argN]
 have hblk:∀ (k:Nat) (b:Blk),bs[k]?=some (some b)→getH hp [1+k]=some b∧k<ns.length:=fun k b h=>by
  have hk:k<ns.length:=by
   have:=(List.getElem?_eq_some_iff.1 h).1
   omega
  rw [hbs] at h
  unfold argB at h
  rw [List.getElem?_map,argN_get hk] at h
  exact ⟨Option.some.inj h,hk⟩
 have hone:∀ b:Blk,some b ∈ bs→b.box=true→b.xs.length=1:=fun b hb hbox=>by
  obtain ⟨k,hk⟩:=List.getElem?_of_mem hb
  exact ((H.blk _ b (hblk k b hk).1).box hbox).1
 obtain ⟨us,hul,huv,hu⟩:=unpk_vals k2 hv
 obtain ⟨r2,r3⟩:=cont_rel (bs:=bs) (nms:=argN ns.length) (by simp [argN,hbl]) hone
 obtain ⟨g,hg⟩:∃ g:Nat→Nat→Option Value,g=fun k j=>match vs[k]?,us[k]? with
  | some x,some y=>valCells x y j
  | _,_=>match (boxNs bs (argN ns.length))[k - vs.length]? with
   | some nm=>w'.cell? (C'.at nm 0 j)
   | none=>none:=⟨_,rfl⟩
 have gR:∀ (k:Nat) (x:AV) (y:Value),vs[k]?=some x→us[k]?=some y→g k=valCells x y:=fun k x y hx hy=>by
  rw [hg];funext j;simp only [hx,hy]
 have gB:∀ (i:Nat) (nm:Nm),(boxNs bs (argN ns.length))[i]?=some nm→g (vs.length+i)=fun j=>w'.cell? (C'.at nm 0 j):=fun i nm h=>by
  rw [hg];funext j
  have e:vs[vs.length+i]?=none:=by simp
  simp only [e,show vs.length+i - vs.length=i by omega,h]
 obtain ⟨tb,t1,t2,t3,t4⟩:=exVs_imp (ns:=ns) (g:=g) k3 (1 :: q) 0 0 (by simp) (fun j x hx=>by
  rw [Nat.zero_add]
  by_cases hj:j<vs.length
  ·rw [List.getElem?_append_left hj] at hx
   obtain ⟨y,hy⟩:∃ y,us[j]?=some y:=⟨_,List.getElem?_eq_getElem (by omega)⟩
   rw [gR j x y hx hy]
   exact valCells_rel (huv j x y hx hy)
  ·rw [List.getElem?_append_right (by omega)] at hx
   obtain ⟨k,b,nm,e1,e2,e3,e4,e5⟩:=r2 _ x hx
   have e6:=gB _ nm e3
   rw [show vs.length+(j - vs.length)=j by omega] at e6
   rw [e6]
   obtain ⟨f1,f2⟩:=hblk k b e1
   rw [argN_get f2] at e2
   obtain rfl:=Option.some.inj e2
   intro j' c hc
   obtain ⟨y,h1,_,h3⟩:=((H.blk _ b f1).cells 0 x (by rw [e5];rfl)).2 j' c hc
   rw [e4] at h3
   exact ⟨y,h1,h3⟩)
 have hyl:ys.length=vs.length+(contO bs).length:=by rw [t2,List.length_append]
 obtain ⟨c1,c2⟩:=cont_reBs (bs:=bs) (ys:=ys.drop vs.length) hone (by rw [List.length_drop];omega)
 have hrl:rs.length=vs.length:=by rw [k5,List.length_take];omega
 have hall:rs++contO bs'=ys:=by rw [k5,k6,contO_drop,c1,List.take_append_drop]
 rw [hall] at hnod ⊢
 rw [hrl]
 have hIl:=impVs_len (1 :: q) 0 ys
 obtain ⟨Z,hZ⟩:∃ Z,Z=(impVs (1 :: q) 0 ys).1.map (un2 ns):=⟨_,rfl⟩
 obtain ⟨I,hI⟩:∃ I,I=(impVs (1 :: q) 0 ys).2:=⟨_,rfl⟩
 rw [← hZ] at t3 t4 ⊢
 have hund:∀ x ∈ I,under q x.1=true:=fun x hx=>by
  rw [hI] at hx
  exact under_trans (impVs_under (1 :: q) ys 0 x hx) ((under_iff _ _).2 ⟨[1],rfl⟩)
 rw [← hI] at t1 hnod ⊢
 have hZl:Z.length=ys.length:=by rw [hZ,List.length_map,hIl]
 rw [k6,reBsO_drop,c2 (Z.drop vs.length) (by rw [List.length_drop,List.length_drop,hZl])]
 obtain ⟨s1,s2⟩:=r3 (Z.drop vs.length) (by rw [List.length_drop];omega)
 have hnod:=nodupN_spec _ hnod
 have hnames:=t1.names
 have hget:∀ x ∈ tb,(C.setAll tb).dat x.1=x.2:=setAll_get (by rw [hnames];exact hnod)
 have hundT:∀ x ∈ tb,under q x.1=true:=fun x hx=>by
  have:x.1 ∈ I.map (·.1):=by rw [← hnames];exact List.mem_map.2 ⟨x,hx,rfl⟩
  obtain ⟨y,hy,e⟩:=List.mem_map.1 this
  rw [← e]
  exact hund y hy
 have hagS:Agree (under q) C (C.setAll tb):=setAll_agree hundT
 obtain ⟨C2,hC2⟩:∃ C2:Ctx,C2={ C.setAll tb with mem:=C'.mem,memF:=C'.memF }:=⟨_,rfl⟩
 have d2:∀ m,C2.dat m=(C.setAll tb).dat m:=fun m=>by rw [hC2]
 have m2:C2.mem=C'.mem:=by rw [hC2]
 have mF2:C2.memF=C'.memF:=by rw [hC2]
 have base2:C2.base=C.base:=by rw [hC2];rfl
 have w02:C2.w0=C.w0:=by rw [hC2];rfl
 have fr2:C2.fr=C.fr:=by rw [hC2];rfl
 have baseC':C'.base=C.base:=hag.base
 have w0C':C'.w0=w:=hag.w0
 have frC':∀ k,C'.fr k ↔ (k<w.heap.size∧∀ n ∈ ns,C.real n=true→(C.loc n).1 ≠ k):=fun k=>by rw [hag.fr];exact Iff.rfl
 have frFr:∀ k,C.fr k→C'.fr k:=fun k hk=>(frC' k).2 ⟨Nat.lt_of_lt_of_le (hs.frame k hk).1 hs.kept.size,fun n hn hr=>by
  obtain ⟨b,hb⟩:=hin n hn
  exact (hs.frame k hk).2.2 n b hb hr⟩
 have hA:Agree (under q) C C2:=by
  refine ⟨base2,w02,fun ad y h=>by rw [m2];exact hag.mem ad y h,fun ad y h=>by rw [mF2];exact hag.memF ad y h,fun ad y h hn=>by rw [mF2];exact hag.old ad y h hn,fun nm hn=>by rw [d2];exact hagS.dat nm hn,fr2,fun ad y h=>?_⟩
  rw [m2] at h
  rcases hag.new ad y h with h|⟨h1,h2⟩
  ·exact .inl h
  ·refine .inr ⟨by rw [mF2];exact h1,fun hf=>h2 ?_⟩
   have:=frFr _ hf
   rw [hag.fr] at this
   exact this
 have hq':=hq
 unfold cleanS at hq'
 rw [Bool.and_eq_true] at hq'
 have clean:∀ nm b,getH st.heap nm=some b→under q nm=false∧(b.box=true→∀ x ∈ b.xs,menV (under q) x=false):=cleanH_get hq'.2
 have datN:∀ (k:Nat) (nm:Nm),ns[k]?=some nm→C2.dat nm=C'.dat [1+k]:=fun k nm h=>by
  obtain ⟨b,hb⟩:=hin nm (List.mem_of_getElem? h)
  rw [hA.dat nm (clean nm b hb).1,hag.dat [1+k] rfl,ctxG_dat h]
 have L:LinkG C' C2 ns.length ns:=⟨fun j j1 j2=>by
  obtain ⟨m,hm⟩:∃ m,ns[j - 1]?=some m:=⟨_,List.getElem?_eq_getElem (by omega)⟩
  have:=datN (j - 1) m hm
  rw [show 1+(j - 1)=j by omega] at this
  exact ⟨m,hm,this⟩,fun ad y h=>by rw [m2];exact h⟩
 have hdt:∀ z ∈ tb,C2.dat z.1=z.2:=fun z hz=>by rw [d2];exact hget z hz
 have from_:∀ nm b,getH ((ns.zip (dropO so gs 0 (reBsO bs (Z.drop vs.length)))++I.map fun x=>(x.1,some x.2)).foldl (fun h x=>match x.2 with|some b=>setH h x.1 b|none=>delH h x.1) st.heap) nm=some b →
   BlkR C2 w' nm b∧((∃ (s:Nm) (b0:Blk),getH hp s=some b0∧C2.dat nm=C'.dat s∧((∃ k:Nat,ns[k]?=some nm∧s=[1+k]∧∀ i:Nat,so[i]? ≠ some (some s))∨(∃ i:Nat,I[i]?=some (nm,b)∧so[i]?=some (some s)))) ∨
    C2.real nm=false∨(getH st.heap nm=some b∧C2.dat nm=C.dat nm∧nm ∉ ns)):=by
  intro nm b hgb
  rw [List.foldl_append] at hgb
  rcases foldH_get I _ hgb with ⟨i,hi⟩|⟨hni,hgb⟩
  ·obtain ⟨D,e1,e2⟩:=t1.get i (nm,b) hi
   have hD:C2.dat nm=D:=hdt _ (List.mem_of_getElem? e1)
   rcases e2 with ⟨s,f1,f2,f3,rfl⟩|⟨f1,f2,rfl⟩
   ·exact ⟨(H.blk s b f2).carry hD (by rw [base2,baseC'];exact Nat.le_refl _) f3 fun ad y h=>by rw [mF2];exact h,.inl ⟨s,b,f2,hD,.inr ⟨i,hi,f1⟩⟩⟩
   ·have hb:b=⟨false,b.tys,[]⟩:=by
     have f1:b.box=false:=f1
     have f2:b.xs=[]:=f2
     rw [← f1,← f2]
    refine ⟨by rw [hb];exact BlkR.none hD,.inr (.inl (by unfold Ctx.real;rw [hD]))⟩
  ·rcases zipO_get (nm:=nm) (ns:=ns) (bs:=dropO so gs 0 (reBsO bs (Z.drop vs.length))) (heap:=st.heap) hns ((dropO_len _ _ _ _).trans (s1.trans hbl)) hgb with ⟨k,h1,h2⟩|⟨h1,h2⟩
   ·obtain ⟨h2,h4⟩:=dropO_get so gs 0 _ k h2
    rw [Nat.zero_add] at h4
    obtain ⟨b0,g1,g2⟩:=s2 k b h2
    obtain ⟨f1,f2⟩:=hblk k b0 g1
    have hd:=datN k nm h1
    have hno:∀ i:Nat,so[i]? ≠ some (some [1+k]):=by
     rcases h4 with h4|h4
     ·intro i hi
      have hbox0:b0.box=true:=by
       rcases g2 with ⟨g2,rfl⟩|⟨g2,_⟩
       ·exact h4
       ·exact g2
      obtain ⟨b9,q2,q3⟩:=t1.flat i _ hi
      rw [f1] at q2
      obtain rfl:=Option.some.inj q2
      rw [hbox0] at q3
      cases q3
     ·exact h4
    refine ⟨?_,.inl ⟨[1+k],b0,f1,hd,.inl ⟨k,h1,rfl,hno⟩⟩⟩
    rcases g2 with ⟨g2,rfl⟩|⟨g2,i,x,z,g3,g4,g5,g6,rfl⟩
    ·exact (H.blk _ b f1).carry hd (by rw [base2,baseC'];exact Nat.le_refl _) g2 fun ad y h=>by rw [mF2];exact h
    ·rw [argN_get f2] at g6
     rw [List.getElem?_drop] at g5
     have e1:=t4 C2 L hdt (vs.length+i) z g5
     rw [Nat.zero_add,gB i _ g6] at e1
     exact (H.blk _ b0 f1).reBox g2 g4 (t3 (vs.length+i) x z (by rw [List.getElem?_append_right (by omega),show vs.length+i - vs.length=i by omega];exact g3) g5) e1 hd (by rw [base2,baseC'])
   ·skip
    have hd:=hA.dat nm (clean nm b h2).1
    refine ⟨?_,.inr (.inr ⟨h2,hd,h1⟩)⟩
    refine BlkR.move hA ((hs.blk nm b h2).world (fun hr=>?_) (by have:=H.kept.size;rw [w0C'] at this;exact this)) (clean nm b h2).1 (clean nm b h2).2
    have hf:C'.fr (C.loc nm).1:=(frC' _).2 ⟨((hs.blk nm b h2).room hr).2.1,fun n hn hrn=>by
     obtain ⟨b',hb'⟩:=hin n hn
     exact hs.apart n b' nm b hb' h2 hrn hr fun e=>h1 (e ▸ hn)⟩
    have:=(H.frame _ hf).2.1
    rw [w0C'] at this
    exact this
 have oldFr:∀ nm b,getH st.heap nm=some b→nm ∉ ns→C.real nm=true→C'.fr (C.loc nm).1:=fun nm b h2 h1 hr=>(frC' _).2 ⟨((hs.blk nm b h2).room hr).2.1,fun n hn hrn=>by
  obtain ⟨b',hb'⟩:=hin n hn
  exact hs.apart n b' nm b hb' h2 hrn hr fun e=>h1 (e ▸ hn)⟩
 have locOf:∀ {nm s},C2.dat nm=C'.dat s→C2.real nm=C'.real s∧(C2.loc nm).1=(C'.loc s).1:=fun h=>⟨by unfold Ctx.real;rw [h],by unfold Ctx.loc;rw [h]⟩
 have locOld:∀ {nm},C2.dat nm=C.dat nm→C2.real nm=C.real nm∧(C2.loc nm).1=(C.loc nm).1:=fun h=>⟨by unfold Ctx.real;rw [h],by unfold Ctx.loc;rw [h]⟩
 refine ⟨C2,hA,?_,?_⟩
 ·refine { toHSim:=⟨fun nm b h=>(from_ nm b h).1,fun nm b nm' b' h h' hr hr' hne=>?_,fun ad y h=>?_,by have:=H.grown;rw [baseC'] at this;rw [base2];exact this,?_,fun ad y h hn=>?_,fun ad y h=>?_,by rw [w02,base2];exact hs.glob,fun k hk=>?_⟩,size:=hs.size,defers:=hs.defers,env:=fun t=>(hs.env t).move hA (cleanE_get hq'.1 t) }
  ·obtain ⟨_,o⟩:=from_ nm b h
   obtain ⟨_,o'⟩:=from_ nm' b' h'
   rcases o with ⟨s,b0,p1,p2,p3⟩|o|⟨p1,p2,p3⟩
   ·obtain ⟨l1,l2⟩:=locOf p2
    rcases o' with ⟨s',b0',p1',p2',p3'⟩|o'|⟨p1',p2',p3'⟩
    ·obtain ⟨l1',l2'⟩:=locOf p2'
     rw [l2,l2']
     refine H.apart s b0 s' b0' p1 p1' (l1 ▸ hr) (l1' ▸ hr') fun e=>?_
     subst e
     rcases p3 with ⟨k,f1,f2,f3⟩|⟨i,f1,f2⟩
     ·rcases p3' with ⟨k',f1',f2',f3'⟩|⟨i',f1',f2'⟩
      ·rw [f2] at f2'
       have:k=k':=by simp at f2';omega
       subst this
       rw [f1] at f1'
       exact hne (Option.some.inj f1')
      ·exact absurd f2' (f3 i')
     ·rcases p3' with ⟨k',f1',f2',f3'⟩|⟨i',f1',f2'⟩
      ·exact absurd f2 (f3' i)
      ·have:=fmap_inj k4 f2 f2'
       subst this
       rw [f1] at f1'
       exact hne (Prod.mk.inj (Option.some.inj f1')).1
    ·rw [o'] at hr';cases hr'
    ·obtain ⟨l1',l2'⟩:=locOld p2'
     rw [l2,l2']
     exact (H.frame _ (oldFr nm' b' p1' p3' (l1' ▸ hr'))).2.2 s b0 p1 (l1 ▸ hr)
   ·rw [o] at hr;cases hr
   ·obtain ⟨l1,l2⟩:=locOld p2
    rcases o' with ⟨s',b0',p1',p2',p3'⟩|o'|⟨p1',p2',p3'⟩
    ·obtain ⟨l1',l2'⟩:=locOf p2'
     rw [l2,l2']
     exact fun e=>(H.frame _ (oldFr nm b p1 p3 (l1 ▸ hr))).2.2 s' b0' p1' (l1' ▸ hr') e.symm
    ·rw [o'] at hr';cases hr'
    ·obtain ⟨l1',l2'⟩:=locOld p2'
     rw [l2,l2']
     exact hs.apart nm b nm' b' p1 p1' (l1 ▸ hr) (l1' ▸ hr') hne
  ·rw [m2] at h
   obtain ⟨q1,q2,q3⟩:=H.mem ad y h
   refine ⟨q1,q2,fun nm b hb hr=>?_⟩
   obtain ⟨_,o⟩:=from_ nm b hb
   rcases o with ⟨s,b0,p1,p2,p3⟩|o|⟨p1,p2,p3⟩
   ·obtain ⟨l1,l2⟩:=locOf p2
    rw [l2]
    exact q3 s b0 p1 (l1 ▸ hr)
   ·rw [o] at hr;cases hr
   ·obtain ⟨l1,l2⟩:=locOld p2
    rw [l2]
    rcases hag.new ad y h with h|⟨_,h2⟩
    ·exact (hs.mem ad y h).2.2 nm b p1 (l1 ▸ hr)
    ·intro e
     have:=oldFr nm b p1 p3 (l1 ▸ hr)
     rw [e,hag.fr] at this
     exact h2 this
  ·rw [base2,w02]
   have:=H.kept
   rw [baseC',w0C'] at this
   exact hs.kept.trans this
  ·rw [m2] at h
   rw [mF2] at hn
   rw [w02]
   have e1:=H.blk0 ad y h hn
   rw [w0C'] at e1
   rcases hag.new ad y h with h|⟨h1,_⟩
   ·refine e1.trans (hs.blk0 ad y h ?_)
    cases hm:C.memF ad with
    | none=>rfl
    | some z=>rw [hag.memF ad z hm] at hn;cases hn
   ·rw [h1] at hn;cases hn
  ·rw [mF2] at h
   rw [m2,base2,← baseC']
   exact H.own ad y h
  ·rw [fr2] at hk
   obtain ⟨f1,f2,f3⟩:=hs.frame k hk
   obtain ⟨_,f5,f6⟩:=H.frame k (frFr k hk)
   rw [w0C'] at f5
   refine ⟨by rw [w02];exact f1,by rw [w02];exact f5.trans f2,fun nm b hb hr=>?_⟩
   obtain ⟨_,o⟩:=from_ nm b hb
   rcases o with ⟨s,b0,p1,p2,p3⟩|o|⟨p1,p2,p3⟩
   ·obtain ⟨l1,l2⟩:=locOf p2
    rw [l2]
    exact f6 s b0 p1 (l1 ▸ hr)
   ·rw [o] at hr;cases hr
   ·obtain ⟨l1,l2⟩:=locOld p2
    rw [l2]
    exact f3 nm b p1 (l1 ▸ hr)
 ·refine hu C2 _ (by rw [List.length_take];omega) fun i z y hz hy=>?_
  have hi:i<vs.length:=by
   have:=(List.getElem?_eq_some_iff.1 hy).1
   omega
  rw [List.getElem?_take_of_lt hi] at hz
  obtain ⟨x,hx⟩:∃ x,vs[i]?=some x:=⟨_,List.getElem?_eq_getElem hi⟩
  have e1:=t4 C2 L hdt i z hz
  rw [Nat.zero_add,gR i x y hx hy] at e1
  exact valCells_back (t3 i x z (by rw [List.getElem?_append_left hi];exact hx) hz) (huv i x y hx hy) e1
end
end Go.Proofs.VE
