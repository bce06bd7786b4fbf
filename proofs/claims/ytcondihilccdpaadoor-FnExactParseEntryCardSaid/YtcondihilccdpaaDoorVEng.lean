import Derived.Test.YtcondihilccdpaaDoorVEnn
namespace Go.Proofs.VE
open Go
inductive TabG (C':Ctx) (n:Nat) (hp:List (Nm × Blk)):List (Nm × Blk)→List (Nm × Dat)→List (Option Nm)→Prop
 | nil:TabG C' n hp [] [] []
 | cons (m:Nm) (b:Blk) (s:Nm) (l:List (Nm × Blk)) (t:List (Nm × Dat)) (so:List (Option Nm)) (h1:getH hp s=some b) (h2:b.box=false) (h:TabG C' n hp l t so) :
   TabG C' n hp ((m,b) :: l) ((m,C'.dat s) :: t) (some s :: so)
 | nilb (m:Nm) (tys:List CT) (l:List (Nm × Blk)) (t:List (Nm × Dat)) (so:List (Option Nm)) (h:TabG C' n hp l t so) :
   TabG C' n hp ((m,⟨false,tys,[]⟩) :: l) ((m,⟨false,(0,0),tys.length,0,0⟩) :: t) (none :: so)
section
variable {C' C2:Ctx} {n:Nat} {hp:List (Nm × Blk)} {ns:List Nm} {w':World}
theorem TabG.append {l l':List (Nm × Blk)} {t t':List (Nm × Dat)} {so so':List (Option Nm)} (h:TabG C' n hp l t so) (k:TabG C' n hp l' t' so'):TabG C' n hp (l++l') (t++t') (so++so'):=by
 induction h with
 | nil=>exact k
 | cons m b s l t so h1 h2 _ ih=>exact .cons m b s _ _ _ h1 h2 ih
 | nilb m tys l t so _ ih=>exact .nilb m tys _ _ _ ih
theorem TabG.names {l:List (Nm × Blk)} {t:List (Nm × Dat)} {so:List (Option Nm)} (h:TabG C' n hp l t so):t.map (·.1)=l.map (·.1):=by
 induction h with
 | nil=>rfl
 | cons m b s l t so h1 h2 _ ih=>simp [ih]
 | nilb m tys l t so _ ih=>simp [ih]
theorem TabG.lens {l:List (Nm × Blk)} {t:List (Nm × Dat)} {so:List (Option Nm)} (h:TabG C' n hp l t so):so.length=l.length:=by
 induction h with
 | nil=>rfl
 | cons m b s l t so h1 h2 _ ih=>simp [ih]
 | nilb m tys l t so _ ih=>simp [ih]
theorem TabG.flat {l:List (Nm × Blk)} {t:List (Nm × Dat)} {so:List (Option Nm)} (h:TabG C' n hp l t so):∀ (i:Nat) (s:Nm),so[i]?=some (some s)→∃ b,getH hp s=some b∧b.box=false:=by
 induction h with
 | nil=>intro i s h;simp at h
 | cons m b s l t so h1 h2 _ ih =>
  intro i s' h
  cases i with
  | zero=>simp at h;subst h;exact ⟨b,h1,h2⟩
  | succ i=>exact ih i s' (by simpa using h)
 | nilb m tys l t so _ ih =>
  intro i s' h
  cases i with
  | zero=>simp at h
  | succ i=>exact ih i s' (by simpa using h)
theorem TabG.get {l:List (Nm × Blk)} {t:List (Nm × Dat)} {so:List (Option Nm)} (h:TabG C' n hp l t so):∀ (i:Nat) (x:Nm × Blk),l[i]?=some x→∃ D,t[i]?=some (x.1,D) ∧
  ((∃ s,so[i]?=some (some s)∧getH hp s=some x.2∧x.2.box=false∧D=C'.dat s)∨(x.2.box=false∧x.2.xs=[]∧D=⟨false,(0,0),x.2.tys.length,0,0⟩)):=by
 induction h with
 | nil=>intro i x h;simp at h
 | cons m b s l t so h1 h2 _ ih =>
  intro i x h
  cases i with
  | zero=>simp at h;subst h;exact ⟨_,rfl,.inl ⟨s,rfl,h1,h2,rfl⟩⟩
  | succ i=>exact ih i x (by simpa using h)
 | nilb m tys l t so _ ih =>
  intro i x h
  cases i with
  | zero=>simp at h;subst h;exact ⟨_,rfl,.inr ⟨rfl,rfl,rfl⟩⟩
  | succ i=>exact ih i x (by simpa using h)
structure LinkG (C' C2:Ctx) (n:Nat) (ns:List Nm):Prop where
 dat:∀ j,1≤j→j≤n→∃ m,ns[j - 1]?=some m∧C2.dat m=C'.dat [j]
 mem:∀ a v,C'.mem a=some v→C2.mem a=some v
theorem turnK {a b:Nm} (hd:C2.dat b=C'.dat a) (hm:∀ ad v,C'.mem ad=some v→C2.mem ad=some v) {x y:AV} {u:Value} (h:VR C' x u) (hc:canK [(a,b)] x=some y):VR C2 y u :=
 canK_sound (fun m c hf=>by
  simp only [findN] at hf
  cases hb:nmEq a m with
  | false=>rw [hb] at hf;cases hf
  | true =>
   rw [hb] at hf
   obtain rfl:=(nmEq_iff _ _).1 hb
   obtain rfl:=Option.some.inj hf
   exact hd) hm h hc
theorem sameK (hm:∀ ad v,C'.mem ad=some v→C2.mem ad=some v) {x:AV} {u:Value} (h:VR C' x u) (hc:canK [] x=some x):VR C2 x u :=
 canK_sound (fun m c hf=>by simp [findN] at hf) hm h hc
theorem isArg_inv {nm:Nm} (h:isArg n nm=true):∃ j,nm=[j]∧1≤j∧j≤n:=by
 unfold isArg at h
 split at h
 ·rename_i j
  rw [Bool.and_eq_true] at h
  exact ⟨j,rfl,Nat.le_of_ble_eq_true h.1,Nat.le_of_ble_eq_true h.2⟩
 ·cases h
theorem exT_imp {P:Program} {n':Nat} (hle:n'≤n) {t:Option TypeId} {x y:AV} {so:List (Option Nm)} {u:Value} (h:exT P n' hp t x=some (y,so)) (hv:VR C' x u) (p:Nm) (hp2:2≤p.length) :
  ∃ tb,TabG C' n hp (imp1 p y).2 tb so∧∀ C2,LinkG C' C2 n ns→(∀ z ∈ tb,C2.dat z.1=z.2)→VR C2 (un1 ns (imp1 p y).1) u:=by
 have pure:∀ {x:AV},VR C' x u→canK [] x=some x→(∀ nm,x ≠ .own nm)→(∀ nm a l,x ≠ .sub nm a l)→(∀ nm i o,x ≠ .ptr nm i o)→(∀ tys xs,x ≠ .fl tys xs)→(y,so)=(x,[]) →
   ∃ tb,TabG C' n hp (imp1 p y).2 tb so∧∀ C2,LinkG C' C2 n ns→(∀ z ∈ tb,C2.dat z.1=z.2)→VR C2 (un1 ns (imp1 p y).1) u:=fun {x} hx hc h1 h2 h3 h4 he=>by
  obtain ⟨rfl,rfl⟩:=Prod.mk.inj he
  have e:imp1 p y=(y,[]):=by
   unfold imp1
   split
   ·exact absurd rfl (h4 _ _)
   ·rfl
  have e2:un1 ns y=y:=by
   unfold un1
   split
   ·exact absurd rfl (h1 _)
   ·exact absurd rfl (h2 _ _ _)
   ·exact absurd rfl (h3 _ _ _)
   ·rfl
  rw [e]
  refine ⟨[],.nil,fun C2 L _=>?_⟩
  rw [e2]
  exact sameK L.mem hx hc
 have hown:∀ m:Nm,un1 ns (.own p) = .own p:=fun _=>by
  match p,hp2 with
  | a :: b :: r,_=>rfl
 unfold exT at h
 split at h
 ·split at h
  ·rename_i e he
   simp only [Option.some.injEq,Prod.mk.injEq] at h
   obtain ⟨rfl,rfl⟩:=h
   refine ⟨[(p,⟨false,(0,0),(ctsT P 6 e).length,0,0⟩)],.nilb p _ _ _ _ .nil,fun C2 L hd=>?_⟩
   show VR C2 (un1 ns (.own p)) u
   rw [hown p]
   cases hv
   refine .ownNil p ?_
   unfold Ctx.len
   rw [hd _ List.mem_cons_self]
  ·simp only [Option.some.injEq,Prod.mk.injEq] at h
   obtain ⟨rfl,rfl⟩:=h
   exact pure hv rfl (fun _ h=>by cases h) (fun _ _ _ h=>by cases h) (fun _ _ _ h=>by cases h) (fun _ _ h=>by cases h) rfl
 ·unfold ex1 at h
  split at h
  ·rename_i nm _
   cases ha:isArg n' nm with
   | true =>
    rw [ha] at h
    simp only [cond_true,Option.some.injEq,Prod.mk.injEq] at h
    obtain ⟨rfl,rfl⟩:=h
    obtain ⟨j,rfl,j1,j2⟩:=isArg_inv ha
    refine ⟨[],.nil,fun C2 L _=>?_⟩
    obtain ⟨m,e1,e2⟩:=L.dat j j1 (by omega)
    show VR C2 (match ns[j - 1]? with|some n => .own n|none => .undef) u
    rw [e1]
    exact turnK e2 L.mem hv (by simp [canK,findN,nmEq_refl])
   | false =>
    rw [ha] at h
    simp only [cond_false] at h
    split at h
    ·rename_i b hb
     cases hbox:b.box with
     | true=>rw [hbox] at h;cases h
     | false =>
      rw [hbox] at h
      simp only [cond_false,Option.some.injEq,Prod.mk.injEq] at h
      obtain ⟨rfl,rfl⟩:=h
      have hb':(⟨false,b.tys,b.xs⟩:Blk)=b:=by rw [← hbox]
      refine ⟨[(p,C'.dat nm)],?_,fun C2 L hd=>?_⟩
      ·show TabG C' n hp [(p,⟨false,b.tys,b.xs⟩)] _ _
       rw [hb']
       exact .cons p b nm _ _ _ hb hbox .nil
      ·show VR C2 (un1 ns (.own p)) u
       rw [hown p]
       exact turnK (hd _ List.mem_cons_self) L.mem hv (by simp [canK,findN,nmEq_refl])
    ·cases h
  ·rename_i nm a l _
   cases ha:isArg n' nm with
   | true =>
    rw [ha] at h
    simp only [cond_true,Option.some.injEq,Prod.mk.injEq] at h
    obtain ⟨rfl,rfl⟩:=h
    obtain ⟨j,rfl,j1,j2⟩:=isArg_inv ha
    refine ⟨[],.nil,fun C2 L _=>?_⟩
    obtain ⟨m,e1,e2⟩:=L.dat j j1 (by omega)
    show VR C2 (match ns[j - 1]? with|some n => .sub n a l|none => .undef) u
    rw [e1]
    exact turnK e2 L.mem hv (by simp [canK,findN,nmEq_refl])
   | false=>rw [ha] at h;cases h
  ·rename_i nm i o _
   cases ha:isArg n' nm with
   | true =>
    rw [ha] at h
    simp only [cond_true,Option.some.injEq,Prod.mk.injEq] at h
    obtain ⟨rfl,rfl⟩:=h
    obtain ⟨j,rfl,j1,j2⟩:=isArg_inv ha
    refine ⟨[],.nil,fun C2 L _=>?_⟩
    obtain ⟨m,e1,e2⟩:=L.dat j j1 (by omega)
    show VR C2 (match ns[j - 1]? with|some n => .ptr n i o|none => .undef) u
    rw [e1]
    exact turnK e2 L.mem hv (by simp [canK,findN,nmEq_refl])
   | false=>rw [ha] at h;cases h
  all_goals first
   | (cases h;done)
   | exact pure hv rfl (fun _ h=>by cases h) (fun _ _ _ h=>by cases h) (fun _ _ _ h=>by cases h) (fun _ _ h=>by cases h) (Option.some.inj h).symm
   | (
     rename_i f _
     simp only [Option.some.injEq,Prod.mk.injEq] at h
     obtain ⟨rfl,rfl⟩:=h
     refine ⟨[],.nil,fun C2 L _=>?_⟩
     cases hv with
     | fn _ _ vs h1 h2=>exact .fn f [] vs h1 fun i c v hc _=>by simp at hc)
def CRel (C:Ctx) (x:AV) (g:Nat→Option Value):Prop:=∀ j c,x.cells[j]?=some c→∃ u,g j=some u∧VR C c u
def SameSh (x z:AV):Prop:=(∃ cs zs,x = .agg cs∧z = .agg zs∧zs.length=cs.length)∨((∀ cs,x ≠ .agg cs)∧∀ zs,z ≠ .agg zs)
theorem cells_one {x:AV} (h:∀ cs,x ≠ .agg cs):x.cells=[x]:=by
 cases x <;> first|rfl|exact absurd rfl (h _)
theorem SameSh.len {x z:AV} (h:SameSh x z):z.cells.length=x.cells.length:=by
 rcases h with ⟨cs,zs,rfl,rfl,e⟩|⟨h1,h2⟩
 ·exact e
 ·rw [cells_one h1,cells_one h2];rfl
theorem impCs_len (p:Nm):∀ (j:Nat) (ys:List AV),(impCs p j ys).1.length=ys.length
 | _,[]=>rfl
 | j,y :: ys=>by simp [impCs,impCs_len p (j+1) ys]
theorem exCs_imp {P:Program} {n':Nat} (hle:n'≤n) {g:Nat→Option Value}:∀ {ts:List (Option TypeId)} {cs ys:List AV} {so:List (Option Nm)},exCs P n' hp ts cs=some (ys,so)→∀ (p:Nm) (j0 k0:Nat),1≤p.length →
  (∀ j c,cs[j]?=some c→∃ u,g (k0+j)=some u∧VR C' c u) →
  ∃ tb,TabG C' n hp (impCs p j0 ys).2 tb so∧ys.length=cs.length∧∀ C2,LinkG C' C2 n ns→(∀ z ∈ tb,C2.dat z.1=z.2)→∀ j c,((impCs p j0 ys).1.map (un1 ns))[j]?=some c→∃ u,g (k0+j)=some u∧VR C2 c u
 | [],[],ys,so,h,p,j0,k0,_,_=>by
  simp only [exCs,Option.some.injEq,Prod.mk.injEq] at h
  obtain ⟨rfl,rfl⟩:=h
  exact ⟨[],.nil,rfl,fun C2 _ _ j c hj=>by simp [impCs] at hj⟩
 | [],_ :: _,_,_,h,_,_,_,_,_=>by simp [exCs] at h
 | _ :: _,[],_,_,h,_,_,_,_,_=>by simp [exCs] at h
 | t :: ts,x :: xs,ys,so,h,p,j0,k0,hp2,hv=>by
  simp only [exCs] at h
  split at h
  ·rename_i y l ys' ls h1 h2
   simp only [Option.some.injEq,Prod.mk.injEq] at h
   obtain ⟨rfl,rfl⟩:=h
   obtain ⟨u,g1,g2⟩:=hv 0 x rfl
   obtain ⟨tb1,a1,a2⟩:=exT_imp (ns:=ns) hle h1 g2 (j0 :: p) (by simp;omega)
   obtain ⟨tb2,b1,b2,b3⟩:=exCs_imp hle h2 p (j0+1) (k0+1) hp2 (fun j c hc=>by
    obtain ⟨u,e1,e2⟩:=hv (j+1) c (by simpa using hc)
    exact ⟨u,by rw [← e1];congr 1;omega,e2⟩)
   refine ⟨tb1++tb2,a1.append b1,by simp [b2],fun C2 L hd j c hc=>?_⟩
   simp only [impCs,List.map_cons] at hc
   cases j with
   | zero =>
    simp at hc
    subst hc
    exact ⟨u,g1,a2 C2 L fun z hz=>hd z (List.mem_append_left _ hz)⟩
   | succ j =>
    obtain ⟨u',e1,e2⟩:=b3 C2 L (fun z hz=>hd z (List.mem_append_right _ hz)) j c (by simpa using hc)
    exact ⟨u',by rw [← e1];congr 1;omega,e2⟩
  ·cases h
theorem exT_noagg {P:Program} {t:Option TypeId} {x y:AV} {so:List (Option Nm)} (h:exT P n hp t x=some (y,so)):∀ cs,y ≠ .agg cs:=by
 intro cs e
 subst e
 unfold exT at h
 split at h
 ·split at h <;> simp at h
 ·unfold ex1 at h
  split at h
  all_goals first
   | (simp at h;done)
   | (cases hc:isArg n _ <;> rw [hc] at h <;> simp at h;done)
   | skip
  all_goals
   rename_i nm _
   cases hc:isArg n nm <;> rw [hc] at h
   ·simp only [cond_false] at h
    split at h
    ·rename_i b _
     cases hb:b.box <;> rw [hb] at h <;> simp at h
    ·cases h
   ·simp at h
theorem imp1_noagg {p:Nm} {y:AV} (h:∀ cs,y ≠ .agg cs):imp2 p y=imp1 p y∧(∀ cs,(imp1 p y).1 ≠ .agg cs):=by
 refine ⟨?_,fun cs e=>?_⟩
 ·unfold imp2
  split
  ·exact absurd rfl (h _)
  ·rfl
 ·unfold imp1 at e
  split at e
  ·cases e
  ·exact h cs e
theorem un1_noagg {x:AV} (h:∀ cs,x ≠ .agg cs):un2 ns x=un1 ns x∧∀ cs,un1 ns x ≠ .agg cs:=by
 refine ⟨?_,fun cs e=>?_⟩
 ·unfold un2
  split
  ·exact absurd rfl (h _)
  ·rfl
 ·unfold un1 at e
  repeat' split at e
  all_goals first
   | (cases e;done)
   | exact h cs e
theorem ex2_imp {P:Program} {n':Nat} (hle:n'≤n) {g:Nat→Option Value} {t:Option TypeId} {x y:AV} {so:List (Option Nm)} (h:ex2 P n' hp t x=some (y,so)) (hv:CRel C' x g) (p:Nm) (hp2:2≤p.length) :
  ∃ tb,TabG C' n hp (imp2 p y).2 tb so∧SameSh x (un2 ns (imp2 p y).1)∧∀ C2,LinkG C' C2 n ns→(∀ z ∈ tb,C2.dat z.1=z.2)→CRel C2 (un2 ns (imp2 p y).1) g:=by
 unfold ex2 at h
 split at h
 ·rename_i cs
  split at h
  ·rename_i ys l h1
   simp only [Option.some.injEq,Prod.mk.injEq] at h
   obtain ⟨rfl,rfl⟩:=h
   obtain ⟨tb,a1,a2,a3⟩:=exCs_imp (ns:=ns) hle h1 p 0 0 (by omega) (fun j c hc=>by
    obtain ⟨u,e1,e2⟩:=hv j c hc
    exact ⟨u,by rw [← e1];congr 1;omega,e2⟩)
   refine ⟨tb,a1,.inl ⟨cs,_,rfl,rfl,by rw [List.length_map,impCs_len,a2]⟩,fun C2 L hd j c hc=>?_⟩
   obtain ⟨u,e1,e2⟩:=a3 C2 L hd j c hc
   exact ⟨u,by rw [← e1];congr 1;omega,e2⟩
  ·cases h
 ·rename_i hna
  have hna':∀ cs,x ≠ .agg cs:=fun cs e=>hna cs e
  obtain ⟨u,g1,g2⟩:=hv 0 x (by rw [cells_one hna'];rfl)
  obtain ⟨tb,a1,a2⟩:=exT_imp (ns:=ns) hle h g2 p hp2
  obtain ⟨e1,e2⟩:=imp1_noagg (p:=p) (exT_noagg h)
  obtain ⟨e3,e4⟩:=un1_noagg (ns:=ns) e2
  rw [e1,e3]
  refine ⟨tb,a1,.inr ⟨hna',e4⟩,fun C2 L hd j c hc=>?_⟩
  rw [cells_one e4] at hc
  cases j with
  | zero=>simp at hc;subst hc;exact ⟨u,g1,a2 C2 L hd⟩
  | succ j=>simp at hc
theorem impVs_len (p:Nm):∀ (j:Nat) (ys:List AV),(impVs p j ys).1.length=ys.length
 | _,[]=>rfl
 | j,y :: ys=>by simp [impVs,impVs_len p (j+1) ys]
theorem exVs_imp {P:Program} {g:Nat→Nat→Option Value}:∀ {ts:List (Option TypeId)} {xs ys:List AV} {so:List (Option Nm)},exVs P n hp ts xs=some (ys,so)→∀ (p:Nm) (j0 k0:Nat),1≤p.length →
  (∀ (j:Nat) (x:AV),xs[j]?=some x→CRel C' x (g (k0+j))) →
  ∃ tb,TabG C' n hp (impVs p j0 ys).2 tb so∧ys.length=xs.length∧(∀ (j:Nat) (x z:AV),xs[j]?=some x→((impVs p j0 ys).1.map (un2 ns))[j]?=some z→SameSh x z) ∧
   ∀ C2,LinkG C' C2 n ns→(∀ z ∈ tb,C2.dat z.1=z.2)→∀ (j:Nat) (z:AV),((impVs p j0 ys).1.map (un2 ns))[j]?=some z→CRel C2 z (g (k0+j))
 | [],[],ys,so,h,p,j0,k0,_,_=>by
  simp only [exVs,Option.some.injEq,Prod.mk.injEq] at h
  obtain ⟨rfl,rfl⟩:=h
  exact ⟨[],.nil,rfl,fun j x z hx=>by simp at hx,fun C2 _ _ j c hj=>by simp [impVs] at hj⟩
 | [],_ :: _,_,_,h,_,_,_,_,_=>by simp [exVs] at h
 | _ :: _,[],_,_,h,_,_,_,_,_=>by simp [exVs] at h
 | t :: ts,x :: xs,ys,so,h,p,j0,k0,hp2,hv=>by
  simp only [exVs] at h
  split at h
  ·rename_i y l ys' ls h1 h2
   simp only [Option.some.injEq,Prod.mk.injEq] at h
   obtain ⟨rfl,rfl⟩:=h
   obtain ⟨tb1,a1,a0,a2⟩:=ex2_imp (ns:=ns) (n:=n) (by omega) h1 (hv 0 x rfl) (j0 :: p) (by simp;omega)
   obtain ⟨tb2,b1,b2,b0,b3⟩:=exVs_imp h2 p (j0+1) (k0+1) hp2 (fun j c hc=>by
    have:=hv (j+1) c (by simpa using hc)
    rw [show k0+1+j=k0+(j+1) by omega]
    exact this)
   refine ⟨tb1++tb2,a1.append b1,by simp [b2],fun j x' z hx hz=>?_,fun C2 L hd j z hz=>?_⟩
   ·simp only [impVs,List.map_cons] at hz
    cases j with
    | zero=>simp at hx hz;subst hx;subst hz;exact a0
    | succ j=>exact b0 j x' z (by simpa using hx) (by simpa using hz)
   ·simp only [impVs,List.map_cons] at hz
    cases j with
    | zero=>simp at hz;subst hz;exact a2 C2 L fun z hz=>hd z (List.mem_append_left _ hz)
    | succ j =>
     have:=b3 C2 L (fun z hz=>hd z (List.mem_append_right _ hz)) j z (by simpa using hz)
     rw [show k0+(j+1)=k0+1+j by omega]
     exact this
  ·cases h
end
end Go.Proofs.VE
