import Derived.Test.YtcondihilccdpaaDoorVEq
namespace Go.Proofs.VE
open Go
section
variable {κ β:Type} [DecidableEq κ]
def lk (l:List (κ × β)) (k:κ):Option β:=(l.find? fun x=>x.1=k).map (·.2)
theorem lk_nil (k:κ):lk ([]:List (κ × β)) k=none:=rfl
theorem lk_cons (a:κ) (x:β) (r:List (κ × β)) (k:κ):lk ((a,x) :: r) k=if a=k then some x else lk r k:=by
 unfold lk
 by_cases h:a=k <;> simp [h]
theorem lk_mem {l:List (κ × β)} {k:κ} {v:β} (h:lk l k=some v):(k,v) ∈ l:=by
 induction l with
 | nil=>cases h
 | cons x r ih =>
  obtain ⟨a,y⟩:=x
  rw [lk_cons] at h
  split at h
  ·rename_i e;subst e;obtain rfl:=Option.some.inj h;exact List.mem_cons_self
  ·exact List.mem_cons_of_mem _ (ih h)
theorem ext_sorted {lt:κ→κ→Prop} (asym:∀ a b,lt a b→¬ lt b a):∀ (l1 l2:List (κ × β)),l1.Pairwise (fun x y=>lt x.1 y.1)→l2.Pairwise (fun x y=>lt x.1 y.1)→(∀ k,lk l1 k=lk l2 k)→l1=l2
 | [],[],_,_,_=>rfl
 | [],(b,y) :: r2,_,_,h=>by have:=h b;rw [lk_cons,lk_nil,if_pos rfl] at this;cases this
 | (a,x) :: r1,[],_,_,h=>by have:=h a;rw [lk_cons,lk_nil,if_pos rfl] at this;cases this
 | (a,x) :: r1,(b,y) :: r2,p1,p2,h=>by
  rw [List.pairwise_cons] at p1 p2
  have irr:∀ a,¬ lt a a:=fun a h=>asym a a h h
  have hab:a=b:=by
   have h1:=h a
   have h2:=h b
   simp only [lk_cons,if_true] at h1 h2
   by_cases e:b=a
   ·exact e.symm
   ·rw [if_neg e] at h1
    rw [if_neg (fun e'=>e e'.symm)] at h2
    exact absurd (p2.1 _ (lk_mem h1.symm)) (asym _ _ (p1.1 _ (lk_mem h2)))
  subst hab
  have hxy:x=y:=by
   have h1:=h a
   simp only [lk_cons,if_true] at h1
   exact Option.some.inj h1
  subst hxy
  rw [ext_sorted asym r1 r2 p1.2 p2.2 fun k=>?_]
  have hk:=h k
  simp only [lk_cons] at hk
  split at hk
  ·rename_i e
   subst e
   have none_:∀ (r:List (κ × β)),(∀ y ∈ r,lt a y.1)→lk r a=none:=fun r hr=>by
    cases hl:lk r a with
    | none=>rfl
    | some v=>exact absurd (hr _ (lk_mem hl)) (irr a)
   rw [none_ r1 p1.1,none_ r2 p2.1]
  ·exact hk
end
theorem blt_iff (p q:Nat):Nat.blt p q=true ↔ p<q:=⟨fun h=>Nat.le_of_ble_eq_true h,fun h=>Nat.ble_eq_true_of_le h⟩
theorem blt_not {p q:Nat} (h:¬ p<q):Nat.blt p q=false:=by
 cases e:Nat.blt p q with
 | false=>rfl
 | true=>exact absurd ((blt_iff p q).1 e) h
theorem nmLt_irr:∀ a:Nm,nmLt a a=false
 | []=>rfl
 | x :: a=>by simp [nmLt,nmLt_irr a,blt_not]
theorem nmLt_asym:∀ a b:Nm,nmLt a b=true→nmLt b a=false
 | [],[],h=>by cases h
 | [],_ :: _,_=>rfl
 | _ :: _,[],h=>by cases h
 | x :: a,y :: b,h=>by
  have ih:=nmLt_asym a b
  unfold nmLt at h ⊢
  by_cases h1:x<y
  ·have e1:Nat.blt y x=false:=blt_not (by omega)
   have e2:Nat.beq y x=false:=by cases e:Nat.beq y x;rfl;exact absurd (Nat.eq_of_beq_eq_true e) (by omega)
   simp [e1,e2]
  ·have e1:Nat.blt x y=false:=blt_not h1
   rw [e1] at h
   simp only [cond_false] at h
   cases e:Nat.beq x y with
   | false=>rw [e] at h;simp at h
   | true =>
    rw [e] at h
    have:=Nat.eq_of_beq_eq_true e
    subst this
    rw [e1]
    simp only [cond_false,e,cond_true] at h ⊢
    exact ih h
theorem nmLt_trans:∀ a b c:Nm,nmLt a b=true→nmLt b c=true→nmLt a c=true
 | _,[],_,h,_=>by cases ‹Nm› <;> simp [nmLt] at h
 | _,_ :: _,[],_,h=>by simp [nmLt] at h
 | [],_ :: _,_ :: _,_,_=>rfl
 | x :: a,y :: b,z :: c,h,k=>by
  have ih:=nmLt_trans a b c
  unfold nmLt at h k ⊢
  have blt:=blt_iff
  cases h1:Nat.blt x y with
  | true =>
   have:=(blt _ _).1 h1
   cases k1:Nat.blt y z with
   | true=>have:=(blt _ _).1 k1;rw [(blt x z).2 (by omega)];rfl
   | false =>
    rw [k1] at k
    cases k2:Nat.beq y z with
    | false=>rw [k2] at k;simp at k
    | true=>have:=Nat.eq_of_beq_eq_true k2;subst this;rw [h1];rfl
  | false =>
   rw [h1] at h
   cases h2:Nat.beq x y with
   | false=>rw [h2] at h;simp at h
   | true =>
    rw [h2] at h
    have:=Nat.eq_of_beq_eq_true h2
    subst this
    simp only [cond_false,cond_true] at h
    cases k1:Nat.blt x z with
    | true=>rfl
    | false =>
     rw [k1] at k
     cases k2:Nat.beq x z with
     | false=>rw [k2] at k;simp at k
     | true=>rw [k2] at k;simp only [cond_false,cond_true] at k ⊢;exact ih h k
theorem nmLt_tri:∀ a b:Nm,nmLt a b=true∨a=b∨nmLt b a=true
 | [],[] => .inr (.inl rfl)
 | [],_ :: _ => .inl rfl
 | _ :: _,[] => .inr (.inr rfl)
 | x :: a,y :: b=>by
  have blt:=blt_iff
  unfold nmLt
  rcases Nat.lt_trichotomy x y with h|h|h
  ·exact .inl (by rw [(blt _ _).2 h];rfl)
  ·subst h
   have e1:Nat.blt x x=false:=blt_not (Nat.lt_irrefl x)
   have e2:Nat.beq x x=true:=Nat.beq_refl x
   rw [e1,e2]
   simp only [cond_false,cond_true]
   rcases nmLt_tri a b with h|h|h
   ·exact .inl h
   ·exact .inr (.inl (by rw [h]))
   ·exact .inr (.inr h)
  ·exact .inr (.inr (by rw [(blt _ _).2 h];rfl))
def SE (l:List (Nat × AV)):Prop:=l.Pairwise fun x y=>x.1<y.1
def SH (l:List (Nm × Blk)):Prop:=l.Pairwise fun x y=>nmLt x.1 y.1=true
theorem sortedE_spec:∀ (l:List (Nat × AV)),sortedE l=true→SE l
 | [],_=>List.Pairwise.nil
 | [x],_=>List.pairwise_singleton _ _
 | x :: y :: r,h=>by
  simp only [sortedE,Bool.and_eq_true] at h
  have h1:x.1<y.1:=(blt_iff _ _).1 h.1
  have ih:=sortedE_spec (y :: r) h.2
  unfold SE at ih ⊢
  have ih':=ih
  rw [List.pairwise_cons] at ih ⊢
  refine ⟨fun z hz=>?_,ih'⟩
  rcases List.mem_cons.1 hz with rfl|hz
  ·exact h1
  ·exact Nat.lt_trans h1 (ih.1 z hz)
theorem sortedH_spec:∀ (l:List (Nm × Blk)),sortedH l=true→SH l
 | [],_=>List.Pairwise.nil
 | [x],_=>List.pairwise_singleton _ _
 | x :: y :: r,h=>by
  simp only [sortedH,Bool.and_eq_true] at h
  have ih:=sortedH_spec (y :: r) h.2
  unfold SH at ih ⊢
  have ih':=ih
  rw [List.pairwise_cons] at ih ⊢
  refine ⟨fun z hz=>?_,ih'⟩
  rcases List.mem_cons.1 hz with rfl|hz
  ·exact h.1
  ·exact nmLt_trans _ _ _ h.1 (ih.1 z hz)
theorem lk_setE:∀ (e:List (Nat × AV)) (d:Nat) (v:AV) (t:Nat),lk (setE e d v) t=if d=t then some v else lk e t
 | [],d,v,t=>by simp [setE,lk_cons,lk_nil]
 | (s,u) :: r,d,v,t=>by
  unfold setE
  cases h1:Nat.beq s d with
  | true =>
   have:=Nat.eq_of_beq_eq_true h1
   subst this
   simp only [cond_true,lk_cons]
   split <;> rfl
  | false =>
   have n1:=Nat.ne_of_beq_eq_false h1
   simp only [cond_false]
   cases h2:Nat.blt d s with
   | true=>simp only [cond_true,lk_cons]
   | false =>
    simp only [cond_false,lk_cons,lk_setE r d v t]
    by_cases e:s=t
    ·subst e;simp [Ne.symm n1]
    ·simp [e]
theorem mem_setE:∀ (e:List (Nat × AV)) (d:Nat) (v:AV) (x:Nat × AV),x ∈ setE e d v→x=(d,v)∨x ∈ e
 | [],d,v,x,h=>by simp [setE] at h;exact .inl h
 | (s,u) :: r,d,v,x,h=>by
  unfold setE at h
  cases h1:Nat.beq s d with
  | true =>
   rw [h1] at h
   simp only [cond_true] at h
   rcases List.mem_cons.1 h with h|h
   ·exact .inl h
   ·exact .inr (List.mem_cons_of_mem _ h)
  | false =>
   rw [h1] at h
   simp only [cond_false] at h
   cases h2:Nat.blt d s with
   | true =>
    rw [h2] at h
    rcases List.mem_cons.1 h with h|h
    ·exact .inl h
    ·exact .inr h
   | false =>
    rw [h2] at h
    rcases List.mem_cons.1 h with h|h
    ·exact .inr (h ▸ List.mem_cons_self)
    ·rcases mem_setE r d v x h with h|h
     ·exact .inl h
     ·exact .inr (List.mem_cons_of_mem _ h)
theorem SE_set:∀ (e:List (Nat × AV)) (d:Nat) (v:AV),SE e→SE (setE e d v)
 | [],d,v,_=>List.pairwise_singleton _ _
 | (s,u) :: r,d,v,h=>by
  unfold SE at h ⊢
  rw [List.pairwise_cons] at h
  unfold setE
  cases h1:Nat.beq s d with
  | true =>
   have:=Nat.eq_of_beq_eq_true h1
   subst this
   simp only [cond_true]
   exact List.pairwise_cons.2 h
  | false =>
   have n1:=Nat.ne_of_beq_eq_false h1
   simp only [cond_false]
   cases h2:Nat.blt d s with
   | true =>
    have hlt:d<s:=(blt_iff _ _).1 h2
    simp only [cond_true]
    refine List.pairwise_cons.2 ⟨fun z hz=>?_,List.pairwise_cons.2 h⟩
    rcases List.mem_cons.1 hz with rfl|hz
    ·exact hlt
    ·exact Nat.lt_trans hlt (h.1 z hz)
   | false =>
    have hge:¬ d<s:=fun h=>by rw [(blt_iff _ _).2 h] at h2;cases h2
    simp only [cond_false]
    refine List.pairwise_cons.2 ⟨fun z hz=>?_,SE_set r d v h.2⟩
    rcases mem_setE r d v z hz with rfl|hz
    ·simp only;omega
    ·exact h.1 z hz
theorem getE_lk (e:List (Nat × AV)) (t:Nat):getE e t=(lk e t).getD .undef:=by
 induction e with
 | nil=>rfl
 | cons x r ih =>
  obtain ⟨s,u⟩:=x
  unfold getE
  rw [lk_cons]
  cases h:Nat.beq s t with
  | true=>rw [if_pos (Nat.eq_of_beq_eq_true h)];rfl
  | false=>rw [if_neg (Nat.ne_of_beq_eq_false h)];exact ih
theorem SE_ext {e1 e2:List (Nat × AV)} (h1:SE e1) (h2:SE e2) (h:∀ t,lk e1 t=lk e2 t):e1=e2:=ext_sorted (lt:=fun a b=>a<b) (fun a b h=>by omega) e1 e2 h1 h2 h
theorem setE_self {e:List (Nat × AV)} {t:Nat} {v:AV} (hs:SE e) (h:getE e t=v) (hv:v ≠ .undef):setE e t v=e:=by
 refine SE_ext (SE_set e t v hs) hs fun s=>?_
 rw [lk_setE]
 split
 ·rename_i e1
  subst e1
  rw [getE_lk] at h
  cases hl:lk e t with
  | none=>rw [hl] at h;exact absurd h.symm hv
  | some u=>rw [hl] at h;rw [← h];rfl
 ·rfl
theorem getH_lk (h:List (Nm × Blk)) (n:Nm):getH h n=lk h n:=by
 induction h with
 | nil=>rfl
 | cons x r ih =>
  obtain ⟨m,b⟩:=x
  unfold getH
  rw [lk_cons]
  by_cases e:m=n
  ·subst e;rw [nmEq_refl,if_pos rfl];rfl
  ·rw [nmEq_ne e,if_neg e];exact ih
theorem mem_setH:∀ (h:List (Nm × Blk)) (n:Nm) (b:Blk) (x:Nm × Blk),x ∈ setH h n b→x=(n,b)∨x ∈ h
 | [],d,v,x,h=>by simp [setH] at h;exact .inl h
 | (s,u) :: r,d,v,x,h=>by
  unfold setH at h
  cases h1:nmEq s d with
  | true =>
   rw [h1] at h
   simp only [cond_true] at h
   rcases List.mem_cons.1 h with h|h
   ·exact .inl h
   ·exact .inr (List.mem_cons_of_mem _ h)
  | false =>
   rw [h1] at h
   simp only [cond_false] at h
   cases h2:nmLt d s with
   | true =>
    rw [h2] at h
    rcases List.mem_cons.1 h with h|h
    ·exact .inl h
    ·exact .inr h
   | false =>
    rw [h2] at h
    rcases List.mem_cons.1 h with h|h
    ·exact .inr (h ▸ List.mem_cons_self)
    ·rcases mem_setH r d v x h with h|h
     ·exact .inl h
     ·exact .inr (List.mem_cons_of_mem _ h)
theorem SH_set:∀ (e:List (Nm × Blk)) (d:Nm) (v:Blk),SH e→SH (setH e d v)
 | [],d,v,_=>List.pairwise_singleton _ _
 | (s,u) :: r,d,v,h=>by
  unfold SH at h ⊢
  rw [List.pairwise_cons] at h
  unfold setH
  cases h1:nmEq s d with
  | true =>
   have:=(nmEq_iff s d).1 h1
   subst this
   simp only [cond_true]
   exact List.pairwise_cons.2 h
  | false =>
   simp only [cond_false]
   cases h2:nmLt d s with
   | true =>
    simp only [cond_true]
    refine List.pairwise_cons.2 ⟨fun z hz=>?_,List.pairwise_cons.2 h⟩
    rcases List.mem_cons.1 hz with rfl|hz
    ·exact h2
    ·exact nmLt_trans _ _ _ h2 (h.1 z hz)
   | false =>
    simp only [cond_false]
    refine List.pairwise_cons.2 ⟨fun z hz=>?_,SH_set r d v h.2⟩
    rcases mem_setH r d v z hz with rfl|hz
    ·rcases nmLt_tri s d with h3|h3|h3
     ·exact h3
     ·rw [h3,nmEq_refl] at h1;cases h1
     ·rw [h3] at h2;cases h2
    ·exact h.1 z hz
theorem mem_delH:∀ (h:List (Nm × Blk)) (n:Nm) (x:Nm × Blk),x ∈ delH h n→x ∈ h
 | [],_,_,h=>by simp [delH] at h
 | (s,u) :: r,n,x,h=>by
  unfold delH at h
  cases h1:nmEq s n with
  | true=>rw [h1] at h;exact List.mem_cons_of_mem _ (mem_delH r n x h)
  | false =>
   rw [h1] at h
   rcases List.mem_cons.1 h with h|h
   ·exact h ▸ List.mem_cons_self
   ·exact List.mem_cons_of_mem _ (mem_delH r n x h)
theorem SH_del:∀ (e:List (Nm × Blk)) (n:Nm),SH e→SH (delH e n)
 | [],_,_=>List.Pairwise.nil
 | (s,u) :: r,n,h=>by
  unfold SH at h ⊢
  rw [List.pairwise_cons] at h
  unfold delH
  cases h1:nmEq s n with
  | true=>exact SH_del r n h.2
  | false=>exact List.pairwise_cons.2 ⟨fun z hz=>h.1 z (mem_delH r n z hz),SH_del r n h.2⟩
theorem SH_ext {e1 e2:List (Nm × Blk)} (h1:SH e1) (h2:SH e2) (h:∀ t,getH e1 t=getH e2 t):e1=e2 :=
 ext_sorted (lt:=fun a b=>nmLt a b=true) (fun a b h=>by rw [nmLt_asym a b h];simp) e1 e2 h1 h2 fun k=>by rw [← getH_lk,← getH_lk];exact h k
def Sorted (st:St):Prop:=SE st.env∧SH st.heap
def putE (es:List (Nat × AV)) (e:List (Nat × AV)):List (Nat × AV):=es.foldl (fun e x=>setE e x.1 x.2) e
def putH (hs:List (Nm × Option Blk)) (h:List (Nm × Blk)):List (Nm × Blk):=hs.foldl (fun h x=>match x.2 with|some b=>setH h x.1 b|none=>delH h x.1) h
theorem Wr.on_eq (wr:Wr) (st:St):wr.on st=⟨putE wr.es st.env,putH wr.hs st.heap⟩:=rfl
theorem SE_put:∀ (es e:List (Nat × AV)),SE e→SE (putE es e)
 | [],_,h=>h
 | x :: es,e,h=>SE_put es _ (SE_set e x.1 x.2 h)
theorem SH_put:∀ (hs:List (Nm × Option Blk)) (h:List (Nm × Blk)),SH h→SH (putH hs h)
 | [],_,h=>h
 | (n,some b) :: hs,_,h=>SH_put hs _ (SH_set _ n b h)
 | (n,none) :: hs,_,h=>SH_put hs _ (SH_del _ n h)
theorem Wr.sorted (wr:Wr) {st:St} (h:Sorted st):Sorted (wr.on st):=⟨SE_put _ _ h.1,SH_put _ _ h.2⟩
theorem lk_putE:∀ (es e e':List (Nat × AV)) (t:Nat),((∃ x ∈ es,x.1=t)∨lk e t=lk e' t)→lk (putE es e) t=lk (putE es e') t
 | [],e,e',t,h=>by
  rcases h with ⟨x,hx,_⟩|h
  ·simp at hx
  ·exact h
 | x :: es,e,e',t,h=>by
  refine lk_putE es _ _ t ?_
  by_cases hx:∃ y ∈ es,y.1=t
  ·exact .inl hx
  ·refine .inr ?_
   rw [lk_setE,lk_setE]
   split
   ·rfl
   ·rename_i hne
    rcases h with ⟨y,hy,e⟩|h
    ·rcases List.mem_cons.1 hy with rfl|hy
     ·exact absurd e hne
     ·exact absurd ⟨y,hy,e⟩ hx
    ·exact h
theorem lk_putE_out:∀ (es e:List (Nat × AV)) (t:Nat),(∀ x ∈ es,x.1 ≠ t)→lk (putE es e) t=lk e t
 | [],_,_,_=>rfl
 | x :: es,e,t,h=>by
  show lk (putE es (setE e x.1 x.2)) t=_
  rw [lk_putE_out es _ t fun y hy=>h y (List.mem_cons_of_mem _ hy),lk_setE,if_neg (h x List.mem_cons_self)]
theorem getH_putH:∀ (hs:List (Nm × Option Blk)) (h h':List (Nm × Blk)) (n:Nm),((∃ x ∈ hs,x.1=n)∨getH h n=getH h' n)→getH (putH hs h) n=getH (putH hs h') n
 | [],h,h',n,k=>by
  rcases k with ⟨x,hx,_⟩|k
  ·simp at hx
  ·exact k
 | (m,b) :: hs,h,h',n,k=>by
  refine getH_putH hs _ _ n ?_
  by_cases hx:∃ y ∈ hs,y.1=n
  ·exact .inl hx
  ·refine .inr ?_
   have hk:m ≠ n→getH h n=getH h' n:=fun hne=>by
    rcases k with ⟨y,hy,e⟩|k
    ·rcases List.mem_cons.1 hy with rfl|hy
     ·exact absurd e hne
     ·exact absurd ⟨y,hy,e⟩ hx
    ·exact k
   cases b with
   | some b =>
    simp only [getH_setH]
    split
    ·rfl
    ·rename_i hne;exact hk hne
   | none =>
    simp only [getH_delH]
    split
    ·rfl
    ·rename_i hne;exact hk hne
theorem getH_putH_out:∀ (hs:List (Nm × Option Blk)) (h:List (Nm × Blk)) (n:Nm),(∀ x ∈ hs,x.1 ≠ n)→getH (putH hs h) n=getH h n
 | [],_,_,_=>rfl
 | (m,some b) :: hs,h,n,k=>by
  show getH (putH hs (setH h m b)) n=_
  rw [getH_putH_out hs _ n fun y hy=>k y (List.mem_cons_of_mem _ hy),getH_setH,if_neg (k _ List.mem_cons_self)]
 | (m,none) :: hs,h,n,k=>by
  show getH (putH hs (delH h m)) n=_
  rw [getH_putH_out hs _ n fun y hy=>k y (List.mem_cons_of_mem _ hy),getH_delH,if_neg (k _ List.mem_cons_self)]
theorem Wr.comm {x y:Wr} {st:St} (hs:Sorted st) (h1:∀ p ∈ x.es,∀ q ∈ y.es,p.1 ≠ q.1) (h2:∀ p ∈ x.hs,∀ q ∈ y.hs,p.1 ≠ q.1):x.on (y.on st)=y.on (x.on st):=by
 have s1:=x.sorted (y.sorted hs)
 have s2:=y.sorted (x.sorted hs)
 simp only [Wr.on_eq] at *
 congr 1
 ·refine SE_ext s1.1 s2.1 fun t=>?_
  by_cases hx:∃ p ∈ x.es,p.1=t
  ·obtain ⟨p,hp,rfl⟩:=hx
   rw [lk_putE_out y.es _ _ fun q hq e=>h1 p hp q hq e.symm]
   exact lk_putE x.es _ _ _ (.inl ⟨p,hp,rfl⟩)
  ·have hx':∀ p ∈ x.es,p.1 ≠ t:=fun p hp e=>hx ⟨p,hp,e⟩
   rw [lk_putE_out x.es _ _ hx']
   by_cases hy:∃ q ∈ y.es,q.1=t
   ·exact lk_putE y.es _ _ _ (.inl hy)
   ·have hy':∀ q ∈ y.es,q.1 ≠ t:=fun p hp e=>hy ⟨p,hp,e⟩
    rw [lk_putE_out y.es _ _ hy',lk_putE_out y.es _ _ hy',lk_putE_out x.es _ _ hx']
 ·refine SH_ext s1.2 s2.2 fun t=>?_
  by_cases hx:∃ p ∈ x.hs,p.1=t
  ·obtain ⟨p,hp,rfl⟩:=hx
   rw [getH_putH_out y.hs _ _ fun q hq e=>h2 p hp q hq e.symm]
   exact getH_putH x.hs _ _ _ (.inl ⟨p,hp,rfl⟩)
  ·have hx':∀ p ∈ x.hs,p.1 ≠ t:=fun p hp e=>hx ⟨p,hp,e⟩
   rw [getH_putH_out x.hs _ _ hx']
   by_cases hy:∃ q ∈ y.hs,q.1=t
   ·exact getH_putH y.hs _ _ _ (.inl hy)
   ·have hy':∀ q ∈ y.hs,q.1 ≠ t:=fun p hp e=>hy ⟨p,hp,e⟩
    rw [getH_putH_out y.hs _ _ hy',getH_putH_out y.hs _ _ hy',getH_putH_out x.hs _ _ hx']
end Go.Proofs.VE
