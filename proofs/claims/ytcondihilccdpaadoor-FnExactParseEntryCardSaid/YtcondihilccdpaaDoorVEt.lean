import Derived.Test.YtcondihilccdpaaDoorVEs
namespace Go.Proofs.VE
open Go
set_option linter.unusedSimpArgs false
def WantedAt (ops:Array Oper) (st:St) (o:Oper):Prop :=
 o.guard=none∨∃ j want t,o.guard=some (j,want)∧(ops[j]?).bind (·.dst)=some t∧getE st.env t = .bool want
def SkippedAt (ops:Array Oper) (st:St) (o:Oper):Prop :=
 ∃ j want t,o.guard=some (j,want)∧(ops[j]?).bind (·.dst)=some t∧(getE st.env t = .bool (!want)∨getE st.env t = .tup [])
structure Turn (cf:Cfg) (π:Nm) (ops:Array Oper) (st:St) (fp:FP):Prop where
 op:ops[fp.i]?=some fp.o
 go:(WantedAt ops st fp.o∧wrA cf π st fp.o=some (true,fp.wr)∧fp.rn=readsN st fp.o)∨(SkippedAt ops st fp.o∧fp.wr=⟨toD fp.o.dst (.tup []),[]⟩∧fp.rn=[])
inductive Chain (cf:Cfg) (π:Nm) (ops:Array Oper):St→List FP→List Nat→List FP→St→Prop
 | nil (st:St) (acc:List FP):Chain cf π ops st acc [] [] st
 | cons (st:St) (acc:List FP) (is:List Nat) (fp:FP) (fps:List FP) (st':St) (h1:turnOK acc fp.i fp.o=true) (h2:fp.anc=ancOf acc fp.o) (h3:Turn cf π ops st fp)
   (h:Chain cf π ops (fp.wr.on st) (fp :: acc) is fps st'):Chain cf π ops st acc (fp.i :: is) (fp :: fps) st'
section
variable {cf:Cfg} {π:Nm} {ops:Array Oper}
theorem opsT_chain {k:St→Option AV} {r:AV}:∀ (is:List Nat) (acc:List FP) (st:St),Sorted st→opsT cf π ops is acc st k=some r →
  ∃ fps st',Chain cf π ops st acc is fps st'∧drawOK π ops (fps.reverse++acc)=true∧k st'=some r
 | [],acc,st,_,h=>by
  unfold opsT at h
  cases hd:drawOK π ops acc with
  | false=>rw [hd] at h;simp at h
  | true=>rw [hd] at h;exact ⟨[],st,.nil st acc,hd,h⟩
 | i :: is,acc,st,hs,h=>by
  unfold opsT at h
  split at h
  ·cases h
  ·rename_i o ho
   cases ht:turnOK acc i o with
   | false=>rw [ht] at h;simp at h
   | true =>
    rw [ht] at h
    simp only [Bool.not_true,cond_false] at h
    have next:∀ (fp:FP),fp.i=i→fp.o=o→fp.anc=ancOf acc o→Turn cf π ops st fp→opsT cf π ops is (fp :: acc) (fp.wr.on st) k=some r →
      ∃ fps st',Chain cf π ops st acc (i :: is) fps st'∧drawOK π ops (fps.reverse++acc)=true∧k st'=some r:=by
     intro fp e1 e2 e3 htn h1
     obtain ⟨fps,st',g1,g2,g3⟩:=opsT_chain is (fp :: acc) (fp.wr.on st) (fp.wr.sorted hs) h1
     subst e1
     subst e2
     exact ⟨fp :: fps,st',.cons st acc is fp fps st' ht e3 htn g1,by rw [List.reverse_cons,List.append_assoc];exact g2,g3⟩
    split at h
    ·rename_i hg
     split at h
     ·rename_i g wr hwr
      cases g with
      | false=>simp at h
      | true =>
       simp only [cond_true] at h
       exact next _ rfl rfl rfl ⟨ho,.inl ⟨.inl hg,hwr,rfl⟩⟩ h
     ·cases h
    ·rename_i j want hg
     split at h
     ·cases h
     ·rename_i t hj
      split at h
      ·rename_i b hb
       have self:∀ b',b=b'→(⟨setE st.env t (.bool b'),st.heap⟩:St)=st:=fun b' e=>by
        subst e
        rw [setE_self hs.1 hb (fun e=>by cases e)]
       have go:b=want→(match wrA cf π st o with
         | some (g,wr)=>bif g then opsT cf π ops is (⟨i,o,wr,readsN st o,ancOf acc o⟩ :: acc) (wr.on st) k else none
         | none=>none)=some r→∃ fps st',Chain cf π ops st acc (i :: is) fps st'∧drawOK π ops (fps.reverse++acc)=true∧k st'=some r:=by
        intro e h9
        clear h
        subst e
        split at h9
        ·rename_i g wr hwr
         cases g with
         | false=>simp at h9
         | true =>
          simp only [cond_true] at h9
          exact next _ rfl rfl rfl ⟨ho,.inl ⟨.inr ⟨j,b,t,hg,hj,hb⟩,hwr,rfl⟩⟩ h9
        ·cases h9
       have skip:b = !want→opsT cf π ops is (⟨i,o,⟨toD o.dst (.tup []),[]⟩,[],ancOf acc o⟩ :: acc) (Wr.on ⟨toD o.dst (.tup []),[]⟩ st) k=some r →
         ∃ fps st',Chain cf π ops st acc (i :: is) fps st'∧drawOK π ops (fps.reverse++acc)=true∧k st'=some r:=by
        intro e h
        exact next _ rfl rfl rfl ⟨ho,.inr ⟨⟨j,want,t,hg,hj,.inl (by rw [hb,e])⟩,rfl,rfl⟩⟩ h
       cases want <;> cases b <;> simp only [ifW,cond_true,cond_false,Bool.not_true,Bool.not_false] at h
       ·rw [self false rfl] at h;exact go rfl h
       ·rw [self true rfl] at h;exact skip rfl h
       ·rw [self false rfl] at h;exact skip rfl h
       ·rw [self true rfl] at h;exact go rfl h
      ·rename_i hb
       exact next _ rfl rfl rfl ⟨ho,.inr ⟨⟨j,want,t,hg,hj,.inr hb⟩,rfl,rfl⟩⟩ h
      ·cases h
def fold (l:List FP) (st:St):St:=l.foldl (fun st fp=>fp.wr.on st) st
theorem fold_append (l m:List FP) (st:St):fold (l++m) st=fold m (fold l st):=List.foldl_append
theorem fold_sorted:∀ (l:List FP) {st:St},Sorted st→Sorted (fold l st)
 | [],_,h=>h
 | fp :: l,_,h=>fold_sorted l (fp.wr.sorted h)
theorem Chain.facts {st st':St} {acc:List FP} {is:List Nat} {fps:List FP} (h:Chain cf π ops st acc is fps st') :
  fps.map (·.i)=is∧st'=fold fps st∧∀ A fp B,fps=A++fp :: B→Turn cf π ops (fold A st) fp∧turnOK (A.reverse++acc) fp.i fp.o=true∧fp.anc=ancOf (A.reverse++acc) fp.o:=by
 induction h with
 | nil st acc=>exact ⟨rfl,rfl,fun A fp B h=>by simp at h⟩
 | cons st acc is fp fps st' h1 h2 h3 _ ih =>
  obtain ⟨i1,i2,i3⟩:=ih
  refine ⟨by rw [List.map_cons,i1],i2,fun A fp' B h=>?_⟩
  cases A with
  | nil =>
   simp only [List.nil_append,List.cons.injEq] at h
   obtain ⟨rfl,rfl⟩:=h
   exact ⟨h3,h1,h2⟩
  | cons x A =>
   simp only [List.cons_append,List.cons.injEq] at h
   obtain ⟨rfl,rfl⟩:=h
   obtain ⟨g1,g2,g3⟩:=i3 A fp' B rfl
   refine ⟨g1,?_,?_⟩
   ·rw [List.reverse_cons,List.append_assoc];exact g2
   ·rw [List.reverse_cons,List.append_assoc];exact g3
structure Line (fps:List FP):Prop where
 at_:∀ A fp B,fps=A++fp :: B→turnOK A.reverse fp.i fp.o=true∧fp.anc=ancOf A.reverse fp.o
theorem turnOK_spec {acc:List FP} {i:Nat} {o:Oper} (h:turnOK acc i o=true):(∀ p ∈ acc,p.i ≠ i)∧∀ e ∈ o.after,Region.binds .any e=true→∃ p ∈ acc,p.i=e.on:=by
 unfold turnOK at h
 simp only [Bool.and_eq_true,Bool.not_eq_true',List.any_eq_false,List.all_eq_true,Bool.or_eq_true,List.any_eq_true] at h
 refine ⟨fun p hp e=>h.1 p hp (by rw [e];exact Nat.beq_refl i),fun e he hb=>?_⟩
 rcases h.2 e (by simpa using he) with g|⟨p,hp,g⟩
 ·rw [hb] at g;cases g
 ·exact ⟨p,hp,Nat.eq_of_beq_eq_true g⟩
def inA (x m:Nat):Prop:=hasA m x=true
theorem hasA_bit (m i:Nat):hasA m i=m.testBit i:=by
 unfold hasA
 rw [Nat.testBit_eq_decide_div_mod_eq]
 cases h:Nat.beq (m / 2 ^ i % 2) 1 with
 | true=>exact (decide_eq_true (Nat.eq_of_beq_eq_true h)).symm
 | false=>exact (decide_eq_false (Nat.ne_of_beq_eq_false h)).symm
theorem inA_or {x a b:Nat} (h:inA x (a ||| b)):inA x a∨inA x b:=by
 unfold inA at *
 rw [hasA_bit,Nat.testBit_or,Bool.or_eq_true] at h
 rw [hasA_bit,hasA_bit]
 exact h
theorem inA_pow {x i:Nat} (h:inA x (2 ^ i)):x=i:=by
 unfold inA at h
 rw [hasA_bit,Nat.testBit_two_pow] at h
 exact (of_decide_eq_true h).symm
theorem inA_zero {x:Nat} (h:inA x 0):False:=by
 unfold inA at h
 rw [hasA_bit,Nat.zero_testBit] at h
 cases h
theorem getA_mem {x i:Nat}:∀ (acc:List FP),inA x (getA acc i)→∃ p ∈ acc,p.i=i∧inA x p.anc
 | [],h=>(inA_zero h).elim
 | p :: r,h=>by
  simp only [getA] at h
  cases hc:Nat.beq p.i i <;> rw [hc] at h
  ·obtain ⟨q,h1,h2⟩:=getA_mem r h
   exact ⟨q,List.mem_cons_of_mem _ h1,h2⟩
  ·exact ⟨p,List.mem_cons_self,Nat.eq_of_beq_eq_true hc,h⟩
theorem ancL_mem {acc:List FP} {x:Nat}:∀ (l:List Edge),inA x (ancL acc l)→∃ e ∈ l,Region.binds .any e=true∧(x=e.on∨∃ p ∈ acc,p.i=e.on∧inA x p.anc)
 | [],h=>(inA_zero h).elim
 | e :: r,h=>by
  simp only [ancL,ancE] at h
  have old:inA x (ancL acc r)→∃ e' ∈ e :: r,Region.binds .any e'=true∧(x=e'.on∨∃ p ∈ acc,p.i=e'.on∧inA x p.anc):=fun h=>by
   obtain ⟨e',h1,h2⟩:=ancL_mem r h
   exact ⟨e',List.mem_cons_of_mem _ h1,h2⟩
  cases hb:Region.binds .any e with
  | false=>rw [hb] at h;exact old h
  | true =>
   rw [hb] at h
   cases hc:hasA (ancL acc r) e.on with
   | true=>rw [hc] at h;exact old h
   | false =>
    rw [hc] at h
    simp only [Bool.not_false,Bool.and_self,cond_true] at h
    rcases inA_or h with h|h
    ·exact old h
    ·rcases inA_or h with h|h
     ·exact ⟨e,List.mem_cons_self,hb,.inl (inA_pow h)⟩
     ·exact ⟨e,List.mem_cons_self,hb,.inr (getA_mem acc h)⟩
theorem ancOf_mem {acc:List FP} {o:Oper} {x:Nat} (h:inA x (ancOf acc o)):∃ e ∈ o.after,Region.binds .any e=true∧(x=e.on∨∃ p ∈ acc,p.i=e.on∧inA x p.anc):=by
 obtain ⟨e,h1,h2⟩:=ancL_mem _ h
 exact ⟨e,by simpa using h1,h2⟩
theorem mem_split {fps:List FP} {p:FP} (h:p ∈ fps):∃ A B,fps=A++p :: B:=List.append_of_mem h
theorem Line.anc_before {fps:List FP} (hl:Line fps):∀ (n:Nat) (A:List FP) (fp:FP) (B:List FP),A.length=n→fps=A++fp :: B→∀ x,inA x fp.anc→∃ y ∈ A,y.i=x:=by
 intro n
 induction n using Nat.strongRecOn with
 | _ n ih =>
  intro A fp B hn hf x hx
  obtain ⟨h1,h2⟩:=hl.at_ A fp B hf
  rw [h2] at hx
  obtain ⟨e,he,hb,hx⟩:=ancOf_mem hx
  rcases hx with rfl|⟨p,hp,hpi,hxp⟩
  ·obtain ⟨p,hp,hpe⟩:=(turnOK_spec h1).2 e he hb
   exact ⟨p,List.mem_reverse.1 hp,hpe⟩
  ·have hp:=List.mem_reverse.1 hp
   obtain ⟨A1,A2,rfl⟩:=mem_split hp
   obtain ⟨y,hy,hyx⟩:=ih A1.length (by rw [← hn,List.length_append,List.length_cons];omega) A1 p (A2++fp :: B) rfl (by rw [hf];simp) x hxp
   exact ⟨y,List.mem_append_left _ hy,hyx⟩
theorem Line.distinct {fps:List FP} (hl:Line fps) {A B:List FP} {fp:FP} (hf:fps=A++fp :: B):(∀ y ∈ A,y.i ≠ fp.i)∧∀ y ∈ B,y.i ≠ fp.i:=by
 refine ⟨fun y hy=>(turnOK_spec (hl.at_ A fp B hf).1).1 y (List.mem_reverse.2 hy),fun y hy=>?_⟩
 obtain ⟨B1,B2,rfl⟩:=mem_split hy
 have:=(turnOK_spec (hl.at_ (A++fp :: B1) y B2 (by rw [hf];simp)).1).1 fp (by simp)
 exact fun e=>this e.symm
def Closed (fps:List FP) (S:Nat→Bool):Prop:=∀ p ∈ fps,S p.i=true→∀ e ∈ p.o.after,Region.binds .any e=true→S e.on=true
theorem Line.anc_in {fps:List FP} (hl:Line fps) {S:Nat→Bool} (hS:Closed fps S):∀ (n:Nat) (A:List FP) (fp:FP) (B:List FP),A.length=n→fps=A++fp :: B →
  (∀ e ∈ fp.o.after,Region.binds .any e=true→S e.on=true)→∀ x,inA x fp.anc→S x=true:=by
 intro n
 induction n using Nat.strongRecOn with
 | _ n ih =>
  intro A fp B hn hf hp x hx
  obtain ⟨h1,h2⟩:=hl.at_ A fp B hf
  rw [h2] at hx
  obtain ⟨e,he,hb,hx⟩:=ancOf_mem hx
  rcases hx with rfl|⟨p,hpm,hpi,hxp⟩
  ·exact hp e he hb
  ·have hpm:=List.mem_reverse.1 hpm
   obtain ⟨A1,A2,rfl⟩:=mem_split hpm
   refine ih A1.length (by rw [← hn,List.length_append,List.length_cons];omega) A1 p (A2++fp :: B) rfl (by rw [hf];simp) (hS p (by rw [hf];simp) ?_) x hxp
   rw [hpi]
   exact hp e he hb
theorem fold_lk (t:Nat) (q:FP→Bool):∀ (l:List FP) (st1 st2:St),(∀ y ∈ l,q y=false→∀ x ∈ y.wr.es,x.1 ≠ t)→lk st1.env t=lk st2.env t→lk (fold l st1).env t=lk (fold (l.filter q) st2).env t
 | [],_,_,_,h=>h
 | y :: l,st1,st2,hq,h=>by
  have hq':=fun z hz=>hq z (List.mem_cons_of_mem _ hz)
  rw [List.filter_cons]
  cases hy:q y with
  | true =>
   rw [if_pos rfl]
   exact fold_lk t q l _ _ hq' (lk_putE y.wr.es _ _ t (.inr h))
  | false =>
   rw [if_neg (by simp)]
   refine fold_lk t q l _ _ hq' ?_
   rw [← h]
   exact lk_putE_out y.wr.es _ t (hq y List.mem_cons_self hy)
theorem fold_getH (n:Nm) (q:FP→Bool):∀ (l:List FP) (st1 st2:St),(∀ y ∈ l,q y=false→∀ x ∈ y.wr.hs,x.1 ≠ n)→getH st1.heap n=getH st2.heap n→getH (fold l st1).heap n=getH (fold (l.filter q) st2).heap n
 | [],_,_,_,h=>h
 | y :: l,st1,st2,hq,h=>by
  have hq':=fun z hz=>hq z (List.mem_cons_of_mem _ hz)
  rw [List.filter_cons]
  cases hy:q y with
  | true =>
   rw [if_pos rfl]
   exact fold_getH n q l _ _ hq' (getH_putH y.wr.hs _ _ n (.inr h))
  | false =>
   rw [if_neg (by simp)]
   refine fold_getH n q l _ _ hq' ?_
   rw [← h]
   exact getH_putH_out y.wr.hs _ n (hq y List.mem_cons_self hy)
theorem clean_putE {q:Nm}:∀ (es e:List (Nat × AV)),cleanE q e=true→cleanE q es=true→cleanE q (putE es e)=true
 | [],_,h,_=>h
 | x :: es,e,h,k=>by
  unfold cleanE at k h
  simp only [List.all_cons,Bool.and_eq_true,Bool.not_eq_true'] at k
  refine clean_putE es _ ?_ k.2
  unfold cleanE
  rw [List.all_eq_true]
  intro y hy
  rcases mem_setE e x.1 x.2 y hy with rfl|hy
  ·simpa using k.1
  ·exact (List.all_eq_true.1 h) y hy
theorem clean_putH {q:Nm}:∀ (hs:List (Nm × Option Blk)) (h:List (Nm × Blk)),cleanH q h=true→(hs.all fun x => !under q x.1 && (match x.2 with|some b => !b.box || b.xs.all fun v => !menV (under q) v|none=>true))=true→cleanH q (putH hs h)=true
 | [],_,h,_=>h
 | (n,some b) :: hs,h,g,k=>by
  simp only [List.all_cons,Bool.and_eq_true] at k
  refine clean_putH hs _ ?_ k.2
  unfold cleanH
  rw [List.all_eq_true]
  intro y hy
  rcases mem_setH h n b y hy with rfl|hy
  ·simp only [Bool.and_eq_true];exact k.1
  ·exact (List.all_eq_true.1 g) y hy
 | (n,none) :: hs,h,g,k=>by
  simp only [List.all_cons,Bool.and_eq_true] at k
  refine clean_putH hs _ ?_ k.2
  unfold cleanH
  rw [List.all_eq_true]
  intro y hy
  exact (List.all_eq_true.1 g) y (mem_delH h n y hy)
theorem clean_fold {q:Nm}:∀ (l:List FP) (st:St),cleanS q st=true→(∀ y ∈ l,cleanW q y.wr=true)→cleanS q (fold l st)=true
 | [],_,h,_=>h
 | y :: l,st,h,k=>by
  refine clean_fold l _ ?_ fun z hz=>k z (List.mem_cons_of_mem _ hz)
  have ky:=k y List.mem_cons_self
  unfold cleanW at ky
  unfold cleanS at h ⊢
  rw [Bool.and_eq_true] at h ky ⊢
  exact ⟨clean_putE _ _ h.1 ky.1,clean_putH _ _ h.2 ky.2⟩
theorem fold_comm {x:Wr}:∀ (l:List FP) {st:St},Sorted st→(∀ y ∈ l,(∀ p ∈ x.es,∀ q ∈ y.wr.es,p.1 ≠ q.1)∧∀ p ∈ x.hs,∀ q ∈ y.wr.hs,p.1 ≠ q.1)→fold l (x.on st)=x.on (fold l st)
 | [],_,_,_=>rfl
 | y :: l,st,hs,h=>by
  show fold l (y.wr.on (x.on st))=x.on (fold l (y.wr.on st))
  rw [← Wr.comm hs (h y List.mem_cons_self).1 (h y List.mem_cons_self).2]
  exact fold_comm l (y.wr.sorted hs) fun z hz=>h z (List.mem_cons_of_mem _ hz)
theorem mutW_es {heap:List (Nm × Blk)} {vals caps:List AV} {m:List AV→List Blk→Option (Bool × AV × List Blk)} {dst:Option Nat} {g:Bool} {wr:Wr} (h:mutW heap vals caps m dst=some (g,wr)):∃ r,wr.es=toD dst r:=by
 unfold mutW at h
 split at h
 ·split at h
  ·simp only [Bool.cond_eq_ite] at h
   split at h
   ·simp only [Option.some.injEq,Prod.mk.injEq] at h
    obtain ⟨_,rfl⟩:=h
    exact ⟨_,rfl⟩
   ·cases h
  ·cases h
 ·cases h
theorem genW_es {q:Nm} {heap:List (Nm × Blk)} {l:List Nm} {vals:List AV} {m:List AV→List Blk→Option (Bool × List AV × List (Option Blk))} {dst:Option Nat} {g:Bool} {wr:Wr} (h:genW q heap l vals m dst=some (g,wr)):∃ r,wr.es=toD dst r:=by
 unfold genW at h
 split at h
 ·split at h
  ·split at h
   ·simp only [Bool.cond_eq_ite] at h
    split at h
    ·simp only [Option.some.injEq,Prod.mk.injEq] at h
     obtain ⟨_,rfl⟩:=h
     exact ⟨_,rfl⟩
    ·cases h
   ·cases h
  ·cases h
 ·cases h
theorem val_es {o:Oper} {st:St} {g:Bool} {wr:Wr} (h:wrA cf π st o=some (g,wr)):∀ x ∈ wr.es,o.dst=some x.1:=by
 have toD_:∀ v,∀ x ∈ toD o.dst v,o.dst=some x.1:=fun v x hx=>by
  unfold toD at hx
  split at hx
  ·rename_i d hd;simp only [List.mem_singleton] at hx;rw [hd,hx]
  ·simp at hx
 unfold wrA at h
 split at h
 ·simp only [Option.some.injEq,Prod.mk.injEq] at h
  obtain ⟨_,rfl⟩:=h
  exact toD_ _
 ·unfold effW at h
  split at h
  all_goals (repeat' split at h)
  all_goals first
   | (cases h;done)
   | (
     have hmw:=mutW_es h
     obtain ⟨r,hr⟩:=hmw
     rw [hr]
     exact toD_ _)
   | (simp only [Bool.cond_eq_ite] at h;(repeat' split at h) <;> first
     | (cases h;done)
     | (
       simp only [Option.some.injEq,Prod.mk.injEq] at h
       obtain ⟨_,rfl⟩:=h
       first
        | (intro x hx;simp only [List.mem_singleton] at hx;subst hx;assumption)
        | exact toD_ _
        | (intro x hx;simp at hx;done))
     | (
       obtain ⟨r,hr⟩:=genW_es h
       rename_i hd _
       rw [hr,← hd]
       exact toD_ _))
   | (
     simp only [Option.some.injEq,Prod.mk.injEq] at h
     obtain ⟨_,rfl⟩:=h
     first
      | (intro x hx;simp only [List.mem_singleton] at hx;subst hx;assumption)
      | exact toD_ _
      | (intro x hx;simp at hx;done))
end
end Go.Proofs.VE
