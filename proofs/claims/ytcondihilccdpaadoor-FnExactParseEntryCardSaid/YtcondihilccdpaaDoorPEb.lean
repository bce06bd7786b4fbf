import Derived.Test.YtcondihilccdpaaDoorPEa
namespace Go.Proofs.YtcondihilccdpaaDoor
open Go Go.Proofs.VE
set_option linter.unusedVariables false
set_option linter.unusedSimpArgs false
def pcs (c:UInt8):List UInt8→List UInt8→List (List UInt8)
 | part,[]=>[part]
 | part,b :: r=>if b=c then part :: pcs c [] r else pcs c (part++[b]) r
theorem pcs_free (c:UInt8):∀ (l part:List UInt8),(∀ b ∈ l,b ≠ c)→pcs c part l=[part++l]
 | [],part,_=>by simp [pcs]
 | b :: l,part,h=>by
  unfold pcs
  rw [if_neg (h b List.mem_cons_self),pcs_free c l _ (fun b hb=>h b (List.mem_cons_of_mem _ hb)),List.append_assoc]
  rfl
theorem pcs_cut (c:UInt8):∀ (l part r:List UInt8),(∀ b ∈ l,b ≠ c)→pcs c part (l++c :: r)=(part++l) :: pcs c [] r
 | [],part,r,_=>by
  show pcs c part (c :: r)=_
  rw [pcs,if_pos rfl,List.append_nil]
 | b :: l,part,r,h=>by
  show pcs c part (b :: (l++c :: r))=_
  rw [pcs,if_neg (h b List.mem_cons_self),pcs_cut c l _ r (fun b hb=>h b (List.mem_cons_of_mem _ hb)),List.append_assoc]
  rfl
theorem pcs_cons (c:UInt8):∀ (l part:List UInt8),∃ v ws,pcs c part l=v :: ws
 | [],part=>⟨part,[],rfl⟩
 | b :: l,part=>by
  unfold pcs
  split
  ·exact ⟨_,_,rfl⟩
  ·exact pcs_cons c l _
theorem pcs_len (c:UInt8):∀ (l part:List UInt8),(pcs c part l).length≤l.length+1
 | [],part=>by simp [pcs]
 | b :: l,part=>by
  unfold pcs
  split
  ·have:=pcs_len c l []
   simp only [List.length_cons]
   omega
  ·have:=pcs_len c l (part++[b])
   simp only [List.length_cons]
   omega
theorem pcs_word (c:UInt8):∀ (l part:List UInt8),∀ w ∈ pcs c part l,w.length≤part.length+l.length
 | [],part,w,h=>by
  obtain rfl:=List.mem_singleton.1 h
  simp
 | b :: l,part,w,h=>by
  unfold pcs at h
  split at h
  ·rcases List.mem_cons.1 h with rfl|h
   ·omega
   ·have:=pcs_word c l [] w h
    simp only [List.length_nil,List.length_cons] at this ⊢
    omega
  ·have:=pcs_word c l _ w h
   simp only [List.length_append,List.length_singleton,List.length_nil,List.length_cons] at this ⊢
   omega
def jn (c:UInt8):List (List UInt8)→List UInt8
 | []=>[]
 | [w]=>w
 | w :: v :: ws=>w++c :: jn c (v :: ws)
theorem jn_pcs (c:UInt8):∀ (l part:List UInt8),jn c (pcs c part l)=part++l
 | [],part=>by simp [pcs,jn]
 | b :: l,part=>by
  unfold pcs
  split
  ·rename_i h
   subst h
   obtain ⟨v,ws,e⟩:=pcs_cons b l []
   have:=jn_pcs b l []
   rw [e] at this ⊢
   show part++b :: jn b (v :: ws)=_
   rw [this]
   rfl
  ·rw [jn_pcs c l]
   simp
theorem pcs_jn (c:UInt8):∀ (ws:List (List UInt8)),ws ≠ []→(∀ w ∈ ws,∀ b ∈ w,b ≠ c)→pcs c [] (jn c ws)=ws
 | [],h,_=>absurd rfl h
 | [w],_,h=>by
  show pcs c [] w=[w]
  rw [pcs_free c w [] (h w List.mem_cons_self)]
  rfl
 | w :: v :: ws,_,h=>by
  show pcs c [] (w++c :: jn c (v :: ws))=_
  rw [pcs_cut c w [] _ (h w List.mem_cons_self),pcs_jn c (v :: ws) (by simp) (fun w hw=>h w (List.mem_cons_of_mem _ hw))]
  rfl
theorem jn_snoc (c:UInt8):∀ (ws:List (List UInt8)) (w:List UInt8),ws ≠ []→jn c (ws++[w])=jn c ws++c :: w
 | [],_,h=>absurd rfl h
 | [v],w,_=>rfl
 | u :: v :: ws,w,_=>by
  show u++c :: jn c ((v :: ws)++[w])=(u++c :: jn c (v :: ws))++c :: w
  rw [jn_snoc c (v :: ws) w (by simp)]
  simp
theorem idx1 (c:UInt8):∀ S:List UInt8,(c ∉ S∧Lib.index S [c] = -1)∨∃ l r,S=l++c :: r∧(∀ b ∈ l,b ≠ c)∧Lib.index S [c]=l.length
 | [] => .inl ⟨by simp,rfl⟩
 | b :: S=>by
  by_cases h:b=c
  ·subst h
   exact .inr ⟨[],S,rfl,by simp,by unfold Lib.index;simp [List.isPrefixOf]⟩
  ·have hp:[c].isPrefixOf (b :: S)=false:=by simp [List.isPrefixOf,Ne.symm h]
   rcases idx1 c S with ⟨h1,h2⟩|⟨l,r,h1,h2,h3⟩
   ·refine .inl ⟨by simp [Ne.symm h,h1],?_⟩
    unfold Lib.index
    rw [hp,h2]
    rfl
   ·refine .inr ⟨b :: l,r,by rw [h1];rfl,fun x hx=>?_,?_⟩
    ·rcases List.mem_cons.1 hx with rfl|hx
     ·exact h
     ·exact h2 x hx
    ·unfold Lib.index
     rw [hp,h3,(beq_eq_false_iff_ne.2 (by omega):((l.length:Int) == -1)=false),List.length_cons]
     simp
theorem split_pcs (c:UInt8):∀ (k:Nat) (S:List UInt8),S.count c=k→Lib.splitK [c] 0 k S=pcs c [] S
 | 0,S,h=>by
  rw [pcs_free c S [] (fun b hb e=>by subst e;exact absurd (List.count_pos_iff.2 hb) (by omega))]
  rfl
 | k+1,S,h=>by
  rcases idx1 c S with ⟨h1,_⟩|⟨l,r,h1,h2,h3⟩
  ·exact absurd (List.count_eq_zero.2 h1) (by omega)
  ·unfold Lib.splitK
   have e1:(Lib.index S [c] == -1)=false:=by rw [h3];exact beq_eq_false_iff_ne.2 (by omega)
   have hl:l.count c=0:=List.count_eq_zero.2 fun hm=>h2 c hm rfl
   have hr:r.count c=k:=by
    rw [h1,List.count_append,List.count_cons_self,hl] at h
    omega
   rw [e1,h3]
   simp only [Bool.false_eq_true,if_false,Int.toNat_natCast,Nat.add_zero,List.length_singleton]
   rw [h1,pcs_cut c l [] r h2,← split_pcs c k r hr,List.take_left' rfl,show (l++c :: r).drop (l.length+1)=r by rw [List.drop_append];simp]
   rfl
def txt (l:List UInt8):AV:=AV.str ⟨l.toArray⟩
theorem txt_fS (l:List UInt8):(fS (txt l) 0).data.toList=l:=by
 show (ByteArray.mk l.toArray).data.toList=l
 exact ba_mk l
theorem splitL_pcs (s:ByteArray) (c:UInt8):splitL s ⟨#[c]⟩=(pcs c [] s.data.toList).map txt:=by
 have h1:=Lib.splitB_data ⟨#[c]⟩ 0 (Lib.countB s ⟨#[c]⟩) s
 have h2:Lib.countB s ⟨#[c]⟩=s.data.toList.count c:=Lib.count_one c _
 have h4:Lib.splitK (ByteArray.mk #[c]).data.toList 0 (Lib.countB s ⟨#[c]⟩) s.data.toList=pcs c [] s.data.toList:=split_pcs c _ _ h2.symm
 rw [h4] at h1
 unfold splitL
 rw [← h1,List.map_map]
 apply List.map_congr_left
 intro x _
 show AV.str x=AV.str ⟨x.data.toList.toArray⟩
 rw [show (⟨x.data.toList.toArray⟩:ByteArray)=x from ba_ext (by simp)]
theorem idx46:∀ (l r:List UInt8),(∀ b ∈ l,b ≠ 46)→Lib.index (l++46 :: 46 :: r) [46,46]=l.length
 | [],r,_=>by
  show Lib.index (46 :: 46 :: r) [46,46]=0
  unfold Lib.index
  simp [List.isPrefixOf]
 | b :: l,r,h=>by
  show Lib.index (b :: (l++46 :: 46 :: r)) [46,46]=_
  have hb:(46 == b)=false:=beq_eq_false_iff_ne.2 (Ne.symm (h b List.mem_cons_self))
  have hp:List.isPrefixOf [46,46] (b :: (l++46 :: 46 :: r))=false:=by
   rw [List.isPrefixOf,hb]
   rfl
  unfold Lib.index
  rw [hp,idx46 l r (fun x hx=>h x (List.mem_cons_of_mem _ hx)),(beq_eq_false_iff_ne.2 (by omega):((l.length:Int) == -1)=false),List.length_cons]
  simp
theorem cut46 {s:ByteArray} {l r:List UInt8} (h:s.data.toList=l++46 :: 46 :: r) (hl:∀ b ∈ l,b ≠ 46):(cutA s ⟨#[46,46]⟩).data.toList=l∧(cutB s ⟨#[46,46]⟩).data.toList=r:=by
 have e:Lib.cut s.data.toList [46,46]=(l,r,true):=by
  unfold Lib.cut
  rw [h,idx46 l r hl,if_pos (by omega)]
  simp only [Int.toNat_natCast,List.length_cons,List.length_nil]
  rw [List.take_left' rfl,show (l++46 :: 46 :: r).drop (l.length+(0+1+1))=r by rw [List.drop_append];simp]
 constructor
 ·show (ByteArray.mk (Lib.cut s.data.toList [46,46]).1.toArray).data.toList=l
  rw [e]
 ·show (ByteArray.mk (Lib.cut s.data.toList [46,46]).2.1.toArray).data.toList=r
  rw [e]
theorem cut_size (s sep:ByteArray):(cutA s sep).size≤s.size∧(cutB s sep).size≤s.size:=by
 rw [ba_size s,ba_size (cutA s sep),ba_size (cutB s sep)]
 unfold cutA cutB
 rw [ba_mk,ba_mk]
 unfold Lib.cut
 split
 ·simp only [List.length_take,List.length_drop]
  omega
 ·simp
def fmtL (a b:Int):List UInt8:=Lib.itoa a++46 :: 46 :: Lib.itoa b
def okR (a b:Int):Prop := -1000≤a∧a≤b∧b≤1000
instance (a b:Int):Decidable (okR a b):=by unfold okR;infer_instance
def isR (S:List UInt8) (a b:Int):Prop:=okR a b∧S=fmtL a b
theorem itoa_no46 (n:Int):∀ b ∈ Lib.itoa n,b ≠ 46:=itoa_no n 46 (by decide)
theorem itoa_no32 (n:Int):∀ b ∈ Lib.itoa n,b ≠ 32:=itoa_no n 32 (by decide)
theorem isR_uniq {S:List UInt8} {a b c d:Int} (h:isR S a b) (g:isR S c d):a=c∧b=d:=by
 have e:fmtL a b=fmtL c d:=h.2.symm.trans g.2
 have e1:=idx46 (Lib.itoa a) (Lib.itoa b) (itoa_no46 a)
 have e2:=idx46 (Lib.itoa c) (Lib.itoa d) (itoa_no46 c)
 have e3:(Lib.itoa a).length=(Lib.itoa c).length:=by
  have:Lib.itoa a++46 :: 46 :: Lib.itoa b=Lib.itoa c++46 :: 46 :: Lib.itoa d:=e
  rw [this,e2] at e1
  omega
 obtain ⟨h1,h2⟩:=List.append_inj e e3
 exact ⟨itoa_inj h1,itoa_inj (by simpa using h2)⟩
theorem fmtL_no32 (a b:Int):∀ x ∈ fmtL a b,x ≠ 32:=by
 intro x hx
 unfold fmtL at hx
 rcases List.mem_append.1 hx with h|h
 ·exact itoa_no32 a x h
 ·rcases List.mem_cons.1 h with rfl|h
  ·decide
  ·rcases List.mem_cons.1 h with rfl|h
   ·decide
   ·exact itoa_no32 b x h
theorem fmtL_len (a b:Int):2≤(fmtL a b).length:=by
 unfold fmtL
 simp only [List.length_append,List.length_cons]
 omega
end Go.Proofs.YtcondihilccdpaaDoor
