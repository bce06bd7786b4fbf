import Derived.Test.YtcondihilccdpaaDoorPEd
namespace Go.Proofs.YtcondihilccdpaaDoor
open Go Go.Proofs.VE
set_option linter.unusedVariables false
set_option linter.unusedSimpArgs false
theorem idx46_none:∀ l:List UInt8,(∀ b ∈ l,b ≠ 46)→Lib.index l [46,46] = -1
 | [],_=>rfl
 | b :: l,h=>by
  have hb:(46 == b)=false:=beq_eq_false_iff_ne.2 (Ne.symm (h b List.mem_cons_self))
  have hp:List.isPrefixOf [46,46] (b :: l)=false:=by
   rw [List.isPrefixOf,hb]
   rfl
  unfold Lib.index
  rw [hp,idx46_none l (fun x hx=>h x (List.mem_cons_of_mem _ hx))]
  rfl
theorem countF_none (f:Nat) (l:List UInt8) (h:∀ b ∈ l,b ≠ 46):Lib.countFrom [46,46] (f+1) l=0:=by
 unfold Lib.countFrom
 rw [idx46_none l h]
 rfl
theorem split_dots0 (s:ByteArray) (h:∀ b ∈ s.data.toList,b ≠ 46):splitL s ⟨#[46,46]⟩=[txt s.data.toList]:=by
 have e:Lib.countB s ⟨#[46,46]⟩=0:=countF_none _ _ h
 unfold splitL
 rw [e]
 show [AV.str s]=[AV.str ⟨s.data.toList.toArray⟩]
 rw [show (⟨s.data.toList.toArray⟩:ByteArray)=s from ba_ext (by simp)]
theorem split_dots1 (s:ByteArray) {l r:List UInt8} (h:s.data.toList=l++46 :: 46 :: r) (hl:∀ b ∈ l,b ≠ 46) (hr:∀ b ∈ r,b ≠ 46):splitL s ⟨#[46,46]⟩=[txt l,txt r]:=by
 have hi:=idx46 l r hl
 have hd:(l++46 :: 46 :: r).drop (l.length+2)=r:=by rw [List.drop_append];simp
 have e:Lib.countB s ⟨#[46,46]⟩=1:=by
  show Lib.countFrom [46,46] (s.data.toList.length+1) s.data.toList=1
  unfold Lib.countFrom
  rw [h,hi,(beq_eq_false_iff_ne.2 (by omega):((l.length:Int) == -1)=false)]
  simp only [Bool.false_eq_true,if_false,Int.toNat_natCast,List.length_cons,List.length_nil]
  rw [show l.length+(0+1+1)=l.length+2 by omega,hd,show (l++46 :: 46 :: r).length=(l.length+r.length+1)+1 by simp;omega,countF_none _ _ hr]
 have hB:=Lib.splitB_data ⟨#[46,46]⟩ 0 (Lib.countB s ⟨#[46,46]⟩) s
 rw [e] at hB
 have hK:Lib.splitK (ByteArray.mk #[46,46]).data.toList 0 1 s.data.toList=[l,r]:=by
  show Lib.splitK [46,46] 0 1 s.data.toList=[l,r]
  unfold Lib.splitK
  rw [h,hi,(beq_eq_false_iff_ne.2 (by omega):((l.length:Int) == -1)=false)]
  simp only [Bool.false_eq_true,if_false,Int.toNat_natCast,List.length_cons,List.length_nil,Nat.add_zero]
  rw [show l.length+(0+1+1)=l.length+2 by omega,hd,List.take_left' rfl]
  rfl
 rw [hK] at hB
 unfold splitL
 rw [e]
 have:(Lib.splitB ⟨#[46,46]⟩ 0 1 s).map AV.str=((Lib.splitB ⟨#[46,46]⟩ 0 1 s).map (·.data.toList)).map txt:=by
  rw [List.map_map]
  apply List.map_congr_left
  intro x _
  show AV.str x=AV.str ⟨x.data.toList.toArray⟩
  rw [show (⟨x.data.toList.toArray⟩:ByteArray)=x from ba_ext (by simp)]
 rw [this,hB]
 rfl
def gN (t:List AV) (w:AV):List AV:=match pintN (fS w 0) with
 | some n=>t++[AV.int .i64 n]
 | none=>t
def gM (t:List AV) (w:AV):List AV:=(splitL (fS w 0) ⟨#[46,46]⟩).foldl gN t
def numsOf (ws:List AV):List AV:=(ws.drop 1).foldl gM []
def bnd (t:List AV):Prop:=∀ x ∈ t,small (fI x 0)
theorem gN_ok (t:List AV) (w:AV) (h:bnd t):bnd (gN t w)∧(gN t w).length≤t.length+1:=by
 unfold gN
 split
 ·rename_i n hn
  refine ⟨fun x hx=>?_,by rw [List.length_append];simp⟩
  rcases List.mem_append.1 hx with h1|h1
  ·exact h x h1
  ·obtain rfl:=List.mem_singleton.1 h1
   exact ((pint_iff _ _).1 hn).2
 ·exact ⟨h,Nat.le_succ _⟩
theorem foldF_av {T:Type} (f:T→AV→T) (xs:List AV) (o:Nat):∀ (m i:Nat) (t:T),o+i+m≤xs.length→foldF (fun (k:Int) t=>f t (xs.getD (o+k.toNat) .undef)) m (i:Int) t=((xs.drop (o+i)).take m).foldl f t
 | 0,i,t,_=>by simp [foldF]
 | m+1,i,t,h=>by
  show foldF _ m ((i:Int)+1) (f t (xs.getD (o+((i:Int)).toNat) .undef))=_
  have hi:o+i<xs.length:=by omega
  have e:xs.drop (o+i)=xs[o+i] :: xs.drop (o+i+1):=List.drop_eq_getElem_cons hi
  have:=foldF_av f xs o m (i+1) (f t (xs.getD (o+((i:Int)).toNat) .undef)) (by omega)
  rw [show (((i+1:Nat):Int))=(i:Int)+1 by omega] at this
  rw [this,e,List.take_succ_cons,List.foldl_cons,Int.toNat_natCast,List.getD_eq_getElem?_getD,List.getElem?_eq_getElem hi]
  rfl
theorem split_size (s:ByteArray) (h:s.size≤1048576):(splitL s ⟨#[46,46]⟩).length≤1048577∧∀ x ∈ splitL s ⟨#[46,46]⟩,(fS x 0).size≤281474976710656:=by
 have h1:1≤(ByteArray.mk #[46,46]).size:=by decide
 have hc:=Lib.countB_le ⟨#[46,46]⟩ h1 s.size s (Nat.le_refl _)
 have hl:=Lib.splitB_length_le ⟨#[46,46]⟩ 0 (Lib.countB s ⟨#[46,46]⟩) s
 refine ⟨by unfold splitL;rw [List.length_map];omega,fun x hx=>?_⟩
 have key:∀ (k:Nat) (s:ByteArray),s.size≤1048576→∀ b ∈ Lib.splitB ⟨#[46,46]⟩ 0 k s,b.size≤1048576:=by
  intro k
  induction k with
  | zero =>
   intro s hs b hb
   obtain rfl:=List.mem_singleton.1 hb
   exact hs
  | succ k ih =>
   intro s hs b hb
   unfold Lib.splitB at hb
   split at hb
   ·obtain rfl:=List.mem_singleton.1 hb
    exact hs
   ·rcases List.mem_cons.1 hb with rfl|hb
    ·rw [ba_size,Lib.extract_data,List.length_take,List.length_drop,← ba_size];omega
    ·refine ih _ ?_ b hb
     rw [ba_size,Lib.extract_data,List.length_take,List.length_drop,← ba_size];omega
 unfold splitL at hx
 obtain ⟨b,hb,rfl⟩:=List.mem_map.1 hx
 have:=key _ s h b hb
 show b.size≤_
 omega
theorem run62 (s:ByteArray) (o n:Nat) (t18 t19:Int) (z0 z1 z2 z3:Int) (ws ps:List AV) (t:List AV) (hp:ps.length≤1048577) (hs:∀ x ∈ ps,(fS x 0).size≤281474976710656) (ht:bnd t) (hl:t.length≤1200000000000) :
  runW (R6_2 s o n t18 t19 (ps.length:Int) z0 z1 z2 z3 ws ps) (((ps.length:Int) - 0).toNat+1) (0,t)=some (ps.foldl gN t)∧bnd (ps.foldl gN t)∧(ps.foldl gN t).length≤t.length+ps.length:=by
 have hr:=runW_fold (f:=R6_2 s o n t18 t19 (ps.length:Int) z0 z1 z2 z3 ws ps) (fun i (t:List AV)=>(i,t)) ps.length (fun (i:Int) t=>gN t (ps.getD (0+i.toNat) .undef)) (fun t=>t) (fun i t'=>bnd t'∧(t'.length:Int)≤t.length+i) (fun i t' h0 hn hI=>by
  have hi:i.toNat<ps.length:=by omega
  have hm:ps.getD i.toNat .undef ∈ ps:=by
   rw [List.getD_eq_getElem?_getD,List.getElem?_eq_getElem hi]
   exact List.getElem_mem _
  have d0:decide (i<(ps.length:Int))=true:=decide_eq_true hn
  have d1:decide (0≤i)=true:=decide_eq_true h0
  have q:q18 (fS (ps.getD i.toNat .undef) 0)=true:=decide_eq_true (hs _ hm)
  have d4:∀ x:AV,decide ((t'.length+([x]).length)*8≤140737488355328)=true:=fun x=>decide_eq_true (by simp only [List.length_cons,List.length_nil];omega)
  have d5:∀ x:AV,decide ((t'.length+([x]).length)≤140737488355328)=true:=fun x=>decide_eq_true (by simp only [List.length_cons,List.length_nil];omega)
  have g:=gN_ok t' (ps.getD i.toNat .undef) hI.1
  rw [Nat.zero_add]
  refine ⟨?_,g.1,by omega⟩
  unfold R6_2 F6_2 gN v18_0 v18_1
  simp only
  rw [d0,d1,q,d4,d5,wrap_in (a:=i+1) (by omega) (by omega)]
  cases pintN (fS (ps.getD i.toNat .undef) 0) <;> rfl) (fun t _=>by
  unfold R6_2 F6_2
  rw [decide_eq_false (Int.lt_irrefl _)]
  rfl) ps.length (((ps.length:Int) - 0).toNat+1) 0 t (Int.le_refl 0) (by omega) (by omega) ⟨ht,by omega⟩
 have hf:=foldF_av gN ps 0 ps.length 0 t (by omega)
 rw [Int.ofNat_zero] at hf
 rw [Nat.zero_add,List.drop_zero,List.take_of_length_le (Nat.le_refl _)] at hf
 rw [hf] at hr
 refine ⟨hr,?_⟩
 have:∀ (ps:List AV) (t:List AV),bnd t→bnd (ps.foldl gN t)∧(ps.foldl gN t).length≤t.length+ps.length:=by
  intro ps
  induction ps with
  | nil=>intro t ht;exact ⟨ht,by simp⟩
  | cons p ps ih =>
   intro t ht
   obtain ⟨g1,g2⟩:=gN_ok t p ht
   obtain ⟨h1,h2⟩:=ih (gN t p) g1
   rw [List.foldl_cons,List.length_cons]
   exact ⟨h1,by omega⟩
 exact this ps t ht
theorem run60 (s:ByteArray) (ws:List AV) (hl:ws.length≤1048577) (hne:ws ≠ []) (hs:∀ x ∈ ws,(fS x 0).size≤1048576) :
  runW (R6_0 s (Int.toNat 1) (Int.toNat (ws.length:Int) - Int.toNat 1) (((Int.toNat (ws.length:Int) - Int.toNat 1:Nat)):Int) 0 0 0 0 ws) (((((Int.toNat (ws.length:Int) - Int.toNat 1:Nat)):Int) - 0).toNat+1) (0,[])=some (numsOf ws)∧bnd (numsOf ws)∧(numsOf ws).length≤1200000000000:=by
 have h0:0<ws.length:=List.length_pos_iff.2 hne
 have e1:Int.toNat 1=1:=rfl
 have e2:Int.toNat (ws.length:Int) - Int.toNat 1=ws.length - 1:=by rw [e1,Int.toNat_natCast]
 rw [e2,e1]
 have step:∀ w,(fS w 0).size≤1048576→∀ t,bnd t→t.length≤1150000000000→bnd (gM t w)∧(gM t w).length≤t.length+1048577:=fun w hw t ht hlt=>by
  obtain ⟨s1,s2⟩:=split_size (fS w 0) hw
  obtain ⟨_,r2,r3⟩:=run62 s 0 0 0 0 0 0 0 0 [] (splitL (fS w 0) ⟨#[46,46]⟩) t s1 s2 ht (by omega)
  exact ⟨r2,by unfold gM;omega⟩
 have hr:=runW_fold (f:=R6_0 s 1 (ws.length - 1) ((ws.length - 1:Nat):Int) 0 0 0 0 ws) (fun i (t:List AV)=>(i,t)) ((ws.length - 1:Nat):Int) (fun (i:Int) t=>gM t (ws.getD (1+i.toNat) .undef)) (fun t=>t) (fun i t=>bnd t∧(t.length:Int)≤1048577*i) (fun i t h0 hn hI=>by
  have hi:1+i.toNat<ws.length:=by omega
  have hm:ws.getD (1+i.toNat) .undef ∈ ws:=by
   rw [List.getD_eq_getElem?_getD,List.getElem?_eq_getElem hi]
   exact List.getElem_mem _
  have hw:=hs _ hm
  obtain ⟨s1,s2⟩:=split_size _ hw
  have hlt:t.length≤1150000000000:=by
   have:=hI.2
   omega
  obtain ⟨g1,g2⟩:=step _ hw t hI.1 hlt
  have d0:decide (i<((ws.length - 1:Nat):Int))=true:=decide_eq_true hn
  have d1:decide (0≤i)=true:=decide_eq_true h0
  have d2:decide (1+(ws.length - 1)≤ws.length)=true:=decide_eq_true (by omega)
  have q:q17 (fS (ws.getD (1+i.toNat) .undef) 0) (ByteArray.mk #[46,46])=true:=by
   unfold q17
   rw [decide_eq_true (by omega)]
   rfl
  have c:v17_0 (fS (ws.getD (1+i.toNat) .undef) 0) (ByteArray.mk #[46,46])=splitL (fS (ws.getD (1+i.toNat) .undef) 0) ⟨#[46,46]⟩:=rfl
  obtain ⟨r1,_,_⟩:=run62 s 1 (ws.length - 1) ((ws.length - 1:Nat):Int) i 0 0 0 0 ws (splitL (fS (ws.getD (1+i.toNat) .undef) 0) ⟨#[46,46]⟩) t s1 s2 hI.1 (by omega)
  refine ⟨?_,g1,by have:=hI.2;omega⟩
  unfold R6_0 F6_0
  simp only
  rw [d0,d1,d2,q,c,r1,wrap_in (a:=i+1) (by omega) (by omega)]
  rfl) (fun t _=>by
  unfold R6_0 F6_0
  rw [decide_eq_false (Int.lt_irrefl _)]
  rfl) (ws.length - 1) ((((ws.length - 1:Nat):Int) - 0).toNat+1) 0 [] (Int.le_refl 0) (by omega) (by omega) ⟨fun x hx=>(by cases hx),by simp⟩
 have hf:=foldF_av gM ws 1 (ws.length - 1) 0 [] (by omega)
 rw [Int.ofNat_zero] at hf
 rw [Nat.add_zero,List.take_of_length_le (by rw [List.length_drop];omega)] at hf
 rw [hf] at hr
 refine ⟨hr,?_⟩
 have key:∀ (l t:List AV),(∀ x ∈ l,(fS x 0).size≤1048576)→bnd t→t.length+1048577*l.length≤1150000000000→bnd (l.foldl gM t)∧(l.foldl gM t).length≤t.length+1048577*l.length:=by
  intro l
  induction l with
  | nil=>intro t _ ht _;exact ⟨ht,by simp⟩
  | cons w l ih =>
   intro t hw ht hlen
   rw [List.length_cons] at hlen
   obtain ⟨g1,g2⟩:=step w (hw w List.mem_cons_self) t ht (by omega)
   obtain ⟨i1,i2⟩:=ih (gM t w) (fun x hx=>hw x (List.mem_cons_of_mem _ hx)) g1 (by omega)
   rw [List.foldl_cons,List.length_cons]
   exact ⟨i1,by omega⟩
 have hd:(ws.drop 1).length=ws.length - 1:=List.length_drop
 obtain ⟨k1,k2⟩:=key (ws.drop 1) [] (fun x hx=>hs x (List.mem_of_mem_drop hx)) (fun x hx=>(by cases hx)) (by rw [hd,List.length_nil];omega)
 rw [hd,List.length_nil] at k2
 exact ⟨k1,by unfold numsOf;omega⟩
def w_ (ws:List AV) (i:Nat):ByteArray:=fS (ws.getD i .undef) 0
def eS (ws:List AV):Int × Int × Int × Int :=
 bif decide ((ws.length:Int)=4) then (bif ((w_ ws 0).toList == (ByteArray.mk #[98,101,103,105,110]).toList) then (1,v15_0 (w_ ws 1),v14_0 (w_ ws 3),v14_1 (w_ ws 3)) else (3,v15_0 (w_ ws 1),v15_0 (w_ ws 3),0))
 else bif decide ((ws.length:Int)=3) then (2,v15_0 (w_ ws 1),v15_0 (w_ ws 2),0) else (0,0,0,0)
def eI (ws:List AV):Int × Int × Int × Int :=
 (
  bif ((w_ ws 0).toList == (ByteArray.mk #[98,101,103,105,110]).toList) then 1 else bif ((w_ ws 0).toList == (ByteArray.mk #[115,119,97,112]).toList) then 2 else bif ((w_ ws 0).toList == (ByteArray.mk #[101,110,100]).toList) then 3 else 0,
  fI ((numsOf ws++[AV.int .i64 0,AV.int .i64 0,AV.int .i64 0]).getD 0 .undef) 0,fI ((numsOf ws++[AV.int .i64 0,AV.int .i64 0,AV.int .i64 0]).getD 1 .undef) 0,fI ((numsOf ws++[AV.int .i64 0,AV.int .i64 0,AV.int .i64 0]).getD 2 .undef) 0)
def res (t:Int × Int × Int × Int) (s:ByteArray):Int × Int × Int × Int × Bool :=
 bif (s.toList == ByteArray.empty.toList) then (0,0,0,0,false) else bif !((v16_0 t.1 t.2.1 t.2.2.1 t.2.2.2).toList == s.toList) then (0,0,0,0,false) else (t.1,t.2.1,t.2.2.1,t.2.2.2,true)
theorem small15 (s:ByteArray) (h:s.size≤1048576):small (v15_0 s):=by
 obtain ⟨a,b,c⟩:=P24 s h
 unfold v15_0 small
 rw [b,c]
 cases hp:pintN s with
 | none=>exact ⟨by decide,by decide⟩
 | some n=>exact ((pint_iff s n).1 hp).2
theorem small14 (s:ByteArray) (h:s.size≤1048576):small (v14_0 s)∧small (v14_1 s):=by
 unfold small
 rcases (P14 s h).2 with ⟨a,b,g,e0,e1,_⟩|⟨_,e0,e1,_⟩
 ·obtain ⟨⟨g0,g1,g2⟩,_⟩:=g
  rw [e0,e1]
  omega
 ·rw [e0,e1]
  omega
theorem small0:small 0:=⟨by decide,by decide⟩
theorem eS_small (ws:List AV) (hs:∀ i,(w_ ws i).size≤1048576):small (eS ws).2.1∧small (eS ws).2.2.1∧small (eS ws).2.2.2:=by
 unfold eS
 cases decide ((ws.length:Int)=4) with
 | true =>
  cases ((w_ ws 0).toList == (ByteArray.mk #[98,101,103,105,110]).toList) with
  | true=>exact ⟨small15 _ (hs 1),(small14 _ (hs 3)).1,(small14 _ (hs 3)).2⟩
  | false=>exact ⟨small15 _ (hs 1),small15 _ (hs 3),small0⟩
 | false =>
  cases decide ((ws.length:Int)=3) with
  | true=>exact ⟨small15 _ (hs 1),small15 _ (hs 2),small0⟩
  | false=>exact ⟨small0,small0,small0⟩
theorem nums_small (l:List AV) (h:bnd l) (i:Nat):small (fI ((l++[AV.int .i64 0,AV.int .i64 0,AV.int .i64 0]).getD i .undef) 0):=by
 have hb:bnd (l++[AV.int .i64 0,AV.int .i64 0,AV.int .i64 0]):=fun x hx=>by
  rcases List.mem_append.1 hx with h1|h1
  ·exact h x h1
  ·have:x=AV.int .i64 0:=by simpa using h1
   subst this
   exact small0
 by_cases hi:i<(l++[AV.int .i64 0,AV.int .i64 0,AV.int .i64 0]).length
 ·rw [List.getD_eq_getElem?_getD,List.getElem?_eq_getElem hi]
  exact hb _ (List.getElem_mem _)
 ·rw [List.getD_eq_getElem?_getD,List.getElem?_eq_none (by omega)]
  exact small0
def wds (s:ByteArray):List AV:=(pcs 32 [] s.data.toList).map txt
theorem wds_size (s:ByteArray) (h:s.size≤1048576):(∀ x ∈ wds s,(fS x 0).size≤1048576)∧(wds s).length≤1048577∧wds s ≠ []:=by
 have hl:=ba_size s
 unfold wds
 refine ⟨fun x hx=>?_,?_,?_⟩
 ·obtain ⟨l,hm,rfl⟩:=List.mem_map.1 hx
  have:=pcs_word 32 _ _ l hm
  rw [ba_size,txt_fS]
  simp only [List.length_nil] at this
  omega
 ·have:=pcs_len 32 s.data.toList []
  rw [List.length_map]
  omega
 ·obtain ⟨v,ws,e⟩:=pcs_cons 32 s.data.toList []
  rw [e]
  simp
theorem wds_at (s:ByteArray) (h:s.size≤1048576) (i:Nat):(w_ (wds s) i).size≤1048576:=by
 unfold w_
 by_cases hi:i<(wds s).length
 ·rw [List.getD_eq_getElem?_getD,List.getElem?_eq_getElem hi]
  exact (wds_size s h).1 _ (List.getElem_mem _)
 ·rw [List.getD_eq_getElem?_getD,List.getElem?_eq_none (by omega)]
  decide
theorem P5 (s:ByteArray) (h:s.size≤1048576):q5 s=true∧(v5_0 s,v5_1 s,v5_2 s,v5_3 s,v5_4 s)=res (eS (wds s)) s:=by
 obtain ⟨c1,c2⟩:=P13 s h
 have c2':v13_0 s 32=wds s:=c2
 have hs:=wds_at s h
 have a1:q15 (fS ((wds s).getD (1:Int).toNat .undef) 0)=true:=(P15 _ (hs 1)).1
 have a2:q15 (fS ((wds s).getD (2:Int).toNat .undef) 0)=true:=(P15 _ (hs 2)).1
 have a3:q15 (fS ((wds s).getD (3:Int).toNat .undef) 0)=true:=(P15 _ (hs 3)).1
 have a4:q14 (fS ((wds s).getD (3:Int).toNat .undef) 0)=true:=(P14 _ (hs 3)).1
 have b1:q16 1 (v15_0 (fS ((wds s).getD (1:Int).toNat .undef) 0)) (v14_0 (fS ((wds s).getD (3:Int).toNat .undef) 0)) (v14_1 (fS ((wds s).getD (3:Int).toNat .undef) 0))=true:=(P16 _ _ _ _ (small15 _ (hs 1)) (small14 _ (hs 3)).1 (small14 _ (hs 3)).2).1
 have b2:q16 2 (v15_0 (fS ((wds s).getD (1:Int).toNat .undef) 0)) (v15_0 (fS ((wds s).getD (2:Int).toNat .undef) 0)) 0=true:=(P16 _ _ _ _ (small15 _ (hs 1)) (small15 _ (hs 2)) small0).1
 have b3:q16 3 (v15_0 (fS ((wds s).getD (1:Int).toNat .undef) 0)) (v15_0 (fS ((wds s).getD (3:Int).toNat .undef) 0)) 0=true:=(P16 _ _ _ _ (small15 _ (hs 1)) (small15 _ (hs 3)) small0).1
 have b4:q16 0 0 0 0=true:=(P16 _ _ _ _ small0 small0 small0).1
 unfold q5 v5_0 v5_1 v5_2 v5_3 v5_4 res eS w_
 rw [c1,c2',a1,a2,a3,a4,b1,b2,b3,b4]
 have z1:(1:Int).toNat=1:=rfl
 have z2:(2:Int).toNat=2:=rfl
 have z3:(3:Int).toNat=3:=rfl
 have z0:(0:Int).toNat=0:=rfl
 rw [z0,z1,z2,z3]
 by_cases h4:((wds s).length:Int)=4
 ·have n3:decide (((wds s).length:Int)=3)=false:=decide_eq_false (by omega)
  have l0:decide (0<((wds s).length:Int))=true:=decide_eq_true (by omega)
  have l1:decide (1<((wds s).length:Int))=true:=decide_eq_true (by omega)
  have l3:decide (3<((wds s).length:Int))=true:=decide_eq_true (by omega)
  rw [decide_eq_true h4,n3,l0,l1,l3]
  cases ((fS ((wds s).getD 0 .undef) 0).toList == (ByteArray.mk #[98,101,103,105,110]).toList) with
  | true =>
   simp only [cond_true]
   cases (s.toList == ByteArray.empty.toList)
   ·cases ((v16_0 1 (v15_0 (fS ((wds s).getD 1 .undef) 0)) (v14_0 (fS ((wds s).getD 3 .undef) 0)) (v14_1 (fS ((wds s).getD 3 .undef) 0))).toList == s.toList) <;> exact ⟨rfl,rfl⟩
   ·exact ⟨rfl,rfl⟩
  | false =>
   simp only [cond_true,cond_false]
   cases (s.toList == ByteArray.empty.toList)
   ·cases ((v16_0 3 (v15_0 (fS ((wds s).getD 1 .undef) 0)) (v15_0 (fS ((wds s).getD 3 .undef) 0)) 0).toList == s.toList) <;> exact ⟨rfl,rfl⟩
   ·exact ⟨rfl,rfl⟩
 ·rw [decide_eq_false h4]
  by_cases h3:((wds s).length:Int)=3
  ·have l1:decide (1<((wds s).length:Int))=true:=decide_eq_true (by omega)
   have l2:decide (2<((wds s).length:Int))=true:=decide_eq_true (by omega)
   rw [decide_eq_true h3,l1,l2]
   simp only [cond_true,cond_false]
   cases (s.toList == ByteArray.empty.toList)
   ·cases ((v16_0 2 (v15_0 (fS ((wds s).getD 1 .undef) 0)) (v15_0 (fS ((wds s).getD 2 .undef) 0)) 0).toList == s.toList) <;> exact ⟨rfl,rfl⟩
   ·exact ⟨rfl,rfl⟩
  ·rw [decide_eq_false h3]
   simp only [cond_false]
   cases (s.toList == ByteArray.empty.toList)
   ·cases ((v16_0 0 0 0 0).toList == s.toList) <;> exact ⟨rfl,rfl⟩
   ·exact ⟨rfl,rfl⟩
theorem P6 (s:ByteArray) (h:s.size≤1048576):q6 s=true∧(v6_0 s,v6_1 s,v6_2 s,v6_3 s,v6_4 s)=res (eI (wds s)) s:=by
 obtain ⟨z1,z2,z3⟩:=wds_size s h
 have c3:v17_0 s (ByteArray.mk #[32])=wds s:=splitL_pcs s 32
 have c4:q17 s (ByteArray.mk #[32])=true:=by
  have:(ByteArray.mk #[32]).size=1:=rfl
  unfold q17
  rw [decide_eq_true (by omega),this]
  rfl
 obtain ⟨r1,r2,r3⟩:=run60 s (wds s) z2 z3 z1
 have hl:0<(wds s).length:=List.length_pos_iff.2 z3
 have hn:=nums_small (numsOf (wds s)) r2
 have hk:∀ k:Int,q19 k (fI ((numsOf (wds s)++[AV.int .i64 0,AV.int .i64 0,AV.int .i64 0]).getD (0:Int).toNat .undef) 0) (fI ((numsOf (wds s)++[AV.int .i64 0,AV.int .i64 0,AV.int .i64 0]).getD (1:Int).toNat .undef) 0) (fI ((numsOf (wds s)++[AV.int .i64 0,AV.int .i64 0,AV.int .i64 0]).getD (2:Int).toNat .undef) 0)=true ∧
   v19_0 k (fI ((numsOf (wds s)++[AV.int .i64 0,AV.int .i64 0,AV.int .i64 0]).getD (0:Int).toNat .undef) 0) (fI ((numsOf (wds s)++[AV.int .i64 0,AV.int .i64 0,AV.int .i64 0]).getD (1:Int).toNat .undef) 0) (fI ((numsOf (wds s)++[AV.int .i64 0,AV.int .i64 0,AV.int .i64 0]).getD (2:Int).toNat .undef) 0)=v16_0 k (fI ((numsOf (wds s)++[AV.int .i64 0,AV.int .i64 0,AV.int .i64 0]).getD (0:Int).toNat .undef) 0) (fI ((numsOf (wds s)++[AV.int .i64 0,AV.int .i64 0,AV.int .i64 0]).getD (1:Int).toNat .undef) 0) (fI ((numsOf (wds s)++[AV.int .i64 0,AV.int .i64 0,AV.int .i64 0]).getD (2:Int).toNat .undef) 0):=fun k=>P19 k _ _ _ (hn 0) (hn 1) (hn 2)
 unfold q6 v6_0 v6_1 v6_2 v6_3 v6_4
 rw [c4,c3,r1]
 simp only [ro,(hk _).1,(hk _).2]
 have d1:decide (1≤((wds s).length:Int))=true:=decide_eq_true (by omega)
 have d2:decide (((wds s).length:Int)≤((wds s).length:Int))=true:=decide_eq_true (Int.le_refl _)
 have d3:decide (0<((wds s).length:Int))=true:=decide_eq_true (by omega)
 have l3:(numsOf (wds s)++[AV.int .i64 0,AV.int .i64 0,AV.int .i64 0]).length=(numsOf (wds s)).length+3:=by rw [List.length_append];rfl
 have l4:([AV.int .i64 0,AV.int .i64 0,AV.int .i64 0]:List AV).length=3:=rfl
 have d4:decide (((numsOf (wds s)).length+([AV.int .i64 0,AV.int .i64 0,AV.int .i64 0]:List AV).length)*8≤140737488355328)=true:=decide_eq_true (by rw [l4];omega)
 have d5:decide (((numsOf (wds s)).length+([AV.int .i64 0,AV.int .i64 0,AV.int .i64 0]:List AV).length)≤140737488355328)=true:=decide_eq_true (by rw [l4];omega)
 have e0:decide (0<(((numsOf (wds s)++[AV.int .i64 0,AV.int .i64 0,AV.int .i64 0]).length:Nat):Int))=true:=decide_eq_true (by rw [l3];omega)
 have e1:decide (1<(((numsOf (wds s)++[AV.int .i64 0,AV.int .i64 0,AV.int .i64 0]).length:Nat):Int))=true:=decide_eq_true (by rw [l3];omega)
 have e2:decide (2<(((numsOf (wds s)++[AV.int .i64 0,AV.int .i64 0,AV.int .i64 0]).length:Nat):Int))=true:=decide_eq_true (by rw [l3];omega)
 rw [d1,d2,d3,d4,d5,e0,e1,e2]
 unfold res eI w_
 have z0:(0:Int).toNat=0:=rfl
 have y1:(1:Int).toNat=1:=rfl
 have y2:(2:Int).toNat=2:=rfl
 rw [z0,y1,y2]
 simp only
 generalize fI ((numsOf (wds s)++[AV.int .i64 0,AV.int .i64 0,AV.int .i64 0]).getD 0 .undef) 0=a
 generalize fI ((numsOf (wds s)++[AV.int .i64 0,AV.int .i64 0,AV.int .i64 0]).getD 1 .undef) 0=b
 generalize fI ((numsOf (wds s)++[AV.int .i64 0,AV.int .i64 0,AV.int .i64 0]).getD 2 .undef) 0=c
 cases ((fS ((wds s).getD 0 .undef) 0).toList == (ByteArray.mk #[98,101,103,105,110]).toList) with
 | true =>
  simp only [cond_true]
  cases (s.toList == ByteArray.empty.toList)
  ·cases ((v16_0 1 a b c).toList == s.toList) <;> exact ⟨rfl,rfl⟩
  ·exact ⟨rfl,rfl⟩
 | false =>
  simp only [cond_false]
  cases ((fS ((wds s).getD 0 .undef) 0).toList == (ByteArray.mk #[115,119,97,112]).toList) with
  | true =>
   simp only [cond_true]
   cases (s.toList == ByteArray.empty.toList)
   ·cases ((v16_0 2 a b c).toList == s.toList) <;> exact ⟨rfl,rfl⟩
   ·exact ⟨rfl,rfl⟩
  | false =>
   simp only [cond_false]
   cases ((fS ((wds s).getD 0 .undef) 0).toList == (ByteArray.mk #[101,110,100]).toList) with
   | true =>
    simp only [cond_true]
    cases (s.toList == ByteArray.empty.toList)
    ·cases ((v16_0 3 a b c).toList == s.toList) <;> exact ⟨rfl,rfl⟩
    ·exact ⟨rfl,rfl⟩
   | false =>
    simp only [cond_false]
    cases (s.toList == ByteArray.empty.toList)
    ·cases ((v16_0 0 a b c).toList == s.toList) <;> exact ⟨rfl,rfl⟩
    ·exact ⟨rfl,rfl⟩
theorem txt_toList (l m:List UInt8):((fS (txt l) 0).toList == (ByteArray.mk m.toArray).toList)=decide (l=m):=by
 rw [ba_beq,txt_fS,ba_mk]
theorem num_txt (n:Int) (h:small n):pintN (fS (txt (Lib.itoa n)) 0)=some n:=(pint_iff _ _).2 ⟨txt_fS _,h.1,h.2⟩
theorem gN_txt (t:List AV) (n:Int) (h:small n):gN t (txt (Lib.itoa n))=t++[AV.int .i64 n]:=by
 unfold gN
 rw [num_txt n h]
theorem gM_num (t:List AV) (n:Int) (h:small n):gM t (txt (Lib.itoa n))=t++[AV.int .i64 n]:=by
 unfold gM
 rw [split_dots0 _ (by rw [txt_fS];exact itoa_no46 n),txt_fS]
 exact gN_txt t n h
theorem gM_word (t:List AV) (l:List UInt8) (h:∀ b ∈ l,b ≠ 46) (hn:pintN (fS (txt l) 0)=none):gM t (txt l)=t:=by
 unfold gM
 rw [split_dots0 _ (by rw [txt_fS];exact h),txt_fS]
 show gN t (txt l)=t
 unfold gN
 rw [hn]
theorem gM_range (t:List AV) (b c:Int) (hb:small b) (hc:small c):gM t (txt (fmtL b c))=t++[AV.int .i64 b,AV.int .i64 c]:=by
 unfold gM
 rw [split_dots1 _ (txt_fS (fmtL b c)) (itoa_no46 b) (itoa_no46 c)]
 show gN (gN t (txt (Lib.itoa b))) (txt (Lib.itoa c))=_
 rw [gN_txt t b hb,gN_txt _ c hc,List.append_assoc]
 rfl
theorem no_num (l:List UInt8) (h:∃ b ∈ l,¬ (b=45∨(48≤b.toNat∧b.toNat≤57))):pintN (fS (txt l) 0)=none:=by
 cases hp:pintN (fS (txt l) 0) with
 | none=>rfl
 | some n =>
  have:=((pint_iff _ _).1 hp).1
  rw [txt_fS] at this
  obtain ⟨b,hb,hn⟩:=h
  rw [this] at hb
  exact absurd (itoa_byte n b hb) hn
theorem v15_txt (n:Int) (h:small n):v15_0 (fS (txt (Lib.itoa n)) 0)=n:=by
 have hz:(fS (txt (Lib.itoa n)) 0).size≤1048576:=by
  have:=itoa_len9 n h.1 h.2
  rw [ba_size,txt_fS]
  omega
 exact (P15 _ hz).2 n (num_txt n h)
theorem v14_txt (b c:Int) (h:okR b c):v14_0 (fS (txt (fmtL b c)) 0)=b∧v14_1 (fS (txt (fmtL b c)) 0)=c:=by
 obtain ⟨h0,h1,h2⟩:=h
 have hz:(fS (txt (fmtL b c)) 0).size≤1048576:=by
  have a1:=itoa_len9 b (by omega) (by omega)
  have a2:=itoa_len9 c (by omega) (by omega)
  rw [ba_size,txt_fS]
  unfold fmtL
  simp only [List.length_append,List.length_cons]
  omega
 have hi:isR (fS (txt (fmtL b c)) 0).data.toList b c:=⟨⟨h0,h1,h2⟩,txt_fS _⟩
 rcases (P14 _ hz).2 with ⟨x,y,g,e0,e1,_⟩|⟨g,_⟩
 ·obtain ⟨rfl,rfl⟩:=isR_uniq g hi
  exact ⟨e0,e1⟩
 ·exact absurd hi (g _ _)
theorem both_isN (s:ByteArray) {k a b c:Int} (h:isN s.data.toList k a b c):eS (wds s)=(k,a,b,c)∧eI (wds s)=(k,a,b,c):=by
 have hw:wds s=(wordsN k a b c).map txt:=by unfold wds;rw [isN_words h]
 rw [hw]
 rcases h.1 with ⟨rfl,a0,a1,b0,b1,c0⟩|⟨rfl,a0,a1,b0,rfl⟩|⟨rfl,a0,a1,b0,b1,rfl⟩
 ·have sa:small a:=⟨by omega,by omega⟩
  have sb:small b:=⟨by omega,by omega⟩
  have sc:small c:=⟨by omega,by omega⟩
  have e:(wordsN 1 a b c).map txt=[txt wB,txt (Lib.itoa a),txt [105,110],txt (fmtL b c)]:=rfl
  have hn:numsOf [txt wB,txt (Lib.itoa a),txt [105,110],txt (fmtL b c)]=[AV.int .i64 a,AV.int .i64 b,AV.int .i64 c]:=by
   show gM (gM (gM [] (txt (Lib.itoa a))) (txt [105,110])) (txt (fmtL b c))=_
   rw [gM_num _ a sa,gM_word _ [105,110] (by decide) (no_num _ ⟨105,by decide,by decide⟩),gM_range _ b c sb sc]
   rfl
  have hb0:((fS (txt wB) 0).toList == (ByteArray.mk #[98,101,103,105,110]).toList)=true:=by
   have:=txt_toList wB wB
   rw [decide_eq_true rfl] at this
   exact this
  rw [e]
  constructor
  ·show (bif ((fS (txt wB) 0).toList == (ByteArray.mk #[98,101,103,105,110]).toList) then (1,v15_0 (fS (txt (Lib.itoa a)) 0),v14_0 (fS (txt (fmtL b c)) 0),v14_1 (fS (txt (fmtL b c)) 0)) else _)=_
   obtain ⟨g1,g2⟩:=v14_txt b c ⟨by omega,b1,by omega⟩
   rw [hb0,v15_txt a sa,g1,g2]
   rfl
  ·unfold eI
   rw [hn]
   show (bif ((fS (txt wB) 0).toList == (ByteArray.mk #[98,101,103,105,110]).toList) then (1:Int) else _,a,b,c)=_
   rw [hb0]
   rfl
 ·have sa:small a:=⟨by omega,by omega⟩
  have sb:small b:=⟨by omega,by omega⟩
  have e:(wordsN 2 a b 0).map txt=[txt wS,txt (Lib.itoa a),txt (Lib.itoa b)]:=rfl
  have hn:numsOf [txt wS,txt (Lib.itoa a),txt (Lib.itoa b)]=[AV.int .i64 a,AV.int .i64 b]:=by
   show gM (gM [] (txt (Lib.itoa a))) (txt (Lib.itoa b))=_
   rw [gM_num _ a sa,gM_num _ b sb]
   rfl
  have hb0:((fS (txt wS) 0).toList == (ByteArray.mk #[98,101,103,105,110]).toList)=false:=by
   have:=txt_toList wS wB
   rw [decide_eq_false (by decide)] at this
   exact this
  have hb1:((fS (txt wS) 0).toList == (ByteArray.mk #[115,119,97,112]).toList)=true:=by
   have:=txt_toList wS wS
   rw [decide_eq_true rfl] at this
   exact this
  rw [e]
  constructor
  ·show (2,v15_0 (fS (txt (Lib.itoa a)) 0),v15_0 (fS (txt (Lib.itoa b)) 0),0)=_
   rw [v15_txt a sa,v15_txt b sb]
  ·unfold eI
   rw [hn]
   show (bif ((fS (txt wS) 0).toList == (ByteArray.mk #[98,101,103,105,110]).toList) then (1:Int) else bif ((fS (txt wS) 0).toList == (ByteArray.mk #[115,119,97,112]).toList) then 2 else _,a,b,(0:Int))=_
   rw [hb0,hb1]
   rfl
 ·have sa:small a:=⟨by omega,by omega⟩
  have sb:small b:=⟨by omega,by omega⟩
  have e:(wordsN 3 a b 0).map txt=[txt wN,txt (Lib.itoa a),txt [97,116],txt (Lib.itoa b)]:=rfl
  have hn:numsOf [txt wN,txt (Lib.itoa a),txt [97,116],txt (Lib.itoa b)]=[AV.int .i64 a,AV.int .i64 b]:=by
   show gM (gM (gM [] (txt (Lib.itoa a))) (txt [97,116])) (txt (Lib.itoa b))=_
   rw [gM_num _ a sa,gM_word _ [97,116] (by decide) (no_num _ ⟨97,by decide,by decide⟩),gM_num _ b sb]
   rfl
  have hb0:((fS (txt wN) 0).toList == (ByteArray.mk #[98,101,103,105,110]).toList)=false:=by
   have:=txt_toList wN wB
   rw [decide_eq_false (by decide)] at this
   exact this
  have hb1:((fS (txt wN) 0).toList == (ByteArray.mk #[115,119,97,112]).toList)=false:=by
   have:=txt_toList wN wS
   rw [decide_eq_false (by decide)] at this
   exact this
  have hb2:((fS (txt wN) 0).toList == (ByteArray.mk #[101,110,100]).toList)=true:=by
   have:=txt_toList wN wN
   rw [decide_eq_true rfl] at this
   exact this
  rw [e]
  constructor
  ·show (bif ((fS (txt wN) 0).toList == (ByteArray.mk #[98,101,103,105,110]).toList) then _ else (3,v15_0 (fS (txt (Lib.itoa a)) 0),v15_0 (fS (txt (Lib.itoa b)) 0),0))=_
   rw [hb0,v15_txt a sa,v15_txt b sb]
   rfl
  ·unfold eI
   rw [hn]
   show (bif ((fS (txt wN) 0).toList == (ByteArray.mk #[98,101,103,105,110]).toList) then (1:Int) else bif ((fS (txt wN) 0).toList == (ByteArray.mk #[115,119,97,112]).toList) then 2 else bif ((fS (txt wN) 0).toList == (ByteArray.mk #[101,110,100]).toList) then 3 else _,a,b,(0:Int))=_
   rw [hb0,hb1,hb2]
   rfl
theorem res_eq (s:ByteArray) (h:s.size≤1048576):res (eS (wds s)) s=res (eI (wds s)) s:=by
 obtain ⟨z1,z2,z3⟩:=wds_size s h
 by_cases hx:∃ k a b c,isN s.data.toList k a b c
 ·obtain ⟨k,a,b,c,g⟩:=hx
  obtain ⟨e1,e2⟩:=both_isN s g
  rw [e1,e2]
 ·have no:∀ t:Int × Int × Int × Int,small t.2.1→small t.2.2.1→small t.2.2.2→res t s=(0,0,0,0,false):=fun t t1 t2 t3=>by
   unfold res
   rw [ba_beq,empty_list]
   by_cases he:s.data.toList=[]
   ·rw [decide_eq_true he]
    rfl
   ·rw [decide_eq_false he,ba_beq,decide_eq_false fun g=>hx ⟨_,_,_,_,(eq_isN t1 t2 t3 he).1 g⟩]
    rfl
  obtain ⟨s1,s2,s3⟩:=eS_small (wds s) (wds_at s h)
  have hb:=(run60 s (wds s) z2 z3 z1).2.1
  rw [no _ s1 s2 s3,no _ (nums_small _ hb 0) (nums_small _ hb 1) (nums_small _ hb 2)]
theorem raw3_true (s:ByteArray):raw3 s=some (.bool true):=by
 unfold raw3
 by_cases c:(s.size:Int) > 1048576
 ·rw [decide_eq_true c]
  rfl
 rw [decide_eq_false c]
 obtain ⟨p1,p2⟩:=P5 s (by omega)
 obtain ⟨p3,p4⟩:=P6 s (by omega)
 have e:=p2.trans ((res_eq s (by omega)).trans p4.symm)
 simp only [Prod.mk.injEq] at e
 obtain ⟨e0,e1,e2,e3,e4⟩:=e
 unfold v7_0
 rw [p1,p3,e0,e1,e2,e3,e4]
 simp
theorem law3 {x0:AV} (t0:TA Tryd.prog 9 x0):m3 [x0]=some (true,.bool true):=by
 obtain ⟨s,rfl,_⟩:=tw_str (ta_one (ct := .str) t0 (by kernel_rfl) (by kernel_rfl))
 show (raw3 s).map (fun r=>(true,r))=_
 rw [raw3_true s]
 rfl
end Go.Proofs.YtcondihilccdpaaDoor
