import Derived.Test.YtcondihilccdpaaDoorPWd
namespace Go.Proofs.YtcondihilccdpaaDoor
open Go Go.Proofs.VE
set_option linter.unusedVariables false
set_option linter.unusedSimpArgs false
def rgA (x:AV):AV:=AV.agg [AV.int .i64 (v21_0 (fS x 0)),AV.int .i64 (v21_1 (fS x 0))]
def okW (x:AV):Prop:=v21_2 (fS x 0)=true
theorem getD_mem (xs:List AV) (i:Nat) (h:i<xs.length):xs.getD i .undef=xs[i]:=by
 rw [List.getD_eq_getElem?_getD,List.getElem?_eq_getElem h]
 rfl
theorem app_map (c:AV→AV) (ws:List AV):∀ (m i:Nat) (t:List AV),i+m=ws.length→foldF (fun (k:Int) t=>t++[c (ws.getD k.toNat .undef)]) m (i:Int) t=t++(ws.drop i).map c
 | 0,i,t,h=>by
  rw [List.drop_eq_nil_of_le (by omega)]
  simp [foldF]
 | m+1,i,t,h=>by
  show foldF _ m ((i:Int)+1) (t++[c (ws.getD ((i:Int)).toNat .undef)])=_
  have:=app_map c ws m (i+1) (t++[c (ws.getD ((i:Int)).toNat .undef)]) (by omega)
  rw [show (((i+1:Nat):Int))=(i:Int)+1 by omega] at this
  rw [this,List.drop_eq_getElem_cons (show i<ws.length by omega),Int.toNat_natCast,getD_mem ws i (by omega),List.map_cons,List.append_assoc]
  rfl
def g9 (ws:List AV) (i:Int) (t:List AV):List AV ⊕ (List AV × Int × Int) :=
 bif !(v21_2 (fS (ws.getD i.toNat .undef) 0)) then .inr (t,v21_0 (fS (ws.getD i.toNat .undef) 0),v21_1 (fS (ws.getD i.toNat .undef) 0))
 else bif decide ((t.length:Int)=30) then .inr (t,v21_0 (fS (ws.getD i.toNat .undef) 0),v21_1 (fS (ws.getD i.toNat .undef) 0)) else .inl (t++[rgA (ws.getD i.toNat .undef)])
theorem fE9 (ws:List AV):∀ (m i:Nat) (t:List AV),t.length=i→i+m=ws.length →
  ((∀ x ∈ ws.drop i,okW x)∧ws.length≤30→foldE (g9 ws) m (i:Int) t = .inl (t++(ws.drop i).map rgA)) ∧
  (¬ ((∀ x ∈ ws.drop i,okW x)∧ws.length≤30)→i≤30→∃ r,foldE (g9 ws) m (i:Int) t = .inr r)
 | 0,i,t,ht,h=>by
  rw [List.drop_eq_nil_of_le (by omega)]
  refine ⟨fun _=>by simp [foldE],fun hn hi=>absurd ⟨fun x hx=>(by cases hx),by omega⟩ hn⟩
 | m+1,i,t,ht,h=>by
  have hd:ws.drop i=ws[i] :: ws.drop (i+1):=List.drop_eq_getElem_cons (by omega)
  obtain ⟨ih1,ih2⟩:=fE9 ws m (i+1) (t++[rgA ws[i]]) (by rw [List.length_append,ht];rfl) (by omega)
  rw [show (((i+1:Nat):Int))=(i:Int)+1 by omega] at ih1 ih2
  have hg:g9 ws (i:Int) t=bif !(v21_2 (fS ws[i] 0)) then .inr (t,v21_0 (fS ws[i] 0),v21_1 (fS ws[i] 0))
    else bif decide ((t.length:Int)=30) then .inr (t,v21_0 (fS ws[i] 0),v21_1 (fS ws[i] 0)) else .inl (t++[rgA ws[i]]):=by
   unfold g9
   rw [Int.toNat_natCast,getD_mem ws i (by omega)]
  rw [hd]
  cases hk:v21_2 (fS ws[i] 0) with
  | false =>
   rw [hk] at hg
   refine ⟨fun hh=>absurd (hh.1 _ List.mem_cons_self) (by unfold okW;rw [hk];decide),fun _ _=>⟨(t,v21_0 (fS ws[i] 0),v21_1 (fS ws[i] 0)),?_⟩⟩
   unfold foldE
   rw [hg]
   rfl
  | true =>
   rw [hk] at hg
   by_cases h30:(t.length:Int)=30
   ·rw [decide_eq_true h30] at hg
    refine ⟨fun hh=>by omega,fun _ _=>⟨(t,v21_0 (fS ws[i] 0),v21_1 (fS ws[i] 0)),?_⟩⟩
    unfold foldE
    rw [hg]
    rfl
   ·rw [decide_eq_false h30] at hg
    have e:foldE (g9 ws) (m+1) (i:Int) t=foldE (g9 ws) m ((i:Int)+1) (t++[rgA ws[i]]):=by
     conv=>lhs;unfold foldE
     rw [hg]
     rfl
    rw [e]
    refine ⟨fun hh=>?_,fun hn hi=>?_⟩
    ·rw [ih1 ⟨fun x hx=>hh.1 x (List.mem_cons_of_mem _ hx),hh.2⟩,List.map_cons,List.append_assoc]
     rfl
    ·exact ih2 (fun hh=>hn ⟨fun x hx=>by
      rcases List.mem_cons.1 hx with rfl|hx
      ·exact hk
      ·exact hh.1 x hx,hh.2⟩) (by omega)
theorem run9 (ws:List AV) (hs:∀ x ∈ ws,(fS x 0).size≤1048576) (hl:ws.length≤1048577) :
  ((∀ x ∈ ws,okW x)∧ws.length≤30→runW (R9_0 (ws.length:Int) ws) (((ws.length:Int) - 0).toNat+1) (0,[])=some (.inl (ws.map rgA))) ∧
  (¬ ((∀ x ∈ ws,okW x)∧ws.length≤30)→∃ r,runW (R9_0 (ws.length:Int) ws) (((ws.length:Int) - 0).toNat+1) (0,[])=some (.inr r)):=by
 have hr:=runW_foldE (f:=R9_0 (ws.length:Int) ws) (fun i (t:List AV)=>(i,t)) ws.length (g9 ws) (fun t => .inl t) (fun r => .inr r) (fun i t=>(t.length:Int)=i) (fun i t h0 hn hI=>by
  have d0:decide (i<(ws.length:Int))=true:=decide_eq_true hn
  have d1:decide (0≤i)=true:=decide_eq_true h0
  have hm:ws.getD i.toNat .undef ∈ ws:=by rw [getD_mem ws i.toNat (by omega)];exact List.getElem_mem _
  have q:=(P21 _ (hs _ hm)).1
  have d4:∀ x:AV,decide ((t.length+([x]).length)*16≤140737488355328)=true:=fun x=>decide_eq_true (by simp only [List.length_cons,List.length_nil];omega)
  have d5:∀ x:AV,decide ((t.length+([x]).length)≤140737488355328)=true:=fun x=>decide_eq_true (by simp only [List.length_cons,List.length_nil];omega)
  have w1:IntKind.i64.wrap (i+1)=i+1:=wrap_in (by omega) (by omega)
  have hf:R9_0 (ws.length:Int) ws (i,t)=bif !(v21_2 (fS (ws.getD i.toNat .undef) 0)) then .stop (.inr (t,v21_0 (fS (ws.getD i.toNat .undef) 0),v21_1 (fS (ws.getD i.toNat .undef) 0)))
    else bif decide ((t.length:Int)=30) then .stop (.inr (t,v21_0 (fS (ws.getD i.toNat .undef) 0),v21_1 (fS (ws.getD i.toNat .undef) 0))) else .next (i+1,t++[rgA (ws.getD i.toNat .undef)]):=by
   unfold R9_0 F9_0 rgA
   simp only
   rw [d0,d1,q,d4,d5,w1]
   rfl
  rw [hf]
  unfold g9
  cases v21_2 (fS (ws.getD i.toNat .undef) 0) with
  | false=>rfl
  | true =>
   cases decide ((t.length:Int)=30) with
   | true=>rfl
   | false=>exact ⟨rfl,by rw [List.length_append];simp only [List.length_cons,List.length_nil];omega⟩) (fun t _=>by
  unfold R9_0 F9_0
  rw [decide_eq_false (Int.lt_irrefl _)]
  rfl) ws.length (((ws.length:Int) - 0).toNat+1) 0 [] (Int.le_refl 0) (by omega) (by omega) rfl
 have hf:=fE9 ws ws.length 0 [] rfl (by omega)
 rw [Int.ofNat_zero,List.drop_zero] at hf
 refine ⟨fun hh=>?_,fun hn=>?_⟩
 ·rw [hr,hf.1 hh]
  rfl
 ·obtain ⟨r,e⟩:=hf.2 hn (by omega)
  exact ⟨r,by rw [hr,e]⟩
theorem run8 (s:ByteArray) (ws:List AV) (hs:∀ x ∈ ws,(fS x 0).size≤1048576) (hl:ws.length≤1048577):runW (R8_0 s ws) (((ws.length:Int) - 0).toNat+1) (0,[])=some (ws.map rgA):=by
 have hr:=runW_fold (f:=R8_0 s ws) (fun i (t:List AV)=>(i,t)) ws.length (fun i t=>t++[rgA (ws.getD i.toNat .undef)]) (fun t=>t) (fun i t=>(t.length:Int)=i) (fun i t h0 hn hI=>by
  have d0:decide (i<(ws.length:Int))=true:=decide_eq_true hn
  have d1:decide (0≤i)=true:=decide_eq_true h0
  have hm:ws.getD i.toNat .undef ∈ ws:=by rw [getD_mem ws i.toNat (by omega)];exact List.getElem_mem _
  obtain ⟨q1,_,e1,e2,_⟩:=parse_eq _ (hs _ hm)
  have d4:∀ x:AV,decide ((t.length+([x]).length)*16≤140737488355328)=true:=fun x=>decide_eq_true (by simp only [List.length_cons,List.length_nil];omega)
  have d5:∀ x:AV,decide ((t.length+([x]).length)≤140737488355328)=true:=fun x=>decide_eq_true (by simp only [List.length_cons,List.length_nil];omega)
  unfold R8_0 F8_0 rgA
  simp only
  rw [d0,d1,q1,e1,e2,d4,d5,wrap_in (a:=i+1) (by omega) (by omega)]
  exact ⟨rfl,by rw [List.length_append];simp only [List.length_cons,List.length_nil];omega⟩) (fun t _=>by
  unfold R8_0 F8_0
  rw [decide_eq_false (Int.lt_irrefl _)]
  rfl) ws.length (((ws.length:Int) - 0).toNat+1) 0 [] (Int.le_refl 0) (by omega) (by omega) rfl
 have hf:=app_map rgA ws ws.length 0 [] (by omega)
 rw [Int.ofNat_zero,List.drop_zero,List.nil_append] at hf
 rw [hr,hf]
theorem findF_none9 {p:Int→Bool}:∀ (m:Nat) (i:Int),findF p m i=none→∀ j,i≤j→j<i+m→p j=false
 | 0,_,_,j,h1,h2=>by omega
 | m+1,i,h,j,h1,h2=>by
  unfold findF at h
  cases hp:p i with
  | true=>rw [hp] at h;cases h
  | false =>
   rw [hp] at h
   by_cases hj:j=i
   ·rw [hj];exact hp
   ·exact findF_none9 m (i+1) h j (by omega) (by omega)
def okE (y:AV):Prop:=okR (fI y 0) (fI y 1)
instance (y:AV):Decidable (okE y):=by unfold okE;infer_instance
def fmtE (y:AV):List UInt8:=fmtL (fI y 0) (fI y 1)
theorem P31 (ys:List AV) (h:ys.length≤1048577):q31 ys=true∧v31_0 ys=decide ((∀ y ∈ ys,okE y)∧ys.length≤30):=by
 have hr:=runW_find (f:=R31_0 ys) (fun i=>i) ys.length (fun i => !decide (okE (ys.getD i.toNat .undef))) (.inl ()) (fun _ => .inr ()) (fun i h0 hn=>by
  have d0:decide (i<(ys.length:Int))=true:=decide_eq_true hn
  have d1:decide (0≤i)=true:=decide_eq_true h0
  unfold R31_0 F31_0 okE
  rw [d0,d1,isR34,wrap_in (a:=i+1) (by omega) (by omega)]
  rfl) (by
  unfold R31_0 F31_0
  rw [decide_eq_false (Int.lt_irrefl _)]
  rfl) ys.length (((ys.length:Int) - 0).toNat+1) 0 (Int.le_refl 0) (by omega) (by omega)
 unfold q31 v31_0
 rw [hr]
 cases hf:findF (fun i => !decide (okE (ys.getD i.toNat .undef))) ys.length 0 with
 | none =>
  refine ⟨rfl,?_⟩
  show decide ((ys.length:Int)≤30)=_
  have all:∀ y ∈ ys,okE y:=fun y hy=>by
   obtain ⟨j,hj,rfl⟩:=List.getElem_of_mem hy
   have:=findF_none9 _ 0 hf j (by omega) (by omega)
   simp only [Int.toNat_natCast,Bool.not_eq_false',decide_eq_true_eq] at this
   rw [getD_mem ys j hj] at this
   exact this
  by_cases h30:ys.length≤30
  ·rw [decide_eq_true (by omega),decide_eq_true ⟨all,h30⟩]
  ·rw [decide_eq_false (by omega),decide_eq_false fun g=>h30 g.2]
 | some i =>
  obtain ⟨i0,i1,i2⟩:=findF_some _ _ hf
  refine ⟨rfl,?_⟩
  show false=_
  rw [decide_eq_false fun g=>?_]
  have hm:ys.getD i.toNat .undef ∈ ys:=by rw [getD_mem ys i.toNat (by omega)];exact List.getElem_mem _
  rw [decide_eq_true (g.1 _ hm)] at i2
  cases i2
def wE (ys:List AV) (i:Int):ByteArray:=v23_0 (fI (ys.getD i.toNat .undef) 0) (fI (ys.getD i.toNat .undef) 1)
def gW (ys:List AV) (i:Int) (t:ByteArray):ByteArray:=bif decide (i > 0) then (t++ByteArray.mk #[32])++wE ys i else t++wE ys i
theorem wE_size (ys:List AV) (i:Int):(wE ys i).size≤42:=by
 unfold wE
 generalize fI (ys.getD i.toNat .undef) 0=a
 generalize fI (ys.getD i.toNat .undef) 1=b
 by_cases h:okR a b
 ·rw [ba_size,(P23 a b).2.1 h]
  obtain ⟨h0,h1,h2⟩:=h
  have la:=itoaB_len a (by omega) (by omega)
  have lb:=itoaB_len b (by omega) (by omega)
  rw [ba_size,itoaB_list] at la lb
  unfold fmtL
  simp only [List.length_append,List.length_cons]
  omega
 ·rw [(P23 a b).2.2 h]
  decide
theorem run20 (ys:List AV) (h:ys.length≤1048577):runW (R20_0 ys) (((ys.length:Int) - 0).toNat+1) (ByteArray.empty,0)=some (foldF (gW ys) ys.length 0 ByteArray.empty) :=
 runW_fold (f:=R20_0 ys) (fun i (t:ByteArray)=>(t,i)) ys.length (gW ys) (fun t=>t) (fun i t=>(t.size:Int)≤43*i) (fun i t h0 hn hI=>by
  have hw:=wE_size ys i
  have o1:(ByteArray.mk #[32]).size=1:=rfl
  have d0:decide (i<(ys.length:Int))=true:=decide_eq_true hn
  have d2:decide (0≤i)=true:=decide_eq_true h0
  have d3:decide (t.size+(wE ys i).size≤4611686018427387904)=true:=decide_eq_true (by omega)
  have d4:decide ((t++ByteArray.mk #[32]).size+(wE ys i).size≤4611686018427387904)=true:=decide_eq_true (by rw [ByteArray.size_append];omega)
  have d5:decide (t.size+(ByteArray.mk #[32]).size≤4611686018427387904)=true:=decide_eq_true (by omega)
  have hs:(gW ys i t).size≤t.size+43:=by
   unfold gW
   cases decide (i > 0)
   ·simp only [cond_false,ByteArray.size_append];omega
   ·simp only [cond_true,ByteArray.size_append];omega
  refine ⟨?_,by omega⟩
  unfold wE at d3 d4
  unfold R20_0 F20_0 gW wE
  simp only
  rw [(P23 _ _).1,d0,d2,d3,d4,d5,wrap_in (a:=i+1) (by omega) (by omega)]
  cases decide (i > 0) <;> rfl) (fun t _=>by
  unfold R20_0 F20_0
  rw [decide_eq_false (Int.lt_irrefl _)]
  rfl) ys.length _ 0 ByteArray.empty (Int.le_refl 0) (by omega) (by omega) (by decide)
theorem gW_jn (ys:List AV) (hk:∀ y ∈ ys,okE y):∀ (m i:Nat) (t:ByteArray),i+m=ys.length→t.data.toList=jn 32 ((ys.take i).map fmtE)→(foldF (gW ys) m (i:Int) t).data.toList=jn 32 (ys.map fmtE)
 | 0,i,t,h,ht=>by
  show t.data.toList=_
  rw [ht,List.take_of_length_le (by omega)]
 | m+1,i,t,h,ht=>by
  have hi:i<ys.length:=by omega
  have hw:(wE ys (i:Int)).data.toList=fmtE ys[i]:=by
   unfold wE fmtE
   rw [Int.toNat_natCast,getD_mem ys i hi]
   exact (P23 _ _).2.1 (hk _ (List.getElem_mem hi))
  have hst:(gW ys (i:Int) t).data.toList=jn 32 ((ys.take (i+1)).map fmtE):=by
   rw [List.take_succ_eq_append_getElem hi,List.map_append,List.map_singleton]
   unfold gW
   by_cases h0:(i:Int) > 0
   ·have hne:(ys.take i).map fmtE ≠ []:=by
     intro g
     have:=congrArg List.length g
     simp only [List.length_map,List.length_take,List.length_nil] at this
     omega
    rw [decide_eq_true h0,jn_snoc 32 _ _ hne,← ht,← hw]
    simp [ByteArray.data_append]
   ·have:i=0:=by omega
    subst this
    rw [decide_eq_false h0]
    simp only [cond_false,ByteArray.data_append,Array.toList_append,hw,ht]
    simp [jn]
  have:=gW_jn ys hk m (i+1) (gW ys (i:Int) t) (by omega) hst
  rw [show (((i+1:Nat):Int))=(i:Int)+1 by omega] at this
  exact this
theorem jn_len (c:UInt8):∀ ws:List (List UInt8),∀ w ∈ ws,w.length≤(jn c ws).length
 | [],w,h=>by cases h
 | [v],w,h=>by
  obtain rfl:=List.mem_singleton.1 h
  exact Nat.le_refl _
 | u :: v :: ws,w,h=>by
  show w.length≤(u++c :: jn c (v :: ws)).length
  rw [List.length_append,List.length_cons]
  rcases List.mem_cons.1 h with rfl|h
  ·omega
  ·have:=jn_len c (v :: ws) w h
   omega
theorem P20 (ys:List AV) (h:ys.length≤1048577):q20 ys=true∧(((∀ y ∈ ys,okE y)∧ys.length≤30)→ys ≠ []→(v20_0 ys).data.toList=jn 32 (ys.map fmtE))∧(¬ ((∀ y ∈ ys,okE y)∧ys.length≤30)→v20_0 ys=ByteArray.empty):=by
 obtain ⟨s1,s2⟩:=P31 ys h
 unfold q20 v20_0
 rw [s1,s2,run20 ys h]
 by_cases hk:(∀ y ∈ ys,okE y)∧ys.length≤30
 ·rw [decide_eq_true hk]
  refine ⟨rfl,fun _ hne=>?_,fun g=>absurd hk g⟩
  have hj:=gW_jn ys hk.1 ys.length 0 ByteArray.empty (by omega) rfl
  rw [Int.ofNat_zero] at hj
  simp only [ro,Bool.not_true,cond_false]
  rw [ba_beq,hj,empty_list,decide_eq_false ?_]
  ·exact hj
  ·intro g
   cases ys with
   | nil=>exact hne rfl
   | cons y r =>
    have:=jn_len 32 ((y :: r).map fmtE) (fmtE y) (by simp)
    rw [g] at this
    have:=fmtL_len (fI y 0) (fI y 1)
    unfold fmtE at *
    simp only [List.length_nil] at *
    omega
 ·rw [decide_eq_false hk]
  exact ⟨rfl,fun g=>absurd g hk,fun _=>rfl⟩
def wds (s:ByteArray):List AV:=(pcs 32 [] s.data.toList).map txt
theorem wds_size (s:ByteArray) (h:s.size≤1048576):(∀ x ∈ wds s,(fS x 0).size≤1048576)∧(wds s).length≤1048577∧wds s ≠ []:=by
 have hl:=ba_size s
 unfold wds
 refine ⟨fun x hx=>?_,?_,?_⟩
 ·obtain ⟨l,hm,rfl⟩:=List.mem_map.1 hx
  have:=pcs_word 32 _ _ l hm
  rw [ba_size,txt_fS]
  simp only [List.length_nil] at this
  omega
 ·have:=pcs_len 32 s.data.toList []
  rw [List.length_map]
  omega
 ·obtain ⟨v,ws,e⟩:=pcs_cons 32 s.data.toList []
  rw [e]
  simp
def goodW (s:ByteArray):Prop:=(∀ x ∈ wds s,okW x)∧(wds s).length≤30
theorem rgA_ok (x:AV) (h:(fS x 0).size≤1048576):okE (rgA x)∧(okW x→(fS x 0).data.toList=fmtE (rgA x))∧((fS x 0).data.toList=fmtE (rgA x)→okW x):=by
 have f0:fI (rgA x) 0=v21_0 (fS x 0):=rfl
 have f1:fI (rgA x) 1=v21_1 (fS x 0):=rfl
 unfold okE fmtE okW
 rw [f0,f1]
 rcases (P21 _ h).2 with ⟨a,b,g,e0,e1,e2⟩|⟨g,e0,e1,e2⟩
 ·rw [e0,e1,e2]
  exact ⟨g.1,fun _=>g.2,fun _=>rfl⟩
 ·rw [e0,e1,e2]
  exact ⟨by decide,fun k=>(by cases k),fun k=>absurd ⟨by decide,k⟩ (g 0 0)⟩
theorem same20 (s:ByteArray) (h:s.size≤1048576):((v20_0 ((wds s).map rgA)).data.toList=s.data.toList) ↔ goodW s:=by
 obtain ⟨z1,z2,z3⟩:=wds_size s h
 have hlen:((wds s).map rgA).length=(wds s).length:=List.length_map _
 have hok:∀ y ∈ (wds s).map rgA,okE y:=fun y hy=>by
  obtain ⟨x,hx,rfl⟩:=List.mem_map.1 hy
  exact (rgA_ok x (z1 x hx)).1
 have hne:(wds s).map rgA ≠ []:=fun g=>z3 (List.map_eq_nil_iff.1 g)
 obtain ⟨_,p1,p2⟩:=P20 ((wds s).map rgA) (by omega)
 have hp:(pcs 32 [] s.data.toList)=(wds s).map fun x=>(fS x 0).data.toList:=by
  unfold wds
  rw [List.map_map]
  conv=>lhs;rw [← List.map_id (pcs 32 [] s.data.toList)]
  apply List.map_congr_left
  intro l _
  exact (txt_fS l).symm
 constructor
 ·intro g
  by_cases h30:(wds s).length≤30
  ·rw [p1 ⟨hok,by omega⟩ hne,List.map_map] at g
   have hj:=pcs_jn 32 ((wds s).map (fmtE ∘ rgA)) (fun g=>z3 (List.map_eq_nil_iff.1 g)) (fun w hw=>by
    obtain ⟨x,_,rfl⟩:=List.mem_map.1 hw
    exact fmtL_no32 _ _)
   rw [g,hp] at hj
   refine ⟨fun x hx=>?_,h30⟩
   have:=List.map_inj_left.1 hj x hx
   exact (rgA_ok x (z1 x hx)).2.2 this
  ·rw [p2 (fun k=>h30 (by omega)),empty_list] at g
   have:=pcs_len 32 s.data.toList []
   rw [← g] at this
   have hl:(wds s).length=(pcs 32 [] s.data.toList).length:=by unfold wds;exact List.length_map _
   rw [← g] at hl
   simp only [List.length_nil] at this
   omega
 ·intro g
  rw [p1 ⟨hok,by have:=g.2;omega⟩ hne,List.map_map]
  have e:(wds s).map (fmtE ∘ rgA)=pcs 32 [] s.data.toList:=by
   rw [hp]
   apply List.map_congr_left
   intro x hx
   exact ((rgA_ok x (z1 x hx)).2.1 (g.1 x hx)).symm
  rw [e,jn_pcs]
  rfl
theorem parseW (s:ByteArray) (h:s.size≤1048576):q8 s=true∧q9 s=true∧v8_0 s=v9_0 s∧v8_1 s=v9_1 s∧(v9_0 s).length≤30:=by
 obtain ⟨z1,z2,z3⟩:=wds_size s h
 obtain ⟨c1,c2⟩:=P13 s h
 have c3:v17_0 s (ByteArray.mk #[32])=wds s:=splitL_pcs s 32
 have c4:q17 s (ByteArray.mk #[32])=true:=by
  have:(ByteArray.mk #[32]).size=1:=rfl
  unfold q17
  rw [decide_eq_true (by omega),this]
  rfl
 have c2':v13_0 s 32=wds s:=c2
 obtain ⟨r1,r2⟩:=run9 (wds s) z1 z2
 have r8:=run8 s (wds s) z1 z2
 have hq:=(P20 ((wds s).map rgA) (by rw [List.length_map];exact z2)).1
 unfold q8 q9 v8_0 v8_1 v9_0 v9_1
 rw [c1,c2',c3,c4,r8]
 cases s.toList == (ByteArray.mk #[110,111,110,101]).toList with
 | true=>exact ⟨rfl,rfl,rfl,rfl,Nat.zero_le 30⟩
 | false =>
  simp only [cond_false,ro,Bool.true_and]
  rw [hq,ba_beq]
  by_cases hg:goodW s
  ·rw [r1 hg,decide_eq_true ((same20 s h).2 hg)]
   refine ⟨rfl,rfl,rfl,rfl,?_⟩
   show ((wds s).map rgA).length≤30
   rw [List.length_map]
   exact hg.2
  ·obtain ⟨r,e⟩:=r2 hg
   rw [e,decide_eq_false fun k=>hg ((same20 s h).1 k)]
   exact ⟨rfl,rfl,rfl,rfl,Nat.zero_le 30⟩
theorem raw4_true (s:ByteArray):raw4 s=some (.bool true):=by
 unfold raw4
 by_cases c:(s.size:Int) > 1048576
 ·rw [decide_eq_true c]
  rfl
 rw [decide_eq_false c]
 obtain ⟨p1,p2,p3,p4,p5⟩:=parseW s (by omega)
 rw [p1,p2,p3,p4]
 generalize v9_0 s=xs at *
 obtain ⟨e1,e2⟩:=P10 xs xs (by omega)
 rw [e1,e2,eqL_self ee2_self]
 obtain ⟨ys,k1,k2,k3,k4,k5⟩:=P11 xs 1 (by omega) (by decide) (by decide)
 obtain ⟨h1,h2⟩:=P12 ys 1 (by omega) (by decide) (by decide) (fun i hi=>k5 i (by omega))
 rw [k1,k3,h1,decide_eq_false (by omega:¬ v12_0 ys 1<0),decide_eq_true (by omega:v12_0 ys 1=v11_0 1 xs)]
 cases v9_1 s <;> rfl
theorem law4 {x0:AV} (t0:TA Tryd.prog 9 x0):m4 [x0]=some (true,.bool true):=by
 obtain ⟨s,rfl,_⟩:=tw_str (ta_one (ct := .str) t0 (by kernel_rfl) (by kernel_rfl))
 show (raw4 s).map (fun r=>(true,r))=_
 rw [raw4_true s]
 rfl
end Go.Proofs.YtcondihilccdpaaDoor
