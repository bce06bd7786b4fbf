import Derived.Test.YtkdnhnkhcldonaaCAg
namespace Go.Proofs.Ytkdnhnkhcldonaa
open Go Go.Proofs.VE
set_option linter.unusedVariables false
set_option linter.unusedSimpArgs false
def dI (i:Int):AV := .int .i64 i
def E35 (xs vs:List AV) (i:Int):List AV→Int ⊕ (Int × List AV)
 | [] => .inl i
 | y :: ys => .inr (i,y :: ys)
def K35 (xs vs:List AV):List AV→Unit ⊕ List AV
 | [] => .inl ()
 | y :: ys => .inr (y :: ys)
theorem run35 (xs vs:List AV) (h:xs.length≤1048576):runW (R35_0 xs vs) (((xs.length:Int) - 0).toNat+1) (E35 xs vs 0 [])=some (K35 xs vs (appF allT dI xs.length 0 [])):=by
 refine runW_appK (E35 xs vs) (K35 xs vs) xs.length allT dI (fun i ys h0 hn hl=>?_) (fun ys=>?_)
 ·have d1:decide (i<(xs.length:Int))=true:=decide_eq_true hn
  have d2:decide (0≤i)=true:=decide_eq_true h0
  cases ys with
  | nil =>
   have c1:decide ((([dI i]:List AV).length)*8≤140737488355328)=true:=by simp
   have c2:decide ((([dI i]:List AV).length)≤140737488355328)=true:=by simp
   simp only [dI] at c1 c2
   simp only [E35,R35_0,sumE,F35_0_s0,d1,d2,c1,c2,Bool.and_self,cond_true,allT,List.nil_append]
   rw [wrap_in (a:=i+1) (by omega) (by omega)]
   try rfl
  | cons y ys =>
   have hl':(y :: ys).length≤1048576:=by omega
   have c1:decide (((y :: ys).length+[dI i].length)*8≤140737488355328)=true:=decide_eq_true (by simp only [List.length_singleton];omega)
   have c2:decide ((y :: ys).length+[dI i].length≤140737488355328)=true:=decide_eq_true (by simp only [List.length_singleton];omega)
   simp only [dI] at c1 c2
   simp only [E35,R35_0,sumE,F35_0_s1,d1,d2,c1,c2,Bool.and_self,cond_true,allT,List.cons_append]
   rw [wrap_in (a:=i+1) (by omega) (by omega)]
   try rfl
 ·cases ys <;> simp only [E35,K35,R35_0,sumE,F35_0_s0,F35_0_s1,Int.lt_irrefl,decide_false,cond_false]
def E32 (xs vs:List AV) (i:Int):List AV→Int ⊕ (Int × List AV)
 | [] => .inl i
 | y :: ys => .inr (i,y :: ys)
def K32 (xs vs:List AV):List AV→Unit ⊕ List AV
 | [] => .inl ()
 | y :: ys => .inr (y :: ys)
theorem run32 (xs vs:List AV) (h:xs.length≤1048576):runW (R32_0 xs.length vs) (((xs.length:Int) - 0).toNat+1) (E32 xs vs 0 [])=some (K32 xs vs (appF allT dI xs.length 0 [])):=by
 refine runW_appK (E32 xs vs) (K32 xs vs) xs.length allT dI (fun i ys h0 hn hl=>?_) (fun ys=>?_)
 ·have d1:decide (i<(xs.length:Int))=true:=decide_eq_true hn
  have d2:decide (0≤i)=true:=decide_eq_true h0
  cases ys with
  | nil =>
   have c1:decide ((([dI i]:List AV).length)*8≤140737488355328)=true:=by simp
   have c2:decide ((([dI i]:List AV).length)≤140737488355328)=true:=by simp
   simp only [dI] at c1 c2
   simp only [E32,R32_0,sumE,F32_0_s0,d1,d2,c1,c2,Bool.and_self,cond_true,allT,List.nil_append]
   rw [wrap_in (a:=i+1) (by omega) (by omega)]
   try rfl
  | cons y ys =>
   have hl':(y :: ys).length≤1048576:=by omega
   have c1:decide (((y :: ys).length+[dI i].length)*8≤140737488355328)=true:=decide_eq_true (by simp only [List.length_singleton];omega)
   have c2:decide ((y :: ys).length+[dI i].length≤140737488355328)=true:=decide_eq_true (by simp only [List.length_singleton];omega)
   simp only [dI] at c1 c2
   simp only [E32,R32_0,sumE,F32_0_s1,d1,d2,c1,c2,Bool.and_self,cond_true,allT,List.cons_append]
   rw [wrap_in (a:=i+1) (by omega) (by omega)]
   try rfl
 ·cases ys <;> simp only [E32,K32,R32_0,sumE,F32_0_s0,F32_0_s1,Int.lt_irrefl,decide_false,cond_false]
theorem appF_all (c:Int→AV):∀ (m:Nat) (i:Int) (ys:List AV),appF allT c m i ys=ys++(List.range m).map fun j:Nat=>c (i+j)
 | 0,i,ys=>by simp [appF,foldF]
 | m+1,i,ys=>by
  have e:appF allT c (m+1) i ys=appF allT c m (i+1) (ys++[c i]):=rfl
  rw [e,appF_all c m,List.range_succ_eq_map,List.map_cons,List.map_map,List.append_assoc]
  congr 1
  simp only [Int.natCast_zero,Int.add_zero,List.singleton_append,List.cons.injEq,true_and]
  refine List.map_congr_left fun j _=>?_
  simp only [Function.comp]
  congr 1
  omega
def rows (xs:List AV):List AV:=appF allT dI xs.length 0 []
theorem rows_len (xs:List AV):(rows xs).length=xs.length:=by
 unfold rows
 rw [appF_all]
 simp
theorem rows_el (xs:List AV) (k:Int) (h0:0≤k) (h1:k<xs.length):el (rows xs) k=k:=by
 unfold el rows
 rw [appF_all,List.nil_append,List.getD_eq_getElem?_getD,List.getElem?_map,List.getElem?_range (by omega)]
 simp only [Option.map_some,Option.getD_some]
 show (0:Int)+(k.toNat:Nat)=k
 omega
theorem P35 (xs:List AV) (h:xs.length≤1048576):q35 xs=true∧v35_0 xs=(bif v36_0 xs then xs else [])∧v35_1 xs=(bif v36_0 xs then rows xs else [])∧v35_2 xs=[]:=by
 unfold q35 v35_0 v35_1 v35_2
 have hr:=run35 xs ([]++xs) h
 have c1:decide ((([]:List AV).length+xs.length)*8≤140737488355328)=true:=decide_eq_true (by simp;omega)
 have c2:decide (([]:List AV).length+xs.length≤140737488355328)=true:=decide_eq_true (by simp;omega)
 rw [(P36 xs h).1,show (.inl 0:Int ⊕ (Int × List AV))=E35 xs ([]++xs) 0 [] from rfl,hr,c1,c2]
 change _∧_∧_=(bif v36_0 xs then (appF allT dI xs.length 0 []) else [])∧_
 generalize appF allT dI xs.length 0 []=ys
 cases v36_0 xs
 ·exact ⟨rfl,rfl,rfl,rfl⟩
 ·cases ys <;> exact ⟨rfl,rfl,rfl,rfl⟩
theorem P32 (xs:List AV) (h:xs.length≤1048576):q32 xs=true∧v32_0 xs=(bif v36_0 xs then xs else [])∧v32_1 xs=(bif v36_0 xs then rows xs else [])∧v32_2 xs=[]:=by
 unfold q32 v32_0 v32_1 v32_2
 have hr:=run32 xs xs h
 rw [(P30 xs h).1,(P30 xs h).2,(P65 xs h).1,(P65 xs h).2,show (.inl 0:Int ⊕ (Int × List AV))=E32 xs xs 0 [] from rfl,hr]
 change _∧_∧_=(bif v36_0 xs then (appF allT dI xs.length 0 []) else [])∧_
 generalize appF allT dI xs.length 0 []=ys
 cases v36_0 xs
 ·exact ⟨rfl,rfl,rfl,rfl⟩
 ·cases ys <;> exact ⟨rfl,rfl,rfl,rfl⟩
theorem Col_new (xs:List AV) (hl:xs.length≤1048576) (h:v36_0 xs=true):Col xs (rows xs) []:=by
 rw [(P36 xs hl).2,Bool.and_eq_true,findF_isNone,decide_eq_true_eq] at h
 obtain ⟨h1,h2⟩:=h
 have hr:=rows_len xs
 refine ⟨h2,fun k k0 k1=>?_,by omega,fun k k0 k1=>?_,fun j k j0 jk k1=>?_,fun i i0 i1=>?_,fun i i0 i1=>?_,fun i i0 i1=>?_,fun i i0 i1=>?_⟩
 ·have:=h1 k k0 (by omega)
  simp only [v52,Bool.not_eq_false',Bool.and_eq_true,decide_eq_true_eq] at this
  exact this
 ·rw [rows_el xs k k0 (by omega)]
  omega
 ·rw [rows_el xs k (by omega) (by omega),rows_el xs j j0 (by omega)]
  omega
 all_goals (exfalso;simp only [List.length_nil] at i1;omega)
theorem N2_nil:N2 []:=fun x hx=>by simp at hx
theorem P37 (xs:List AV) (h:xs.length≤1048576):q37 xs=true∧v37_0 xs=(noneB (fun i => !v52_0 (fI (xs.getD i.toNat .undef) 0) (-1000) 1000) xs.length && decide (xs.length≤60)):=by
 have hr:runW (R37_0 xs) (((xs.length:Int) - 0).toNat+1) 0=some (ro (findF (fun i => !v52_0 (fI (xs.getD i.toNat .undef) 0) (-1000) 1000) xs.length 0) (.inl ()) fun _ => .inr ()):=by
  refine runW_find (fun i=>i) xs.length _ _ _ (fun i h0 hn=>?_) ?_ xs.length _ 0 (Int.le_refl 0) (by omega) (by omega)
  ·simp only [R37_0,F37_0,h0,hn,decide_true,Bool.and_self,cond_true]
   rw [wrap_in (a:=i+1) (by omega) (by omega)]
  ·simp only [R37_0,F37_0,Int.lt_irrefl,decide_false,cond_false]
 unfold q37 v37_0 noneB
 rw [hr]
 cases findF (fun i => !v52_0 (fI (xs.getD i.toNat .undef) 0) (-1000) 1000) xs.length 0 with
 | none=>refine ⟨rfl,?_⟩;simp only [ro,sumE,Option.isNone_none,Bool.true_and];congr 1;simp only [eq_iff_iff];omega
 | some j=>exact ⟨rfl,rfl⟩
theorem P31 (xs:List AV) (h:xs.length≤1048576):q31 xs=true∧v31_0 xs=v37_0 xs:=by
 rw [(P37 xs h).2]
 unfold q31 v31_0 noneB
 rw [(P64 xs _ _ h).1,(P64 xs _ _ h).2]
 have e60:decide ((xs.length:Int)≤60)=decide (xs.length≤60):=by congr 1;simp only [eq_iff_iff];omega
 rw [e60]
 cases decide (xs.length≤60) <;> simp
theorem hist {xs:List AV} (hl:xs.length≤1048576) (h:v37_0 xs=true):xs.length≤60∧∀ k:Int,0≤k→k<xs.length → -1000≤fI (xs.getD k.toNat .undef) 0∧fI (xs.getD k.toNat .undef) 0≤1000:=by
 rw [(P37 xs hl).2,Bool.and_eq_true,noneB_iff,decide_eq_true_eq] at h
 refine ⟨h.2,fun k k0 k1=>?_⟩
 have:=h.1 k k0 k1
 simp only [v52,Bool.not_eq_false',Bool.and_eq_true,decide_eq_true_eq] at this
 exact this
theorem roomN (X Y:List AV) (h:X.length≤1048576) (h':Y.length≤1048576):(decide ((X.length+Y.length)*32≤140737488355328) && decide (X.length+Y.length≤140737488355328))=true:=by
 simp only [Bool.and_eq_true,decide_eq_true_eq]
 omega
abbrev WS:=Int × List AV × List AV × List AV × List AV
theorem round {vs rs ps:List AV} (h:Col vs rs ps) (hN:N2 ps) {v:Int} (hv : -1000≤v∧v≤1000) :
  q38 vs rs ps v=true∧q33 vs rs ps v=true∧v33_0 vs rs ps v=v38_0 vs rs ps v∧q39 vs rs ps v=true∧q34 vs rs ps v=true∧v34_0 vs rs ps v=v39_0 vs rs ps v∧v34_1 vs rs ps v=v39_1 vs rs ps v∧v34_2 vs rs ps v=v39_2 vs rs ps v ∧
   (v38_0 vs rs ps v).length≤66∧Col (v39_0 vs rs ps v) (v39_1 vs rs ps v) (v39_2 vs rs ps v)∧N2 (v39_2 vs rs ps v):=by
 cases hf:(findP ps v).isSome with
 | true =>
  obtain ⟨⟨a1,a2⟩,b1,b2⟩:=journal_old h hv hf
  obtain ⟨⟨c0,c1,c2,c3,c4,c5⟩,d0,d1,d2,d3,d4⟩:=crack_old h hv hf
  rw [a1,a2,b1,b2,c0,c1,c2,c3,d0,d1,d2,d3]
  exact ⟨rfl,rfl,rfl,rfl,rfl,rfl,rfl,rfl,by simp,h,hN⟩
 | false =>
  obtain ⟨a,b,at_,ss,hcr⟩:=crack_new h hN hv hf
  obtain ⟨t,⟨a1,a2⟩,b1,b2⟩:=journal_new h hv hf hcr
  obtain ⟨c0,c1,c2,c3,c4,c5⟩:=hcr.c
  obtain ⟨d0,d1,d2,d3,d4⟩:=hcr.c'
  rw [a1,a2,b1,b2,c0,c1,c2,c3,d0,d1,d2,d3]
  refine ⟨rfl,rfl,rfl,rfl,rfl,rfl,rfl,rfl,?_,hcr.ok,hcr.n2⟩
  have:=jr_len v a b t ss
  have:=hcr.s64
  omega
structure WorkI (ts:List AV) (s s':WS):Prop where
 e:s'=s
 k0:0≤s.1
 k1:s.1≤ts.length
 c:Col s.2.1 s.2.2.1 s.2.2.2.1
 n:N2 s.2.2.2.1
 l:(s.2.2.2.2.length:Int)≤66*s.1
theorem run8 (ts vs rs ps:List AV) (hl:ts.length≤60) (hv:∀ k:Int,0≤k→k<ts.length → -1000≤fI (ts.getD k.toNat .undef) 0∧fI (ts.getD k.toNat .undef) 0≤1000) (hc:Col vs rs ps) (hN:N2 ps) :
  ∃ r,runW (R8_0 ts) (((ts.length:Int) - 0).toNat+1) (0,vs,rs,ps,[])=some r∧runW (R7_0 ts ts.length) (((ts.length:Int) - 0).toNat+1) (0,vs,rs,ps,[])=some r∧Col r.1 r.2.1 r.2.2.1∧r.2.2.2.length≤4000:=by
 obtain ⟨r,r',h1,h2,h3,h4,h5⟩:=runW_pair (f:=R8_0 ts) (g:=R7_0 ts ts.length) (WorkI ts) (fun (r r':List AV × List AV × List AV × List AV)=>r'=r∧Col r.1 r.2.1 r.2.2.1∧r.2.2.2.length≤4000) (fun s=>((ts.length:Int) - s.1).toNat) (fun s s' hI=>by
  obtain ⟨rfl,k0,k1,c,n,l⟩:=hI
  obtain ⟨k,x,y,z,acc⟩:=s'
  simp only at k0 k1 c n l
  by_cases hk:k<ts.length
  ·have d1:decide (k<(ts.length:Int))=true:=decide_eq_true hk
   have d2:decide (0≤k)=true:=decide_eq_true k0
   obtain ⟨u1,u2,u3,u4,u5,u6,u7,u8,u9,u10,u11⟩:=round c n (hv k k0 hk)
   have rm:=roomN acc (v38_0 x y z (fI (ts.getD k.toNat AV.undef) 0)) (by omega) (by omega)
   have wk:IntKind.i64.wrap (k+1)=k+1:=wrap_in (by omega) (by omega)
   refine .inl ⟨(k+1,v39_0 x y z (fI (ts.getD k.toNat AV.undef) 0),v39_1 x y z (fI (ts.getD k.toNat AV.undef) 0),v39_2 x y z (fI (ts.getD k.toNat AV.undef) 0),acc++v38_0 x y z (fI (ts.getD k.toNat AV.undef) 0)),(k+1,v39_0 x y z (fI (ts.getD k.toNat AV.undef) 0),v39_1 x y z (fI (ts.getD k.toNat AV.undef) 0),v39_2 x y z (fI (ts.getD k.toNat AV.undef) 0),acc++v38_0 x y z (fI (ts.getD k.toNat AV.undef) 0)),?_,?_,⟨rfl,?_,?_,u10,u11,?_⟩,?_⟩
   ·simp only [R8_0,F8_0,d1,d2,u1,u4,rm,wk,Bool.and_self,cond_true]
   ·simp only [R7_0,F7_0,d1,d2,u2,u3,u5,u6,u7,u8,rm,wk,Bool.and_self,cond_true]
   ·simp only;omega
   ·simp only;omega
   ·simp only [List.length_append];omega
   ·simp only;omega
  ·have d1:decide (k<(ts.length:Int))=false:=decide_eq_false hk
   refine .inr ⟨(x,y,z,acc),(x,y,z,acc),?_,?_,rfl,c,by simp only;omega⟩
   ·simp only [R8_0,F8_0,d1,cond_false]
   ·simp only [R7_0,F7_0,d1,cond_false]) (((ts.length:Int) - 0).toNat+1) (((ts.length:Int) - 0).toNat+1) (0,vs,rs,ps,[]) (0,vs,rs,ps,[]) ⟨rfl,by simp,by simp,hc,hN,by simp⟩ (by simp) (by simp)
 subst h3
 exact ⟨r',h1,h2,h4,h5⟩
theorem same8 (xs ts:List AV) (h1:xs.length≤1048576) (h2:ts.length≤1048576) :
  q8 xs ts=true∧q7 xs ts=true∧v7_0 xs ts=v8_0 xs ts∧v7_1 xs ts=v8_1 xs ts∧v7_2 xs ts=v8_2 xs ts∧v7_3 xs ts=v8_3 xs ts∧v7_4 xs ts=v8_4 xs ts ∧
   (v8_0 xs ts).length≤1048576∧(v8_1 xs ts).length≤1048576∧(v8_2 xs ts).length≤1048576∧(v8_3 xs ts).length≤1048576:=by
 obtain ⟨a1,a2,a3,a4⟩:=P35 xs h1
 obtain ⟨b1,b2,b3,b4⟩:=P32 xs h1
 unfold q8 q7 v8_0 v8_1 v8_2 v8_3 v8_4 v7_0 v7_1 v7_2 v7_3 v7_4
 rw [a1,a2,a3,a4,b1,b2,b3,b4,(P36 xs h1).1,(P30 xs h1).1,(P30 xs h1).2,(P37 ts h2).1,(P31 ts h2).1,(P31 ts h2).2]
 cases hv:v36_0 xs with
 | false =>
  simp only [Bool.not_false,cond_true,cond_false,Bool.and_self]
  (refine ⟨?_,?_,?_,?_,?_,?_,?_,?_,?_,?_,?_⟩ <;> first|trivial|rfl|simp)
 | true =>
  cases ht:v37_0 ts with
  | false =>
   simp only [Bool.not_false,Bool.not_true,cond_true,cond_false,Bool.and_self]
   (refine ⟨?_,?_,?_,?_,?_,?_,?_,?_,?_,?_,?_⟩ <;> first|trivial|rfl|simp)
  | true =>
   obtain ⟨g1,g2⟩:=hist h2 ht
   obtain ⟨r,k1,k2,k3,k4⟩:=run8 ts xs (rows xs) [] g1 g2 (Col_new xs h1 hv) N2_nil
   have n1:=k3.n64
   have n2:=k3.len
   have n3:=col_few k3
   simp only [cond_true]
   rw [k1,k2]
   refine ⟨?_,?_,?_,?_,?_,?_,?_,?_,?_,?_,?_⟩ <;> first|trivial|rfl|(simp only [ro,Bool.not_true,cond_false];omega)
theorem q77_1 (vs rs ps:List AV) (A B:Int) (hv:vs.length≤1048576) (hp:ps.length≤1048576) (hl:(rs.length:Int)=vs.length):q77 vs rs ps [AV.agg [AV.int .i64 A,AV.int .i64 B]]=true:=by
 by_cases h:0≤A∧A<vs.length∧0≤B∧B<vs.length
 ·exact (P77 vs rs ps [AV.agg [AV.int .i64 A,AV.int .i64 B]] hv hp hl (by simp) (fun s hs=>by rw [List.mem_singleton.1 hs];exact h)).1
 ·obtain ⟨c0,c1,c2,c3⟩:=P75 vs rs ps hv (by omega) hp
  have wl:IntKind.i64.wrap ((vs.length:Int) - 1)=(vs.length:Int) - 1:=wrap_in (by omega) (by omega)
  have hs:R77_0 [AV.agg [AV.int .i64 A,AV.int .i64 B]] vs rs ps ps (0,vs,rs) = .stop (.inr (vs,rs,vs,rs,ps)):=by
   have e1:decide ((0:Int)<([AV.agg [AV.int .i64 A,AV.int .i64 B]].length:Int))=true:=rfl
   have e2:fI ([AV.agg [AV.int .i64 A,AV.int .i64 B]].getD (0:Int).toNat AV.undef) 0=A:=rfl
   have e3:fI ([AV.agg [AV.int .i64 A,AV.int .i64 B]].getD (0:Int).toNat AV.undef) 1=B:=rfl
   have e4:decide ((0:Int)≤0)=true:=rfl
   simp only [R77_0,F77_0,e1,e2,e3,e4,wl,c0,c1,c2,c3,v52,Bool.and_self,cond_true]
   by_cases g1:0≤A
   ·by_cases g2:A≤(vs.length:Int) - 1
    ·rw [decide_eq_true g1,decide_eq_true g2]
     by_cases g3:0≤B
     ·rw [decide_eq_true g3,decide_eq_false (show ¬ B≤(vs.length:Int) - 1 by omega)];rfl
     ·rw [decide_eq_false g3];rfl
    ·rw [decide_eq_true g1,decide_eq_false g2];rfl
   ·rw [decide_eq_false g1];rfl
  have hr:∀ m,runW (R77_0 [AV.agg [AV.int .i64 A,AV.int .i64 B]] vs rs ps ps) (m+1) (0,vs,rs)=some (.inr (vs,rs,vs,rs,ps)):=fun m=>by
   show (R77_0 _ vs rs ps ps (0,vs,rs)).el none _ some=_
   rw [hs]
   rfl
  unfold q77
  rw [c0,c1,c2,c3,hr]
  cases decide ((rs.length:Int)=vs.length) <;> rfl
theorem drop_at {xs:List AV} {k:Int} (h0:0≤k) (h1:k<xs.length):xs.drop k.toNat=xs.getD k.toNat .undef :: xs.drop (k+1).toNat:=by
 rw [show (k+1).toNat=k.toNat+1 by omega,List.getD_eq_getElem?_getD,List.getElem?_eq_getElem (by omega)]
 exact List.drop_eq_getElem_cons (by omega)
theorem inS_rev {a b:Int} {ss:List AV} (h:inS a b ss):inS a b ss.reverse:=fun s hs=>h s (List.mem_reverse.1 hs)
theorem P106 (ss:List AV) (hs:ss.length≤1048576) (hN:N2 ss):q106 ss=true∧v106_0 ss=ss.reverse:=by
 obtain ⟨r,h1,h2⟩:=runW_ends (f:=R106_0) (fun s:Int × Int × List AV=>0≤s.1∧s.1+s.2.1=(ss.length:Int) - 1∧s.1≤s.2.1+2∧s.2.2.length=ss.length∧∀ k:Int,0≤k→k<ss.length→s.2.2.getD k.toNat .undef=if k<s.1∨s.2.1<k then ss.getD ((ss.length:Int) - 1 - k).toNat .undef else ss.getD k.toNat .undef)
  (fun r=>r=ss.reverse) (fun s=>(s.2.1 - s.1).toNat) (fun s hI=>by
   obtain ⟨i,j,xs⟩:=s
   obtain ⟨i0,ij,ij2,hl,hx⟩:=hI
   simp only at i0 ij ij2 hl hx
   by_cases hk:i<j
   ·have d1:decide (i<j)=true:=decide_eq_true hk
    have d2:decide (0≤i)=true:=decide_eq_true i0
    have d3:decide (0≤j)=true:=decide_eq_true (by omega)
    have d4:decide (i<(xs.length:Int))=true:=decide_eq_true (by omega)
    have d5:decide (j<(xs.length:Int))=true:=decide_eq_true (by omega)
    have w1:IntKind.i64.wrap (i+1)=i+1:=wrap_in (by omega) (by omega)
    have w2:IntKind.i64.wrap (j - 1)=j - 1:=wrap_in (by omega) (by omega)
    have xi:=hx i i0 (by omega)
    have xj:=hx j (by omega) (by omega)
    rw [if_neg (by omega)] at xi xj
    have ei:AV.agg [AV.int .i64 (fI (xs.getD i.toNat AV.undef) 0),AV.int .i64 (fI (xs.getD i.toNat AV.undef) 1)]=ss.getD i.toNat .undef:=by rw [xi];exact hN.at i0 (by omega)
    have ej:AV.agg [AV.int .i64 (fI (xs.getD j.toNat AV.undef) 0),AV.int .i64 (fI (xs.getD j.toNat AV.undef) 1)]=ss.getD j.toNat .undef:=by rw [xj];exact hN.at (by omega) (by omega)
    refine .inl ⟨(i+1,j - 1,(xs.set i.toNat (ss.getD j.toNat .undef)).set j.toNat (ss.getD i.toNat .undef)),?_,⟨by simp only;omega,by simp only;omega,by simp only;omega,by simp only [List.length_set];exact hl,fun k k0 k1=>?_⟩,by simp only;omega⟩
    ·simp only [R106_0,F106_0,List.length_set,d1,d2,d3,d4,d5,w1,w2,ei,ej,Bool.and_self,cond_true]
    ·simp only
     by_cases e1:k=j
     ·subst e1
      rw [getD_set (by rw [List.length_set];omega),if_pos (by omega)]
      congr 1
      omega
     ·have g1:((xs.set i.toNat (ss.getD j.toNat .undef)).set j.toNat (ss.getD i.toNat .undef)).getD k.toNat .undef=(xs.set i.toNat (ss.getD j.toNat .undef)).getD k.toNat .undef:=by
       simp only [List.getD_eq_getElem?_getD]
       rw [List.getElem?_set_ne (by omega)]
      rw [g1]
      by_cases e2:k=i
      ·subst e2
       rw [getD_set (by omega),if_pos (by omega)]
       congr 1
       omega
      ·have g2:(xs.set i.toNat (ss.getD j.toNat .undef)).getD k.toNat .undef=xs.getD k.toNat .undef:=by
        simp only [List.getD_eq_getElem?_getD]
        rw [List.getElem?_set_ne (by omega)]
       rw [g2,hx k k0 k1]
       by_cases e3:k<i∨j<k
       ·rw [if_pos e3,if_pos (by omega)]
       ·rw [if_neg e3,if_neg (by omega)]
   ·have d1:decide (i<j)=false:=decide_eq_false hk
    refine .inr ⟨xs,by simp only [R106_0,F106_0,d1,cond_false],?_⟩
    apply List.ext_getElem
    ·rw [List.length_reverse,hl]
    ·intro m m1 m2
     have:=hx m (by omega) (by omega)
     rw [show ((m:Int)).toNat=m by omega] at this
     rw [List.getElem_reverse]
     simp only [List.getD_eq_getElem?_getD] at this
     rw [List.getElem?_eq_getElem m1,Option.getD_some] at this
     rw [this]
     split
     ·rw [List.getElem?_eq_getElem (by omega),Option.getD_some]
      congr 1
      omega
     ·rw [List.getElem?_eq_getElem (by omega),Option.getD_some]
      congr 1
      omega) ((((ss.length:Int) - 1) - 0).toNat+1) (0,(ss.length:Int) - 1,ss) ⟨by simp,by simp,by simp only;omega,rfl,fun k k0 k1=>by simp only;rw [if_neg (by omega)]⟩ (by simp only;omega)
 subst h2
 unfold q106 v106_0
 rw [wrap_in (a:=(ss.length:Int) - 1) (by omega) (by omega),h1]
 exact ⟨rfl,rfl⟩
theorem P80 (vs rs ps ss:List AV) (hv:vs.length≤1048576) (hp:ps.length≤1048576) (hl:(rs.length:Int)=vs.length) (hs:ss.length≤1048576) (hN:N2 ss) (h:inS 0 vs.length ss) :
  q80 vs rs ps ss=true∧v80_0 vs rs ps ss=appS ss.reverse vs∧v80_1 vs rs ps ss=appS ss.reverse rs∧v80_2 vs rs ps ss=ps:=by
 obtain ⟨g1,g2⟩:=P106 ss hs hN
 obtain ⟨e1,e2,e3,e4,e5⟩:=P71 vs rs ps ss.reverse hv hp hl (by rw [List.length_reverse];exact hs) (inS_rev h)
 have h152:q105 ss=true:=by
  unfold q105
  rw [decide_eq_true (by omega:ss.length*16≤140737488355328),decide_eq_true (by omega:ss.length≤140737488355328)]
  rfl
 unfold q80 v80_0 v80_1 v80_2 v105_0
 rw [h152,g1,g2,e1,e2,e3,e4]
 exact ⟨rfl,rfl,rfl,rfl⟩
theorem q102_all (n:Int) (ps:List AV) (v:Int) (hl:ps.length≤1048576):q102 n ps v=true:=by
 obtain ⟨r,h1,_⟩:=runW_ends (f:=R102_0 ps v n) (fun s:Int × Int=>0≤s.2∧s.2≤ps.length) (fun _=>True) (fun s=>((ps.length:Int) - s.2).toNat) (fun s hI=>by
   obtain ⟨t8,k⟩:=s
   obtain ⟨k0,k1⟩:=hI
   simp only at k0 k1
   by_cases hk:k<ps.length
   ·have d1:decide (k<(ps.length:Int))=true:=decide_eq_true hk
    have d2:decide (0≤k)=true:=decide_eq_true k0
    have wk:IntKind.i64.wrap (k+1)=k+1:=wrap_in (by omega) (by omega)
    cases d3:decide (fI (ps.getD k.toNat .undef) 0≤v) with
    | true=>exact .inl ⟨(pat ps k,k+1),by simp only [R102_0,F102_0,d1,d2,d3,wk,Bool.and_self,cond_true];rfl,⟨by simp only;omega,by simp only;omega⟩,by simp only;omega⟩
    | false=>exact .inl ⟨(t8,k+1),by simp only [R102_0,F102_0,d1,d2,d3,wk,Bool.and_self,cond_true,cond_false],⟨by simp only;omega,by simp only;omega⟩,by simp only;omega⟩
   ·have d1:decide (k<(ps.length:Int))=false:=decide_eq_false hk
    exact .inr ⟨t8,by simp only [R102_0,F102_0,d1,cond_false],trivial⟩) (((ps.length:Int) - 0).toNat+1) (0,0) ⟨by simp,by simp⟩ (by simp)
 obtain ⟨r',h3,_⟩:=runW_ends (f:=R102_2 ps v r) (fun s:Int × Int => -1≤s.2∧s.2<ps.length) (fun _=>True) (fun s=>(s.2+1).toNat) (fun s hI=>by
   obtain ⟨t9,k⟩:=s
   obtain ⟨k0,k1⟩:=hI
   simp only at k0 k1
   by_cases hk:k ≥ 0
   ·have d1:decide (k ≥ 0)=true:=decide_eq_true hk
    have d2:decide (0≤k)=true:=decide_eq_true hk
    have d3:decide (k<(ps.length:Int))=true:=decide_eq_true k1
    have wk:IntKind.i64.wrap (k - 1)=k - 1:=wrap_in (by omega) (by omega)
    cases d4:decide (fI (ps.getD k.toNat .undef) 0 ≥ v) with
    | true=>exact .inl ⟨(pat ps k,k - 1),by simp only [R102_2,F102_2,d1,d2,d3,d4,wk,Bool.and_self,cond_true];rfl,⟨by simp only;omega,by simp only;omega⟩,by simp only;omega⟩
    | false=>exact .inl ⟨(t9,k - 1),by simp only [R102_2,F102_2,d1,d2,d3,d4,wk,Bool.and_self,cond_true,cond_false],⟨by simp only;omega,by simp only;omega⟩,by simp only;omega⟩
   ·have d1:decide (k ≥ 0)=false:=decide_eq_false hk
    exact .inr ⟨t9,by simp only [R102_2,F102_2,d1,cond_false],trivial⟩) (((((ps.length:Int) - 1)) - 0+1).toNat+1) (n,(ps.length:Int) - 1) ⟨by simp only;omega,by simp only;omega⟩ (by simp only;omega)
 unfold q102
 rw [wrap_in (a:=(ps.length:Int) - 1) (by omega) (by omega),h1]
 simp only [ro]
 rw [h3]
theorem q74_all {vs rs ps:List AV} (h:Col vs rs ps) (v:Int):q74 vs rs ps v=true:=by
 have hl:=h.n64
 have hlen:=h.len
 have hf:=col_few h
 obtain ⟨g1,g2⟩:=P51 vs rs ps (by omega) (by omega) (by omega)
 unfold q74
 rw [g1,q102_all _ ps v (by omega)]
 cases v51_0 vs rs ps <;> cases v52_0 v (-1000) 1000 <;> rfl
theorem swp_ok (A B a b:Int) (a0:0≤a) (ab:a≤b) (b1:b≤64):(v52_0 A a (IntKind.i64.wrap (B - 1)) && v52_0 B a (IntKind.i64.wrap (b - 1)))=(!decide (A ≥ B) && (!decide (A<a) && !decide (B ≥ b))):=by
 rw [wrap_in (a:=b - 1) (by omega) (by omega),v52,v52]
 by_cases h1:a≤B
 ·by_cases h2:B≤b - 1
  ·rw [wrap_in (a:=B - 1) (by omega) (by omega),decide_eq_true h1,decide_eq_true h2,decide_eq_false (show ¬ B ≥ b by omega)]
   by_cases h3:a≤A
   ·rw [decide_eq_true h3,decide_eq_false (show ¬ A<a by omega)]
    by_cases h4:A≤B - 1
    ·rw [decide_eq_true h4,decide_eq_false (show ¬ A ≥ B by omega)];rfl
    ·rw [decide_eq_false h4,decide_eq_true (show A ≥ B by omega)];rfl
   ·rw [decide_eq_false h3,decide_eq_true (show A<a by omega)]
    cases decide (A ≥ B) <;> rfl
  ·rw [decide_eq_false h2,decide_eq_true (show B ≥ b by omega)]
   simp
 ·rw [decide_eq_false h1]
  by_cases h3:A<a
  ·rw [decide_eq_true h3];simp
  ·rw [decide_eq_true (show A ≥ B by omega)];simp
abbrev RS:=Int × Int × List AV × List AV × List AV × Int × Int × Int × Int × List AV
abbrev RT0:=Int × List AV × List AV × List AV × Bool × Int × Int × Int × Int × Int
abbrev RT1:=Int × List AV × List AV × List AV × Bool × Int × Int × Int × Int × Int × List AV
structure RI (m:Nat) (done k:Int) (x y z:List AV) (kd v a b:Int) (sw:List AV) (op:Bool) (v' a' b' ends:Int) (sw':List AV):Prop where
 k0:0≤k
 k1:k≤m
 c:Col x y z
 nz:N2 z
 d0:0≤done
 d1:done≤k
 en:done=ends
 op_:op = !decide (kd=0)
 sl:(sw.length:Int)≤k
 st:kd ≠ 0→(v'=v∧a'=a∧b'=b∧sw'=sw)∧(0≤a∧a≤b∧b≤x.length)∧(∀ p:Int,0≤p→p<z.length→pat z p≤a∨b≤pat z p)∧inS a b sw∧N2 sw
def RepI (m:Nat) (s:RS):RT0 ⊕ RT1→Prop
 | .inl t=>t.1=s.2.1∧t.2.1=s.2.2.1∧t.2.2.1=s.2.2.2.1∧t.2.2.2.1=s.2.2.2.2.1∧RI m s.1 s.2.1 s.2.2.1 s.2.2.2.1 s.2.2.2.2.1 s.2.2.2.2.2.1 s.2.2.2.2.2.2.1 s.2.2.2.2.2.2.2.1 s.2.2.2.2.2.2.2.2.1 s.2.2.2.2.2.2.2.2.2 t.2.2.2.2.1 t.2.2.2.2.2.2.1 t.2.2.2.2.2.2.2.1 t.2.2.2.2.2.2.2.2.1 t.2.2.2.2.2.2.2.2.2 []
 | .inr t=>t.1=s.2.1∧t.2.1=s.2.2.1∧t.2.2.1=s.2.2.2.1∧t.2.2.2.1=s.2.2.2.2.1∧RI m s.1 s.2.1 s.2.2.1 s.2.2.2.1 s.2.2.2.2.1 s.2.2.2.2.2.1 s.2.2.2.2.2.2.1 s.2.2.2.2.2.2.2.1 s.2.2.2.2.2.2.2.2.1 s.2.2.2.2.2.2.2.2.2 t.2.2.2.2.1 t.2.2.2.2.2.2.1 t.2.2.2.2.2.2.2.1 t.2.2.2.2.2.2.2.2.1 t.2.2.2.2.2.2.2.2.2.1 t.2.2.2.2.2.2.2.2.2.2
theorem room1 (X:List AV) (a:AV) (h:(X.length:Int)≤1048576):(decide ((X.length+[a].length)*16≤140737488355328) && decide (X.length+[a].length≤140737488355328))=true:=room2 X a (by omega)
theorem room0 (a:AV):(decide (([a].length)*16≤140737488355328) && decide ([a].length≤140737488355328))=true:=rfl
structure RepE (m:Nat) (x y z:List AV) (done:Int) (kd:Int) (sw:List AV) (op:Bool) (ends:Int) (sw':List AV):Prop where
 c:Col x y z
 en:ends=done
 op_:op = !decide (kd=0)
 nz:N2 z
 st:kd ≠ 0→sw'=sw∧(∃ a b:Int,0≤a∧b≤x.length∧(∀ p:Int,0≤p→p<z.length→pat z p≤a∨b≤pat z p)∧inS a b sw)∧N2 sw∧sw.length≤m
theorem RI.e {m:Nat} {done k:Int} {x y z:List AV} {kd v a b:Int} {sw:List AV} {op:Bool} {v' a' b' ends:Int} {sw':List AV} (h:RI m done k x y z kd v a b sw op v' a' b' ends sw'):RepE m x y z done kd sw op ends sw' :=
 ⟨h.c,h.en.symm,h.op_,h.nz,fun hk=>by obtain ⟨⟨_,_,_,e⟩,⟨f1,f2,f3⟩,f4,e2,e3⟩:=h.st hk;exact ⟨e,⟨_,_,f1,f3,f4,e2⟩,e3,by have:=h.sl;have:=h.k1;omega⟩⟩
abbrev RR:=(Int × List AV × List AV × List AV × Int × Int × Int × Int × List AV) ⊕ (List AV × List AV × List AV × Int × Int × Int × Int × List AV × Int × Int × Int × Int) ⊕ (List AV × List AV × List AV × List AV × Int × Int × Int × Int × List AV × Int × Int × Int × Int × List AV × List AV × List AV × List AV) ⊕ (List AV × List AV × List AV × List AV × List AV × List AV × Int × Int × Int × Int × List AV) ⊕ (List AV × List AV × List AV × Int × Int × Int × Int × List AV × Int × Int × Int × Int)
abbrev RR':=(List AV × List AV × List AV × Bool × Int × Int × Int × Int × Int) ⊕ (List AV × List AV × List AV × Bool × Int × Int × Int × Int × Int × List AV) ⊕ (List AV × List AV × List AV × Bool × Int × Int × Int × Int × Int × Int × Int × Int × Int × Int × Int × Int × Int) ⊕ (List AV × List AV × List AV × List AV × Bool × Int × Int × Int × Int × Int × List AV × Int × Int × Int × Int × Int × Int × Int × Int × Int × Int × List AV × List AV × List AV × List AV) ⊕ (List AV × List AV × List AV × List AV × Int × Int × Int × Int × Int × List AV × Int × Int × Int × Int × Int × Int × Int × Int × List AV) ⊕ (List AV × List AV × List AV × Bool × Int × Int × Int × Int × Int × List AV × Int × Int × Int × Int × Int × Int × Int × Int) ⊕ (List AV × List AV × List AV × Int × Int × Int × Int × Int × List AV × Int × Int × Int × Int × Int × Int × Int × Int) ⊕ (List AV × List AV × List AV × List AV × Int × Int × Int × Int × Int × List AV × List AV × Int × Int × Int × Int × Int × Int × Int × Int × List AV)
def RepJ (m:Nat) (r:RR) (r':RR'):Prop :=
 (∃ (done:Int) (x y z:List AV) (kd v a b:Int) (sw:List AV),r = .inl (done,x,y,z,kd,v,a,b,sw) ∧
  ((
   ∃ (op:Bool) (kd' v' a' b' ends:Int),r' = .inl (x,y,z,op,kd',v',a',b',ends)∧RepE m x y z done kd sw op ends []) ∨
   ∃ (op:Bool) (kd' v' a' b' ends:Int) (w:List AV),r' = .inr (.inl (x,y,z,op,kd',v',a',b',ends,w))∧RepE m x y z done kd sw op ends w)) ∨
 ((∃ t,r = .inr t)∧∃ t,r' = .inr (.inr t))
end Go.Proofs.Ytkdnhnkhcldonaa
