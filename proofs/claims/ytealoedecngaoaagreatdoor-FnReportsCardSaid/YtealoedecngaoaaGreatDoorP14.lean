import Derived.Test.YtealoedecngaoaaGreatDoorP13
namespace Go.Proofs.YtealoedecngaoaaGreatDoor
open Go Go.Proofs.VE
set_option linter.unusedVariables false
set_option linter.unusedSimpArgs false
theorem in64_wrap (n:Int):In64 (IntKind.i64.wrap n):=by unfold In64;rw [IntKind.wrap_i64];omega
def gS (xs:List AV) (i t:Int):Int:=IntKind.i64.wrap (t+fI (xs.getD i.toNat .undef) 0)
theorem gS_in (xs:List AV):∀ (m:Nat) (i t:Int),In64 t→In64 (foldF (gS xs) m i t)
 | 0,_,_,h=>h
 | m+1,i,t,_=>gS_in xs m (i+1) _ (in64_wrap _)
theorem sum47 (xs:List AV) (h:xs.length≤1048576):runW (R92_0 xs xs.length) (((xs.length:Int) - 0).toNat+1) (0,0)=some (foldF (gS xs) xs.length 0 0) :=
 runW_fold (f:=R92_0 xs xs.length) (fun i (t:Int)=>(t,i)) xs.length (gS xs) (fun t=>t) (fun _ _=>True) (fun i t h0 hn _=>by
  refine ⟨?_,trivial⟩
  simp only [R92_0,F92_0,G92_0,h0,hn,decide_true,Bool.and_self,cond_true]
  rw [wrap_in (a:=i+1) (by omega) (by omega)]
  rfl) (fun t _=>by simp only [R92_0,F92_0,G92_0,Int.lt_irrefl,decide_false,cond_false]) xs.length _ 0 0 (Int.le_refl 0) (by omega) (by omega) trivial
def gMin (xs:List AV) (i t:Int):Int:=if fI (xs.getD i.toNat .undef) 0<t then fI (xs.getD i.toNat .undef) 0 else t
def gMax (xs:List AV) (i t:Int):Int:=if fI (xs.getD i.toNat .undef) 0 > t then fI (xs.getD i.toNat .undef) 0 else t
theorem gMin_in (xs:List AV) (hv:∀ i:Int,In64 (fI (xs.getD i.toNat .undef) 0)):∀ (m:Nat) (i t:Int),In64 t→In64 (foldF (gMin xs) m i t)
 | 0,_,_,h=>h
 | m+1,i,t,h=>gMin_in xs hv m (i+1) _ (by unfold gMin;split;exact hv i;exact h)
theorem gMax_in (xs:List AV) (hv:∀ i:Int,In64 (fI (xs.getD i.toNat .undef) 0)):∀ (m:Nat) (i t:Int),In64 t→In64 (foldF (gMax xs) m i t)
 | 0,_,_,h=>h
 | m+1,i,t,h=>gMax_in xs hv m (i+1) _ (by unfold gMax;split;exact hv i;exact h)
theorem min95 (xs:List AV) (h:xs.length≤1048576) (h1:1≤xs.length) (t:Int):runW (R153_0 xs) (((xs.length:Int) - 1).toNat+1) (t,1)=some (foldF (gMin xs) (xs.length - 1) 1 t) :=
 runW_fold (f:=R153_0 xs) (fun i (t:Int)=>(t,i)) xs.length (gMin xs) (fun t=>t) (fun _ _=>True) (fun i t h0 hn _=>by
  refine ⟨?_,trivial⟩
  simp only [R153_0,F153_0,G153_0,h0,hn,decide_true,Bool.and_self,cond_true]
  rw [wrap_in (a:=i+1) (by omega) (by omega)]
  rfl) (fun t _=>by simp only [R153_0,F153_0,G153_0,Int.lt_irrefl,decide_false,cond_false]) (xs.length - 1) _ 1 t (by decide) (by omega) (by omega) trivial
theorem max96 (xs:List AV) (h:xs.length≤1048576) (h1:1≤xs.length) (t:Int):runW (R123_0 xs) (((xs.length:Int) - 1).toNat+1) (t,1)=some (foldF (gMax xs) (xs.length - 1) 1 t) :=
 runW_fold (f:=R123_0 xs) (fun i (t:Int)=>(t,i)) xs.length (gMax xs) (fun t=>t) (fun _ _=>True) (fun i t h0 hn _=>by
  refine ⟨?_,trivial⟩
  simp only [R123_0,F123_0,G123_0,h0,hn,decide_true,Bool.and_self,cond_true]
  rw [wrap_in (a:=i+1) (by omega) (by omega)]
  rfl) (fun t _=>by simp only [R123_0,F123_0,G123_0,Int.lt_irrefl,decide_false,cond_false]) (xs.length - 1) _ 1 t (by decide) (by omega) (by omega) trivial
def gA (xs:List AV) (i:Int) (t:Int × Int × Int × Int):Int × Int × Int × Int :=
 (t.1+1,gS xs i t.2.1,(bif decide (t.1=0) then fI (xs.getD i.toNat .undef) 0 else gMin xs i t.2.2.1),(bif decide (t.1=0) then fI (xs.getD i.toNat .undef) 0 else gMax xs i t.2.2.2))
theorem run88 (xs:List AV) (h:xs.length≤1048576):runW (R88_0 xs 0 0 0 0) (((xs.length:Int) - 0).toNat+1) (0,0,0,0,0)=some (foldF (gA xs) xs.length 0 (0,0,0,0)) :=
 runW_fold (f:=R88_0 xs 0 0 0 0) (fun i (t:Int × Int × Int × Int)=>(i,t.1,t.2.1,t.2.2.1,t.2.2.2)) xs.length (gA xs) (fun t=>t) (fun i t=>t.1=i) (fun i t h0 hn hI=>by
  refine ⟨?_,by unfold gA;simp only;omega⟩
  simp only [R88_0,F88_0,G88_0,h0,hn,decide_true,Bool.and_self,cond_true]
  rw [wrap_in (a:=i+1) (by omega) (by omega),wrap_in (a:=t.1+1) (by omega) (by omega)]
  unfold gA gS gMin gMax
  cases decide (t.1=0)
  ·rfl
  ·simp only [cond_true,ite_self]) (fun t _=>by simp only [R88_0,F88_0,G88_0,Int.lt_irrefl,decide_false,cond_false]) xs.length _ 0 (0,0,0,0) (Int.le_refl 0) (by omega) (by omega) rfl
theorem gA_fold (xs:List AV):∀ (m:Nat) (i s lo hi:Int),1≤i→foldF (gA xs) m i (i,s,lo,hi)=(i+m,foldF (gS xs) m i s,foldF (gMin xs) m i lo,foldF (gMax xs) m i hi)
 | 0,i,s,lo,hi,_=>by simp [foldF]
 | m+1,i,s,lo,hi,h=>by
  have e:gA xs i (i,s,lo,hi)=(i+1,gS xs i s,gMin xs i lo,gMax xs i hi):=by
   unfold gA
   simp only [decide_eq_false (by omega:¬ i=0),cond_false]
  show foldF (gA xs) m (i+1) (gA xs i (i,s,lo,hi))=_
  rw [e,gA_fold xs m (i+1) _ _ _ (by omega),show i+1+(m:Int)=i+((m+1:Nat):Int) by omega]
  rfl
theorem agg_eq (xs:List AV) (h:xs.length≤1048576) (hv:∀ i:Int,In64 (fI (xs.getD i.toNat .undef) 0)) :
  q88 xs=true∧q83 xs=true∧(v83_0 xs=v88_0 xs∧v83_1 xs=v88_1 xs∧v83_2 xs=v88_2 xs∧v83_3 xs=v88_3 xs)∧In64 (v88_0 xs)∧In64 (v88_1 xs)∧In64 (v88_2 xs)∧In64 (v88_3 xs):=by
 obtain ⟨p1,_⟩:=P100 xs h
 obtain ⟨p3,p4⟩:=P95 xs h
 have z:In64 0:=by unfold In64;omega
 unfold q88 q83 v83_0 v83_1 v83_2 v83_3 v88_0 v88_1 v88_2 v88_3
 rw [p1,p3,p4,run88 xs h]
 cases hc:v100_0 xs with
 | false =>
  refine ⟨rfl,?_,⟨?_,?_,?_,?_⟩,z,z,z,z⟩ <;> cases decide ((xs.length:Int)=0) <;> rfl
 | true =>
  simp only [Bool.not_true,cond_false,Bool.true_and,ro]
  by_cases hn:xs.length=0
  ·rw [decide_eq_true (by omega:(xs.length:Int)=0),hn]
   exact ⟨trivial,rfl,⟨rfl,rfl,rfl,rfl⟩,z,z,z,z⟩
  ·obtain ⟨m,hm⟩:∃ m,xs.length=m+1:=⟨xs.length - 1,by omega⟩
   have e:foldF (gA xs) xs.length 0 (0,0,0,0)=((xs.length:Int),foldF (gS xs) xs.length 0 0,foldF (gMin xs) (xs.length - 1) 1 (fI (xs.getD (0:Int).toNat .undef) 0),foldF (gMax xs) (xs.length - 1) 1 (fI (xs.getD (0:Int).toNat .undef) 0)):=by
    rw [hm]
    show foldF (gA xs) m 1 (1,gS xs 0 0,fI (xs.getD (0:Int).toNat .undef) 0,fI (xs.getD (0:Int).toNat .undef) 0)=_
    rw [gA_fold xs m 1 _ _ _ (by decide),show (1:Int)+m=((m+1:Nat):Int) by omega]
    rfl
   have s1:q92 xs=true:=by unfold q92;rw [sum47 xs h];rfl
   have s2:v92_0 xs=foldF (gS xs) xs.length 0 0:=by unfold v92_0;rw [sum47 xs h];rfl
   have d1:decide ((xs.length:Int)<1)=false:=decide_eq_false (by omega)
   have d2:decide (0<(xs.length:Int))=true:=decide_eq_true (by omega)
   have m1:q153 xs=true:=by unfold q153;rw [min95 xs h (by omega),d1,d2];rfl
   have m2:v153_0 xs=foldF (gMin xs) (xs.length - 1) 1 (fI (xs.getD (0:Int).toNat .undef) 0):=by unfold v153_0;rw [min95 xs h (by omega)];rfl
   have n1:q123 xs=true:=by unfold q123;rw [max96 xs h (by omega),d1,d2];rfl
   have n2:v123_0 xs=foldF (gMax xs) (xs.length - 1) 1 (fI (xs.getD (0:Int).toNat .undef) 0):=by unfold v123_0;rw [max96 xs h (by omega)];rfl
   rw [e,s1,s2,m1,m2,n1,n2,decide_eq_false (by omega:¬ (xs.length:Int)=0)]
   exact ⟨trivial,rfl,⟨rfl,rfl,rfl,rfl⟩,by unfold In64;simp only;omega,gS_in xs _ _ _ z,gMin_in xs hv _ _ _ (hv 0),gMax_in xs hv _ _ _ (hv 0)⟩
theorem lit_size (l:List UInt8):(ByteArray.mk l.toArray).size=l.length:=by simp [ByteArray.size]
theorem fagg_eq (a b c d:Int) (ha:In64 a) (hb:In64 b) (hc:In64 c) (hd:In64 d):q87 a b c d=true∧q82 a b c d=true∧v82_0 a b c d=v87_0 a b c d∧(v87_0 a b c d).size≤100:=by
 obtain ⟨a1,a2⟩:=fmtInt a ha.1 ha.2
 obtain ⟨b1,b2⟩:=fmtInt b hb.1 hb.2
 obtain ⟨c1,c2⟩:=fmtInt c hc.1 hc.2
 obtain ⟨d1,d2⟩:=fmtInt d hd.1 hd.2
 obtain ⟨A1,A2⟩:=fmtInt' a ha.1 ha.2
 obtain ⟨B1,B2⟩:=fmtInt' b hb.1 hb.2
 obtain ⟨C1,C2⟩:=fmtInt' c hc.1 hc.2
 obtain ⟨D1,D2⟩:=fmtInt' d hd.1 hd.2
 have la:=itoaB_len a ha.1 ha.2
 have lb:=itoaB_len b hb.1 hb.2
 have lc:=itoaB_len c hc.1 hc.2
 have ld:=itoaB_len d hd.1 hd.2
 unfold q87 q82 v82_0 v87_0
 rw [a1,a2,b1,b2,c1,c2,d1,d2,A1,A2,B1,B2,C1,C2,D1,D2]
 cases decide (a≤0) with
 | true=>exact ⟨rfl,rfl,rfl,(by decide:(ByteArray.mk #[110,111,110,101]).size≤100)⟩
 | false =>
  simp only [cond_false,Bool.true_and]
  generalize itoaB a=A at *
  generalize itoaB b=B at *
  generalize itoaB c=C at *
  generalize itoaB d=D at *
  refine ⟨?_,?_,by first|trivial|rfl,?_⟩
  ·simp only [Bool.and_eq_true,decide_eq_true_eq,ByteArray.size_append,lit_size,List.length_cons,List.length_nil]
   omega
  ·simp only [Bool.and_eq_true,decide_eq_true_eq,ByteArray.size_append,lit_size,List.length_cons,List.length_nil]
   omega
  ·simp only [ByteArray.size_append,lit_size,List.length_cons,List.length_nil]
   omega
def bad2 (vs rs:List AV) (i:Int):Bool:=decide (fI (vs.getD (i - 1).toNat .undef) 0 > fI (vs.getD i.toNat .undef) 0) || (decide (fI (vs.getD (i - 1).toNat .undef) 0=fI (vs.getD i.toNat .undef) 0) && decide (fI (rs.getD (i - 1).toNat .undef) 0 > fI (rs.getD i.toNat .undef) 0))
theorem sort71 (vs rs ps:List AV) (l r:Int) (h:vs.length≤1048576) (h':(rs.length:Int)=vs.length) (l0:0≤l) (lr:l<r) (r1:r≤vs.length) :
  q89 vs rs ps l r=true∧v89_0 vs rs ps l r=(findF (fun i=>bad2 vs rs (l+1+i)) (r - l - 1).toNat 0).isNone:=by
 have hr:=runW_find (f:=R89_0 r vs rs ps) (fun i=>l+1+i) (r - l - 1) (fun i=>bad2 vs rs (l+1+i)) (.inl ()) (fun _ => .inr ()) (fun i h0 hn=>by
  have w1:IntKind.i64.wrap (l+1+i - 1)=l+1+i - 1:=wrap_in (by omega) (by omega)
  have w2:IntKind.i64.wrap (l+1+i+1)=l+1+(i+1):=by rw [wrap_in (by omega) (by omega)];omega
  have d0:decide (l+1+i<r)=true:=decide_eq_true (by omega)
  have d1:decide (0≤l+1+i - 1)=true:=decide_eq_true (by omega)
  have d2:decide (l+1+i - 1<(vs.length:Int))=true:=decide_eq_true (by omega)
  have d3:decide (0≤l+1+i)=true:=decide_eq_true (by omega)
  have d4:decide (l+1+i<(vs.length:Int))=true:=decide_eq_true (by omega)
  have d5:decide (l+1+i - 1<(rs.length:Int))=true:=decide_eq_true (by omega)
  have d6:decide (l+1+i<(rs.length:Int))=true:=decide_eq_true (by omega)
  unfold R89_0 F89_0 G89_0 bad2
  rw [w1,w2,d0,d1,d2,d3,d4,d5,d6]
  cases decide (fI (vs.getD (l+1+i - 1).toNat .undef) 0 > fI (vs.getD (l+1+i).toNat .undef) 0) <;> cases decide (fI (vs.getD (l+1+i - 1).toNat .undef) 0=fI (vs.getD (l+1+i).toNat .undef) 0) <;> cases decide (fI (rs.getD (l+1+i - 1).toNat .undef) 0 > fI (rs.getD (l+1+i).toNat .undef) 0) <;> rfl) (by
  unfold R89_0 F89_0 G89_0
  rw [decide_eq_false (by omega:¬ l+1+(r - l - 1)<r)]
  rfl) (r - l - 1).toNat ((r - (l+1)).toNat+1) 0 (Int.le_refl 0) (by omega) (by omega)
 rw [Int.add_zero] at hr
 unfold q89 v89_0
 rw [wrap_in (a:=l+1) (by omega) (by omega),hr]
 cases findF (fun i=>bad2 vs rs (l+1+i)) (r - l - 1).toNat 0 <;> exact ⟨rfl,rfl⟩
theorem cmp_eq (a b c d:Int):q156 a b c d=true∧decide (v156_0 a b c d<0)=(decide (c > a) || (decide (c=a) && decide (d > b))):=by
 have hc:∀ x y:Int,v188_0 x y=if x<y then -1 else if x > y then 1 else 0:=fun x y=>by
  unfold v188_0 v210_0
  by_cases h1:x<y
  ·simp [h1]
  ·by_cases h2:x > y <;> simp [h1,h2]
 have hr:∀ x y:Int,runW (R187_0 0 [AV.int .i64 x,AV.int .i64 y] (([AV.int .i64 x,AV.int .i64 y]).length:Int)) ((((([AV.int .i64 x,AV.int .i64 y]).length:Int)) - 0).toNat+1) 0=some (if x=0 then (if y=0 then .inl () else .inr y) else .inr x):=fun x y=>by
  show runW (R187_0 0 [AV.int .i64 x,AV.int .i64 y] 2) 3 0=_
  have f0:R187_0 0 [AV.int .i64 x,AV.int .i64 y] 2 0=bif !decide (x=0) then .stop (.inr x) else .next 1:=rfl
  have f1:R187_0 0 [AV.int .i64 x,AV.int .i64 y] 2 1=bif !decide (y=0) then .stop (.inr y) else .next 2:=rfl
  have f2:R187_0 0 [AV.int .i64 x,AV.int .i64 y] 2 2 = .stop (.inl ()):=rfl
  unfold runW
  rw [f0]
  by_cases hx:x=0
  ·rw [decide_eq_true hx,if_pos hx]
   simp only [Bool.not_true,cond_false,Out.el]
   unfold runW
   rw [f1]
   by_cases hy:y=0
   ·rw [decide_eq_true hy,if_pos hy]
    simp only [Bool.not_true,cond_false,Out.el]
    unfold runW
    rw [f2]
    rfl
   ·rw [decide_eq_false hy,if_neg hy]
    rfl
  ·rw [decide_eq_false hx,if_neg hx]
   rfl
 unfold q156 v156_0 q187 v187_0
 rw [hr,hc,hc]
 by_cases h1:a<c
 ·simp [h1,ro,sumE]
 ·by_cases h2:a > c
  ·have:¬ c > a:=by omega
   have:¬ c=a:=by omega
   simp [h1,h2,ro,sumE, *]
  ·have h3:a=c:=by omega
   subst h3
   by_cases h4:b<d
   ·simp [h4,ro,sumE]
   ·by_cases h5:b > d
    ·have:¬ d > b:=by omega
     simp [h4,h5,ro,sumE]
    ·simp [h4,h5,ro,sumE]
theorem app_fold (c:Int→AV):∀ (m:Nat) (i:Int) (t:List AV),foldF (fun i t=>t++[c i]) m i t=t++(List.range m).map (fun k:Nat=>c (i+(k:Int)))
 | 0,i,t=>by simp [foldF]
 | m+1,i,t=>by
  show foldF (fun i t=>t++[c i]) m (i+1) (t++[c i])=_
  rw [app_fold c m (i+1) (t++[c i]),List.range_succ_eq_map,List.map_cons,List.map_map,List.append_assoc]
  have:((fun k:Nat=>c (i+(k:Int))) ∘ Nat.succ)=fun k:Nat=>c (i+1+(k:Int)):=by
   funext k
   show c (i+((k+1:Nat):Int))=_
   rw [show i+((k+1:Nat):Int)=i+1+(k:Int) by omega]
  rw [this]
  simp
def ce (vs rs:List AV) (i:Int):AV:=AV.agg [AV.int .i64 (fI (vs.getD i.toNat .undef) 0),AV.int .i64 (fI (rs.getD i.toNat .undef) 0)]
theorem run155 (vs rs ps:List AV) (l r:Int) (h:vs.length≤1048576) (h':(rs.length:Int)=vs.length) (l0:0≤l) (lr:l<r) (r1:r≤vs.length) :
  runW (R155_0 r vs rs ps) ((r - l).toNat+1) (l,([]:List AV))=some ((List.range (r - l).toNat).map (fun k:Nat=>ce vs rs (l+(k:Int)))):=by
 have hr:=runW_fold (f:=R155_0 r vs rs ps) (fun i (t:List AV)=>(i,t)) r (fun i t=>t++[ce vs rs i]) (fun t=>t) (fun i t=>l≤i∧(t.length:Int)=i - l) (fun i t h0 hn hI=>by
  refine ⟨?_,by rw [List.length_append];simp only [List.length_cons,List.length_nil];omega⟩
  have d0:decide (i<r)=true:=decide_eq_true hn
  have d1:decide (0≤i)=true:=decide_eq_true h0
  have d2:decide (i<(vs.length:Int))=true:=decide_eq_true (by omega)
  have d3:decide (i<(rs.length:Int))=true:=decide_eq_true (by omega)
  unfold R155_0 F155_0 G155_0 ce
  rw [d0,d1,d2,d3,wrap_in (a:=i+1) (by omega) (by omega)]
  have d4:∀ s:AV,decide ((t.length+([s]).length)*16≤140737488355328)=true:=fun s=>decide_eq_true (by simp only [List.length_cons,List.length_nil];omega)
  have d5:∀ s:AV,decide ((t.length+([s]).length)≤140737488355328)=true:=fun s=>decide_eq_true (by simp only [List.length_cons,List.length_nil];omega)
  rw [d4,d5]
  rfl) (fun t _=>by
  unfold R155_0 F155_0 G155_0
  rw [decide_eq_false (Int.lt_irrefl _)]
  rfl) (r - l).toNat ((r - l).toNat+1) l [] l0 (by omega) (by omega) ⟨Int.le_refl _,by simp⟩
 rw [hr,app_fold]
 rfl
theorem getD_range (c:Nat→AV) (n k:Nat) (h:k<n):((List.range n).map c).getD k .undef=c k:=by
 rw [List.getD_eq_getElem?_getD,List.getElem?_map,List.getElem?_range h]
 rfl
theorem sorted_eq (vs rs ps:List AV) (l r:Int) (h:vs.length≤1048576) (h':(rs.length:Int)=vs.length) (l0:0≤l) (lr:l<r) (r1:r≤vs.length) :
  q89 vs rs ps l r=true∧q84 vs rs ps l r=true∧v84_0 vs rs ps l r=v89_0 vs rs ps l r:=by
 obtain ⟨s1,s2⟩:=sort71 vs rs ps l r h h' l0 lr r1
 have hv:v155_0 vs rs ps l r=(List.range (r - l).toNat).map (fun k:Nat=>ce vs rs (l+(k:Int))):=by
  unfold v155_0;rw [run155 vs rs ps l r h h' l0 lr r1];rfl
 have hq:q155 vs rs ps l r=true:=by
  unfold q155;rw [run155 vs rs ps l r h h' l0 lr r1];rfl
 have hlen:((List.range (r - l).toNat).map (fun k:Nat=>ce vs rs (l+(k:Int)))).length=(r - l).toNat:=by simp
 generalize hes:(List.range (r - l).toNat).map (fun k:Nat=>ce vs rs (l+(k:Int)))=es at *
 have at_:∀ k:Int,0≤k→k<r - l→es.getD k.toNat .undef=ce vs rs (l+k):=fun k h0 hk=>by
  rw [← hes,getD_range _ _ _ (by omega)]
  rw [show l+((k.toNat:Nat):Int)=l+k by omega]
 have hr:=runW_find (f:=R154_0 es) (fun i=>r - l - 1 - i) (r - l - 1) (fun i=>bad2 vs rs (l+(r - l - 1 - i))) (.inl ()) (fun _ => .inr ()) (fun i h0 hn=>by
  have w1:IntKind.i64.wrap (r - l - 1 - i - 1)=r - l - 1 - i - 1:=wrap_in (by omega) (by omega)
  have d0:decide (r - l - 1 - i > 0)=true:=decide_eq_true (by omega)
  have d1:decide (0≤r - l - 1 - i)=true:=decide_eq_true (by omega)
  have d2:decide (r - l - 1 - i<(es.length:Int))=true:=decide_eq_true (by omega)
  have d3:decide (0≤r - l - 1 - i - 1)=true:=decide_eq_true (by omega)
  have d4:decide (r - l - 1 - i - 1<(es.length:Int))=true:=decide_eq_true (by omega)
  unfold R154_0 F154_0 G154_0
  rw [w1,at_ (r - l - 1 - i) (by omega) (by omega),at_ (r - l - 1 - i - 1) (by omega) (by omega),d0,d1,d2,d3,d4]
  have f:∀ k,fI (ce vs rs k) 0=fI (vs.getD k.toNat .undef) 0∧fI (ce vs rs k) 1=fI (rs.getD k.toNat .undef) 0:=fun k=>⟨rfl,rfl⟩
  rw [(f _).1,(f _).2,(f _).1,(f _).2,(cmp_eq _ _ _ _).1,(cmp_eq _ _ _ _).2,show l+(r - l - 1 - i - 1)=l+(r - l - 1 - i) - 1 by omega,show r - l - 1 - i - 1=r - l - 1 - (i+1) by omega]
  unfold bad2
  rfl) (by
  unfold R154_0 F154_0 G154_0
  rw [decide_eq_false (by omega:¬ r - l - 1 - (r - l - 1) > 0)]
  rfl) (r - l - 1).toNat ((r - l - 1).toNat+1) 0 (Int.le_refl 0) (by omega) (by omega)
 rw [Int.sub_zero] at hr
 have hiff:(findF (fun i=>bad2 vs rs (l+(r - l - 1 - i))) (r - l - 1).toNat 0).isNone=(findF (fun i=>bad2 vs rs (l+1+i)) (r - l - 1).toNat 0).isNone:=by
  rw [Bool.eq_iff_iff,findF_isNone,findF_isNone]
  constructor
  ·intro g j h1 h2
   have:=g (r - l - 2 - j) (by omega) (by omega)
   rw [show l+(r - l - 1 - (r - l - 2 - j))=l+1+j by omega] at this
   exact this
  ·intro g j h1 h2
   have:=g (r - l - 2 - j) (by omega) (by omega)
   rw [show l+1+(r - l - 2 - j)=l+(r - l - 1 - j) by omega] at this
   exact this
 refine ⟨s1,?_,?_⟩
 ·unfold q84
  rw [hq,hv]
  unfold q154
  rw [wrap_in (a:=(es.length:Int) - 1) (by omega) (by omega),show (es.length:Int) - 1=r - l - 1 by omega,Int.sub_zero,hr]
  cases findF (fun i=>bad2 vs rs (l+(r - l - 1 - i))) (r - l - 1).toNat 0 <;> rfl
 ·unfold v84_0
  rw [s2,hv,← hiff]
  unfold v154_0
  rw [wrap_in (a:=(es.length:Int) - 1) (by omega) (by omega),show (es.length:Int) - 1=r - l - 1 by omega,Int.sub_zero,hr]
  cases findF (fun i=>bad2 vs rs (l+(r - l - 1 - i))) (r - l - 1).toNat 0 <;> rfl
end Go.Proofs.YtealoedecngaoaaGreatDoor

namespace Go.Proofs.YtealoedecngaoaaGreatDoor
open Go Go.Proofs.VE
set_option linter.unusedVariables false
set_option linter.unusedSimpArgs false
theorem isC_at {vs rs ps:List AV} (h:isC vs rs ps=true) (j:Nat) (hj:j<ps.length):0≤fI (ps.getD j .undef) 1∧fI (ps.getD j .undef) 1≤vs.length:=by
 unfold isC at h
 simp only [Bool.and_eq_true] at h
 have e:=(noneB_iff.1 h.2.2.2.2) (j:Int) (by omega) (by omega)
 simp only [badP,badA,v72,Bool.or_eq_false_iff,Bool.not_eq_false',Bool.and_eq_true,decide_eq_true_eq,Int.toNat_natCast] at e
 exact e.1.2.1
def endsP (vs ps:List AV):List AV:=ps++[AV.agg [AV.int .i64 0,AV.int .i64 (vs.length:Int)]]
def eP (vs ps:List AV) (k:Int):Int:=fI ((endsP vs ps).getD k.toNat .undef) 1
theorem eP_lt (vs ps:List AV) (k:Int) (h0:0≤k) (h:k<ps.length):eP vs ps k=fI (ps.getD k.toNat .undef) 1:=by
 unfold eP endsP
 rw [List.getD_eq_getElem?_getD,List.getElem?_append_left (by omega),← List.getD_eq_getElem?_getD]
theorem eP_last (vs ps:List AV):eP vs ps ps.length=vs.length:=by
 unfold eP endsP
 rw [List.getD_eq_getElem?_getD,List.getElem?_append_right (by omega),show ((ps.length:Int).toNat - ps.length)=0 by omega]
 rfl
theorem eP_in {vs rs ps:List AV} (hC:isC vs rs ps=true) (k:Int) (h0:0≤k) (h:k<ps.length+1):0≤eP vs ps k∧eP vs ps k≤vs.length:=by
 by_cases hk:k<ps.length
 ·rw [eP_lt vs ps k h0 hk]
  exact isC_at hC k.toNat (by omega)
 ·rw [show k=ps.length by omega,eP_last]
  omega
theorem ends68 (vs rs ps:List AV) (h:ps.length≤1048576):q85 vs rs ps=true∧(v85_0 vs rs ps).length=ps.length+1∧∀ k:Int,0≤k→k<ps.length+1→fI ((v85_0 vs rs ps).getD k.toNat .undef) 0=eP vs ps k:=by
 have hr:=runW_fold (f:=R85_0 vs rs ps) (fun i (t:List AV)=>(i,t)) ps.length (fun i t=>t++[(fun i:Int=>AV.int .i64 (fI (ps.getD i.toNat .undef) 1)) i]) (fun t=>t) (fun i t=>(t.length:Int)=i) (fun i t h0 hn hI=>by
  refine ⟨?_,by rw [List.length_append];simp only [List.length_cons,List.length_nil];omega⟩
  have d0:decide (i<(ps.length:Int))=true:=decide_eq_true hn
  have d1:decide (0≤i)=true:=decide_eq_true h0
  unfold R85_0 F85_0 G85_0
  rw [d0,d1,wrap_in (a:=i+1) (by omega) (by omega)]
  have d4:∀ s:AV,decide ((t.length+([s]).length)*8≤140737488355328)=true:=fun s=>decide_eq_true (by simp only [List.length_cons,List.length_nil];omega)
  have d5:∀ s:AV,decide ((t.length+([s]).length)≤140737488355328)=true:=fun s=>decide_eq_true (by simp only [List.length_cons,List.length_nil];omega)
  rw [d4,d5]
  rfl) (fun t _=>by
  unfold R85_0 F85_0 G85_0
  rw [decide_eq_false (Int.lt_irrefl _)]
  rfl) ps.length (((ps.length:Int) - 0).toNat+1) 0 [] (Int.le_refl 0) (by omega) (by omega) rfl
 rw [app_fold (fun i:Int=>AV.int .i64 (fI (ps.getD i.toNat .undef) 1)),List.nil_append] at hr
 have hl:((List.range ps.length).map (fun k:Nat=>(fun i:Int=>AV.int .i64 (fI (ps.getD i.toNat .undef) 1)) (0+(k:Int)))).length=ps.length:=by simp
 unfold q85 v85_0
 rw [hr]
 simp only [ro]
 refine ⟨?_,?_,fun k h0 hk=>?_⟩
 ·simp only [Bool.and_eq_true,decide_eq_true_eq,List.length_map,List.length_range,List.length_cons,List.length_nil]
  omega
 ·rw [List.length_append,hl]
  rfl
 ·by_cases hk2:k<ps.length
  ·rw [eP_lt vs ps k h0 hk2,List.getD_eq_getElem?_getD,List.getElem?_append_left (by rw [hl];omega),← List.getD_eq_getElem?_getD,getD_range _ _ _ (by omega)]
   show fI (ps.getD (0+((k.toNat:Nat):Int)).toNat .undef) 1=_
   rw [show (0+((k.toNat:Nat):Int)).toNat=k.toNat by omega]
  ·rw [show k=ps.length by omega,eP_last,List.getD_eq_getElem?_getD,List.getElem?_append_right (by rw [hl];omega),hl,show ((ps.length:Int).toNat - ps.length)=0 by omega]
   rfl
def sub (vs:List AV) (a b:Int):List AV:=(vs.take (Int.toNat b)).drop (Int.toNat a)
def lineB (vs rs ps:List AV) (a b:Int):ByteArray :=
 bif v89_0 vs rs ps a b then ((((itoaB a++ByteArray.mk #[46,46])++itoaB b)++ByteArray.mk #[32])++v87_0 (v88_0 (sub vs a b)) (v88_1 (sub vs a b)) (v88_2 (sub vs a b)) (v88_3 (sub vs a b)))++ByteArray.mk #[32,115,111,114,116,101,100]
 else (((itoaB a++ByteArray.mk #[46,46])++itoaB b)++ByteArray.mk #[32])++v87_0 (v88_0 (sub vs a b)) (v88_1 (sub vs a b)) (v88_2 (sub vs a b)) (v88_3 (sub vs a b))
theorem in_getD (xs:List AV) (hv:∀ y ∈ xs,In64 (fI y 0)) (i:Int):In64 (fI (xs.getD i.toNat .undef) 0):=by
 by_cases hi:i.toNat<xs.length
 ·rw [List.getD_eq_getElem?_getD,List.getElem?_eq_getElem hi]
  exact hv _ (List.getElem_mem hi)
 ·rw [List.getD_eq_getElem?_getD,List.getElem?_eq_none (by omega)]
  exact ⟨by decide,by decide⟩
theorem sub_in (vs:List AV) (hv:∀ y ∈ vs,In64 (fI y 0)) (a b:Int) (i:Int):In64 (fI ((sub vs a b).getD i.toNat .undef) 0) :=
 in_getD _ (fun y hy=>hv y (List.mem_of_mem_take (List.mem_of_mem_drop hy))) i
theorem sub_len (vs:List AV) (a b:Int):(sub vs a b).length≤vs.length:=by
 unfold sub
 rw [List.length_drop,List.length_take]
 omega
structure Cx (vs rs ps:List AV):Prop where
 v:vs.length≤1048576
 p:ps.length≤1048576
 r:(rs.length:Int)=vs.length
 c:isC vs rs ps=true
 n:∀ y ∈ vs,In64 (fI y 0)
 q:q71 vs rs ps=true
 w:v71_0 vs rs ps=true
def gP (vs rs ps:List AV) (e:Int→Int) (i:Int) (t:Int × List AV):Int × List AV:=(e i,bif decide (e i > t.1) then t.2++[AV.str (lineB vs rs ps t.1 (e i))] else t.2)
theorem run26 {vs rs ps:List AV} (X:Cx vs rs ps) (es:List AV) (e:Int→Int) (hl:es.length=ps.length+1) (he:∀ k:Int,0≤k→k<es.length→fI (es.getD k.toNat .undef) 0=e k) (hb:∀ k:Int,0≤k→k<es.length→0≤e k∧e k≤vs.length) :
  runW (R26_0 vs rs ps es) (((es.length:Int) - 0).toNat+1) (0,0,([]:List AV))=some (foldF (gP vs rs ps e) es.length 0 (0,[])).2 :=
 runW_fold (f:=R26_0 vs rs ps es) (fun i (t:Int × List AV)=>(t.1,i,t.2)) es.length (gP vs rs ps e) (fun t=>t.2) (fun i t=>0≤t.1∧t.1≤vs.length∧(t.2.length:Int)≤i) (fun i t h0 hn hI=>by
  obtain ⟨a,L⟩:=t
  obtain ⟨i1,i2,i3⟩:=hI
  simp only at i1 i2 i3
  obtain ⟨b0,b1⟩:=hb i h0 hn
  have hlen:=X.v
  have hpl:=X.p
  refine ⟨?_,b0,b1,?_⟩
  ·have d0:decide (i<(es.length:Int))=true:=decide_eq_true hn
   have d1:decide (0≤i)=true:=decide_eq_true h0
   unfold R26_0 F26_0 G26_0 gP
   simp only
   rw [he i h0 hn]
   generalize e i=b at *
   rw [d0,d1,X.q,X.w,wrap_in (a:=i+1) (by omega) (by omega)]
   cases hab:decide (b > a) with
   | false=>rfl
   | true =>
    have hab':=of_decide_eq_true hab
    have ia:In64 a:=by unfold In64;omega
    have ib:In64 b:=by unfold In64;omega
    obtain ⟨a1,a2⟩:=fmtInt a ia.1 ia.2
    obtain ⟨b1',b2⟩:=fmtInt b ib.1 ib.2
    have la:=itoaB_len a ia.1 ia.2
    have lb:=itoaB_len b ib.1 ib.2
    obtain ⟨g1,g2,_,k0,k1,k2,k3⟩:=agg_eq (sub vs a b) (Nat.le_trans (sub_len vs a b) X.v) (sub_in vs X.n a b)
    obtain ⟨f1,_,_,f4⟩:=fagg_eq _ _ _ _ k0 k1 k2 k3
    obtain ⟨s1,_,_⟩:=sorted_eq vs rs ps a b X.v X.r i1 hab' b1
    have d2:decide (0≤a)=true:=decide_eq_true i1
    have d3:decide (a≤b)=true:=decide_eq_true (by omega)
    have d4:decide (b≤(vs.length:Int))=true:=decide_eq_true b1
    unfold lineB
    change _=Out.next (b,i+1,L++[AV.str (bif v89_0 vs rs ps a b then _ else _)])
    rw [show (vs.take (Int.toNat b)).drop (Int.toNat a)=sub vs a b from rfl,a1,a2,b1',b2,g1,f1,s1,d2,d3,d4]
    generalize v87_0 (v88_0 (sub vs a b)) (v88_1 (sub vs a b)) (v88_2 (sub vs a b)) (v88_3 (sub vs a b))=W at *
    generalize itoaB a=A at *
    generalize itoaB b=B at *
    have o1:(ByteArray.mk #[46,46]).size=2:=rfl
    have o2:(ByteArray.mk #[32]).size=1:=rfl
    have o3:(ByteArray.mk #[32,115,111,114,116,101,100]).size=7:=rfl
    have c1:decide (A.size+(ByteArray.mk #[46,46]).size≤4611686018427387904)=true:=decide_eq_true (by omega)
    have c2:decide ((A++ByteArray.mk #[46,46]).size+B.size≤4611686018427387904)=true:=decide_eq_true (by simp only [ByteArray.size_append];omega)
    have c3:decide (((A++ByteArray.mk #[46,46])++B).size+(ByteArray.mk #[32]).size≤4611686018427387904)=true:=decide_eq_true (by simp only [ByteArray.size_append];omega)
    have c4:decide ((((A++ByteArray.mk #[46,46])++B)++ByteArray.mk #[32]).size+W.size≤4611686018427387904)=true:=decide_eq_true (by simp only [ByteArray.size_append];omega)
    have c5:decide (((((A++ByteArray.mk #[46,46])++B)++ByteArray.mk #[32])++W).size+(ByteArray.mk #[32,115,111,114,116,101,100]).size≤4611686018427387904)=true:=decide_eq_true (by simp only [ByteArray.size_append];omega)
    have c6:∀ s:AV,decide ((L.length+([s]).length)*16≤140737488355328)=true:=fun s=>decide_eq_true (by simp only [List.length_cons,List.length_nil];omega)
    have c7:∀ s:AV,decide ((L.length+([s]).length)≤140737488355328)=true:=fun s=>decide_eq_true (by simp only [List.length_cons,List.length_nil];omega)
    simp only [c1,c2,c3,c4,c5,c6,c7,Bool.and_self,cond_true]
    cases v89_0 vs rs ps a b <;> rfl
  ·unfold gP
   simp only
   cases decide (e i > a)
   ·simp only [cond_false];omega
   ·simp only [cond_true,List.length_append,List.length_cons,List.length_nil];omega) (fun t _=>by
  unfold R26_0 F26_0 G26_0
  rw [decide_eq_false (Int.lt_irrefl _)]
  rfl) es.length _ 0 (0,[]) (Int.le_refl 0) (by omega) (by omega) ⟨by decide,by simp,by simp⟩
def gQ (e:Int→Int) (i:Int) (t:Int × List AV):Int × List AV:=(e i,bif decide (e i > t.1) then t.2++[AV.agg [AV.int .i64 t.1,AV.int .i64 (e i)]] else t.2)
def okPc (N:Int) (p:AV):Prop:=∃ x y:Int,p=AV.agg [AV.int .i64 x,AV.int .i64 y]∧0≤x∧x<y∧y≤N
def lineOf (vs rs ps:List AV) (p:AV):AV:=AV.str (lineB vs rs ps (fI p 0) (fI p 1))
theorem gQ_inv (e:Int→Int) (N:Int):∀ (m:Nat) (i a:Int) (L:List AV),(∀ k,i≤k→k<i+m→0≤e k∧e k≤N)→0≤a→(∀ p ∈ L,okPc N p)→(∀ p ∈ (foldF (gQ e) m i (a,L)).2,okPc N p)∧(foldF (gQ e) m i (a,L)).2.length≤L.length+m
 | 0,_,_,_,_,_,h=>⟨h,Nat.le_refl _⟩
 | m+1,i,a,L,hb,ha,h=>by
  have e0:=hb i (Int.le_refl _) (by omega)
  show (∀ p ∈ (foldF (gQ e) m (i+1) (gQ e i (a,L))).2,okPc N p)∧_
  have hstep:gQ e i (a,L)=(e i,bif decide (e i > a) then L++[AV.agg [AV.int .i64 a,AV.int .i64 (e i)]] else L):=rfl
  rw [show foldF (gQ e) (m+1) i (a,L)=foldF (gQ e) m (i+1) (gQ e i (a,L)) from rfl,hstep]
  cases hd:decide (e i > a) with
  | false =>
   have:=gQ_inv e N m (i+1) (e i) L (fun k h1 h2=>hb k (by omega) (by omega)) e0.1 h
   exact ⟨this.1,by have:=this.2;simp only [cond_false];omega⟩
  | true =>
   have hgt:=of_decide_eq_true hd
   have:=gQ_inv e N m (i+1) (e i) (L++[AV.agg [AV.int .i64 a,AV.int .i64 (e i)]]) (fun k h1 h2=>hb k (by omega) (by omega)) e0.1 (fun p hp=>by
    rcases List.mem_append.1 hp with hp|hp
    ·exact h p hp
    ·obtain rfl:=List.mem_singleton.1 hp
     exact ⟨a,e i,rfl,ha,by omega,e0.2⟩)
   refine ⟨this.1,?_⟩
   have h2:=this.2
   simp only [List.length_append,List.length_cons,List.length_nil] at h2
   simp only [cond_true]
   omega
theorem gQ_rel (vs rs ps:List AV) (e:Int→Int):∀ (m:Nat) (i a:Int) (L:List AV),foldF (gP vs rs ps e) m i (a,L.map (lineOf vs rs ps))=((foldF (gQ e) m i (a,L)).1,(foldF (gQ e) m i (a,L)).2.map (lineOf vs rs ps))
 | 0,_,_,_=>rfl
 | m+1,i,a,L=>by
  show foldF (gP vs rs ps e) m (i+1) (gP vs rs ps e i (a,L.map (lineOf vs rs ps)))=((foldF (gQ e) m (i+1) (gQ e i (a,L))).1,(foldF (gQ e) m (i+1) (gQ e i (a,L))).2.map (lineOf vs rs ps))
  have h1:gP vs rs ps e i (a,L.map (lineOf vs rs ps))=((gQ e i (a,L)).1,(gQ e i (a,L)).2.map (lineOf vs rs ps)):=by
   unfold gP gQ
   simp only
   cases decide (e i > a)
   ·rfl
   ·simp only [cond_true,List.map_append,List.map_cons,List.map_nil]
    rfl
  rw [h1]
  exact gQ_rel vs rs ps e m (i+1) _ _
theorem run81 {vs rs ps:List AV} (X:Cx vs rs ps):runW (R81_0 ((endsP vs ps).length:Int) (endsP vs ps)) ((((endsP vs ps).length:Int) - 0).toNat+1) (0,0,([]:List AV))=some (foldF (gQ (eP vs ps)) (endsP vs ps).length 0 (0,[])).2 :=
 runW_fold (f:=R81_0 ((endsP vs ps).length:Int) (endsP vs ps)) (fun i (t:Int × List AV)=>(t.1,i,t.2)) (endsP vs ps).length (gQ (eP vs ps)) (fun t=>t.2) (fun i t=>(t.2.length:Int)≤i) (fun i t h0 hn hI=>by
  have hp:=X.p
  have hl:(endsP vs ps).length=ps.length+1:=by unfold endsP;simp
  obtain ⟨a,L⟩:=t
  simp only at hI
  refine ⟨?_,?_⟩
  ·have d0:decide (i<((endsP vs ps).length:Int))=true:=decide_eq_true hn
   have d1:decide (0≤i)=true:=decide_eq_true h0
   unfold R81_0 F81_0 G81_0 gQ
   simp only
   rw [d0,d1,wrap_in (a:=i+1) (by omega) (by omega),show fI ((endsP vs ps).getD i.toNat .undef) 1=eP vs ps i from rfl]
   have c6:∀ s:AV,decide ((L.length+([s]).length)*16≤140737488355328)=true:=fun s=>decide_eq_true (by simp only [List.length_cons,List.length_nil];omega)
   have c7:∀ s:AV,decide ((L.length+([s]).length)≤140737488355328)=true:=fun s=>decide_eq_true (by simp only [List.length_cons,List.length_nil];omega)
   rw [c6,c7]
   cases decide (eP vs ps i > a) <;> rfl
  ·unfold gQ
   simp only
   cases decide (eP vs ps i > a)
   ·simp only [cond_false];omega
   ·simp only [cond_true,List.length_append,List.length_cons,List.length_nil];omega) (fun t _=>by
  unfold R81_0 F81_0 G81_0
  rw [decide_eq_false (Int.lt_irrefl _)]
  rfl) (endsP vs ps).length _ 0 (0,[]) (Int.le_refl 0) (by omega) (by omega) (by simp)
theorem run25 {vs rs ps:List AV} (X:Cx vs rs ps) (L:List AV) (hL:L.length≤1048577) (hok:∀ p ∈ L,okPc vs.length p) :
  runW (R25_0 (L.length:Int) vs rs ps L) (((L.length:Int) - 0).toNat+1) (0,([]:List AV))=some (L.map (lineOf vs rs ps)):=by
 have hr:=runW_fold (f:=R25_0 (L.length:Int) vs rs ps L) (fun i (t:List AV)=>(i,t)) L.length (fun i t=>t++[(fun i:Int=>lineOf vs rs ps (L.getD i.toNat .undef)) i]) (fun t=>t) (fun i t=>(t.length:Int)=i) (fun i t h0 hn hI=>by
  refine ⟨?_,by rw [List.length_append];simp only [List.length_cons,List.length_nil];omega⟩
  have hm:L.getD i.toNat .undef ∈ L:=by
   rw [List.getD_eq_getElem?_getD,List.getElem?_eq_getElem (by omega:i.toNat<L.length)]
   exact List.getElem_mem _
  obtain ⟨a,b,hp,i1,hab',b1⟩:=hok _ hm
  have hlen:=X.v
  have e0:fI (L.getD i.toNat .undef) 0=a:=by rw [hp];rfl
  have e1:fI (L.getD i.toNat .undef) 1=b:=by rw [hp];rfl
  have ia:In64 a:=by unfold In64;omega
  have ib:In64 b:=by unfold In64;omega
  obtain ⟨a1,a2⟩:=fmtInt' a ia.1 ia.2
  obtain ⟨b1',b2⟩:=fmtInt' b ib.1 ib.2
  have la:=itoaB_len a ia.1 ia.2
  have lb:=itoaB_len b ib.1 ib.2
  obtain ⟨g1,g2,⟨w0,w1,w2,w3⟩,k0,k1,k2,k3⟩:=agg_eq (sub vs a b) (Nat.le_trans (sub_len vs a b) X.v) (sub_in vs X.n a b)
  obtain ⟨_,f2,f3,f4⟩:=fagg_eq _ _ _ _ k0 k1 k2 k3
  obtain ⟨_,s2,s3⟩:=sorted_eq vs rs ps a b X.v X.r i1 hab' b1
  have d0:decide (i<(L.length:Int))=true:=decide_eq_true hn
  have d1:decide (0≤i)=true:=decide_eq_true h0
  have d2:decide (0≤a)=true:=decide_eq_true i1
  have d3:decide (a≤b)=true:=decide_eq_true (by omega)
  have d4:decide (b≤(vs.length:Int))=true:=decide_eq_true b1
  unfold R25_0 F25_0 G25_0 lineOf lineB
  simp only
  rw [e0,e1,d0,d1,wrap_in (a:=i+1) (by omega) (by omega)]
  rw [show (vs.take (Int.toNat b)).drop (Int.toNat a)=sub vs a b from rfl,w0,w1,w2,w3,a1,a2,b1',b2,g2,f2,f3,s2,s3,d2,d3,d4]
  generalize v87_0 (v88_0 (sub vs a b)) (v88_1 (sub vs a b)) (v88_2 (sub vs a b)) (v88_3 (sub vs a b))=W at *
  generalize itoaB a=A at *
  generalize itoaB b=B at *
  have o1:(ByteArray.mk #[46,46]).size=2:=rfl
  have o2:(ByteArray.mk #[32]).size=1:=rfl
  have o3:(ByteArray.mk #[32,115,111,114,116,101,100]).size=7:=rfl
  have c1:decide (A.size+(ByteArray.mk #[46,46]).size≤4611686018427387904)=true:=decide_eq_true (by omega)
  have c2:decide ((A++ByteArray.mk #[46,46]).size+B.size≤4611686018427387904)=true:=decide_eq_true (by simp only [ByteArray.size_append];omega)
  have c3:decide (((A++ByteArray.mk #[46,46])++B).size+(ByteArray.mk #[32]).size≤4611686018427387904)=true:=decide_eq_true (by simp only [ByteArray.size_append];omega)
  have c4:decide ((((A++ByteArray.mk #[46,46])++B)++ByteArray.mk #[32]).size+W.size≤4611686018427387904)=true:=decide_eq_true (by simp only [ByteArray.size_append];omega)
  have c5:decide (((((A++ByteArray.mk #[46,46])++B)++ByteArray.mk #[32])++W).size+(ByteArray.mk #[32,115,111,114,116,101,100]).size≤4611686018427387904)=true:=decide_eq_true (by simp only [ByteArray.size_append];omega)
  have c6:∀ s:AV,decide ((t.length+([s]).length)*16≤140737488355328)=true:=fun s=>decide_eq_true (by simp only [List.length_cons,List.length_nil];omega)
  have c7:∀ s:AV,decide ((t.length+([s]).length)≤140737488355328)=true:=fun s=>decide_eq_true (by simp only [List.length_cons,List.length_nil];omega)
  simp only [c1,c2,c3,c4,c5,c6,c7,Bool.and_self,cond_true]
  cases v89_0 vs rs ps a b <;> rfl) (fun t _=>by
  unfold R25_0 F25_0 G25_0
  rw [decide_eq_false (Int.lt_irrefl _)]
  rfl) L.length (((L.length:Int) - 0).toNat+1) 0 [] (Int.le_refl 0) (by omega) (by omega) rfl
 rw [app_fold (fun i:Int=>lineOf vs rs ps (L.getD i.toNat .undef)),List.nil_append] at hr
 rw [hr]
 congr 1
 apply List.ext_getElem?
 intro k
 rw [List.getElem?_map,List.getElem?_map]
 by_cases hk:k<L.length
 ·rw [List.getElem?_range hk,List.getElem?_eq_getElem hk]
  show some (lineOf vs rs ps (L.getD (0+(k:Int)).toNat .undef))=some (lineOf vs rs ps L[k])
  rw [show (0+(k:Int)).toNat=k by omega,List.getD_eq_getElem?_getD,List.getElem?_eq_getElem hk]
  rfl
 ·rw [List.getElem?_eq_none (by rw [List.length_range];omega),List.getElem?_eq_none (by omega)]
  rfl
theorem piecel (vs rs ps:List AV) (h1:vs.length≤1048576) (h2:rs.length≤1048576) (h:ps.length≤1048576) (hn:isC vs rs ps=true→∀ y ∈ vs,In64 (fI y 0)) :
  q26 vs rs ps=true∧q25 vs rs ps=true∧v25_0 vs rs ps=v26_0 vs rs ps∧(v26_0 vs rs ps).length≤1048577:=by
 obtain ⟨s1,s2⟩:=P71 vs rs ps h1 h2 h
 obtain ⟨s3,s4⟩:=P39 vs rs ps h1 h2 h
 obtain ⟨e1,e2,e3⟩:=ends68 vs rs ps h
 cases hc:isC vs rs ps with
 | false =>
  have hr:runW (R26_0 vs rs ps (v85_0 vs rs ps)) ((((v85_0 vs rs ps).length:Int) - 0).toNat+1) (0,0,([]:List AV))=some []:=by
   unfold runW R26_0 F26_0 G26_0
   rw [s1,s2,hc,decide_eq_true (by omega:(0:Int)<((v85_0 vs rs ps).length:Int))]
   rfl
  unfold q26 q25 v26_0 v25_0
  rw [s3,s4,hc,e1,hr]
  exact ⟨rfl,rfl,rfl,Nat.zero_le _⟩
 | true =>
  have X:Cx vs rs ps:=⟨h1,h,by
   unfold isC at hc
   simp only [Bool.and_eq_true,decide_eq_true_eq] at hc
   exact hc.2.1,hc,hn hc,s1,s2.trans hc⟩
  have hl:(endsP vs ps).length=ps.length+1:=by unfold endsP;simp
  have r39:=run26 X (v85_0 vs rs ps) (eP vs ps) e2 (fun k a b=>e3 k a (by omega)) (fun k a b=>eP_in hc k a (by omega))
  have inv:=gQ_inv (eP vs ps) vs.length (endsP vs ps).length 0 0 [] (fun k a b=>eP_in hc k a (by omega)) (Int.le_refl 0) (fun p hp=>by cases hp)
  have rel:=gQ_rel vs rs ps (eP vs ps) (endsP vs ps).length 0 0 []
  have r72:=run81 X
  have v81:v81_0 vs rs ps=(foldF (gQ (eP vs ps)) (endsP vs ps).length 0 (0,[])).2:=by
   show ro (runW (R81_0 ((endsP vs ps).length:Int) (endsP vs ps)) ((((endsP vs ps).length:Int) - 0).toNat+1) (0,0,([]:List AV))) [] (fun p=>p)=_
   rw [r72]
   rfl
  have q72':q81 vs rs ps=true:=by
   show ((decide (ps.length*16≤140737488355328) && decide (ps.length≤140737488355328)) && ((decide ((ps.length+1)*16≤140737488355328) && decide ((ps.length+1)≤140737488355328)) && (ro (runW (R81_0 ((endsP vs ps).length:Int) (endsP vs ps)) ((((endsP vs ps).length:Int) - 0).toNat+1) (0,0,([]:List AV))) false (fun p=>true))))=true
   rw [r72,decide_eq_true (by omega),decide_eq_true (by omega),decide_eq_true (by omega),decide_eq_true (by omega)]
   rfl
  generalize hLL:(foldF (gQ (eP vs ps)) (endsP vs ps).length 0 (0,[])).2=L at *
  have hLn:L.length≤1048577:=by have:=inv.2;simp only [List.length_nil] at this;omega
  have r40:=run25 X L hLn inv.1
  have hP:(foldF (gP vs rs ps (eP vs ps)) (v85_0 vs rs ps).length 0 (0,[])).2=L.map (lineOf vs rs ps):=by
   rw [e2,← hl]
   have:=congrArg Prod.snd rel
   simp only [List.map_nil] at this
   exact this
  unfold q26 q25 v26_0 v25_0
  rw [s3,s4,hc,e1,r39,q72',v81,r40,hP]
  refine ⟨rfl,rfl,rfl,?_⟩
  show (L.map (lineOf vs rs ps)).length≤_
  rw [List.length_map]
  exact hLn
def wP (ps:List AV) (i:Int):ByteArray:=(itoaB (fI (ps.getD i.toNat .undef) 0)++ByteArray.mk #[64])++itoaB (fI (ps.getD i.toNat .undef) 1)
theorem wP_size (ps:List AV) (hv:∀ i:Int,In64 (fI (ps.getD i.toNat .undef) 0)∧In64 (fI (ps.getD i.toNat .undef) 1)) (i:Int):(wP ps i).size≤41∧1≤(wP ps i).size:=by
 have la:=itoaB_len _ (hv i).1.1 (hv i).1.2
 have lb:=itoaB_len _ (hv i).2.1 (hv i).2.2
 have o1:(ByteArray.mk #[64]).size=1:=rfl
 unfold wP
 rw [ByteArray.size_append,ByteArray.size_append]
 omega
theorem run28 (vs rs ps:List AV) (h:ps.length≤1048576) (hv:∀ i:Int,In64 (fI (ps.getD i.toNat .undef) 0)∧In64 (fI (ps.getD i.toNat .undef) 1)) :
  runW (R28_0 vs rs ps) (((ps.length:Int) - 0).toNat+1) (ByteArray.empty,0)=some (foldF (gJ (wP ps)) ps.length 0 ByteArray.empty) :=
 runW_fold (f:=R28_0 vs rs ps) (fun i (t:ByteArray)=>(t,i)) ps.length (gJ (wP ps)) (fun t=>t) (fun i t=>(t.size:Int)≤42*i) (fun i t h0 hn hI=>by
  have hs:(gJ (wP ps) i t).size≤t.size+(41+1):=(gJ_size (wP ps) 41 (fun j=>(wP_size ps hv j).1) i t).1
  refine ⟨?_,by omega⟩
  obtain ⟨a1,a2⟩:=fmtInt _ (hv i).1.1 (hv i).1.2
  obtain ⟨b1,b2⟩:=fmtInt _ (hv i).2.1 (hv i).2.2
  have la:=itoaB_len _ (hv i).1.1 (hv i).1.2
  have lb:=itoaB_len _ (hv i).2.1 (hv i).2.2
  have o1:(ByteArray.mk #[32]).size=1:=rfl
  have o2:(ByteArray.mk #[64]).size=1:=rfl
  have d0:decide (i<(ps.length:Int))=true:=decide_eq_true hn
  have d2:decide (0≤i)=true:=decide_eq_true h0
  unfold R28_0 F28_0 G28_0 gJ wP
  rw [a1,a2,b1,b2,d0,d2,wrap_in (a:=i+1) (by omega) (by omega)]
  generalize itoaB (fI (ps.getD i.toNat .undef) 0)=A at *
  generalize itoaB (fI (ps.getD i.toNat .undef) 1)=B at *
  have d3:decide (t.size+(ByteArray.mk #[32]).size≤4611686018427387904)=true:=decide_eq_true (by omega)
  have d4:decide ((t++ByteArray.mk #[32]).size+A.size≤4611686018427387904)=true:=decide_eq_true (by rw [ByteArray.size_append];omega)
  have d5:decide (((t++ByteArray.mk #[32])++A).size+(ByteArray.mk #[64]).size≤4611686018427387904)=true:=decide_eq_true (by rw [ByteArray.size_append,ByteArray.size_append];omega)
  have d6:decide ((((t++ByteArray.mk #[32])++A)++ByteArray.mk #[64]).size+B.size≤4611686018427387904)=true:=decide_eq_true (by rw [ByteArray.size_append,ByteArray.size_append,ByteArray.size_append];omega)
  have d7:decide (t.size+A.size≤4611686018427387904)=true:=decide_eq_true (by omega)
  have d8:decide ((t++A).size+(ByteArray.mk #[64]).size≤4611686018427387904)=true:=decide_eq_true (by rw [ByteArray.size_append];omega)
  have d9:decide (((t++A)++ByteArray.mk #[64]).size+B.size≤4611686018427387904)=true:=decide_eq_true (by rw [ByteArray.size_append,ByteArray.size_append];omega)
  rw [d3,d4,d5,d6,d7,d8,d9]
  cases decide (i > 0)
  ·simp only [cond_false,cond_true,Bool.and_self,ByteArray.append_assoc]
  ·simp only [cond_true,Bool.and_self,ByteArray.append_assoc]) (fun t _=>by
  unfold R28_0 F28_0 G28_0
  rw [decide_eq_false (Int.lt_irrefl _)]
  rfl) ps.length _ 0 ByteArray.empty (Int.le_refl 0) (by omega) (by omega) (by decide)
theorem run27 (ps:List AV) (h:ps.length≤1048576) (hv:∀ i:Int,In64 (fI (ps.getD i.toNat .undef) 0)∧In64 (fI (ps.getD i.toNat .undef) 1)) :
  runW (R27_0 ps ps.length) (((ps.length:Int) - 0).toNat+1) (0,([]:List AV))=some (foldF (gL (wP ps)) ps.length 0 []) :=
 runW_fold (f:=R27_0 ps ps.length) (fun i (t:List AV)=>(i,t)) ps.length (gL (wP ps)) (fun t=>t) (fun i t=>(t.length:Int)=i) (fun i t h0 hn hI=>by
  refine ⟨?_,by unfold gL;rw [List.length_append];simp only [List.length_cons,List.length_nil];omega⟩
  obtain ⟨a1,a2⟩:=fmtInt' _ (hv i).1.1 (hv i).1.2
  obtain ⟨b1,b2⟩:=fmtInt' _ (hv i).2.1 (hv i).2.2
  have la:=itoaB_len _ (hv i).1.1 (hv i).1.2
  have lb:=itoaB_len _ (hv i).2.1 (hv i).2.2
  have o2:(ByteArray.mk #[64]).size=1:=rfl
  have d0:decide (i<(ps.length:Int))=true:=decide_eq_true hn
  have d2:decide (0≤i)=true:=decide_eq_true h0
  unfold R27_0 F27_0 G27_0 gL wP
  rw [a1,a2,b1,b2,d0,d2,wrap_in (a:=i+1) (by omega) (by omega)]
  generalize itoaB (fI (ps.getD i.toNat .undef) 0)=A at *
  generalize itoaB (fI (ps.getD i.toNat .undef) 1)=B at *
  have d3:decide ((t.length+([AV.str ((A++ByteArray.mk #[64])++B)]).length)*16≤140737488355328)=true:=decide_eq_true (by simp only [List.length_cons,List.length_nil];omega)
  have d4:decide ((t.length+([AV.str ((A++ByteArray.mk #[64])++B)]).length)≤140737488355328)=true:=decide_eq_true (by simp only [List.length_cons,List.length_nil];omega)
  have d5:decide (A.size+(ByteArray.mk #[64]).size≤4611686018427387904)=true:=decide_eq_true (by omega)
  have d6:decide ((A++ByteArray.mk #[64]).size+B.size≤4611686018427387904)=true:=decide_eq_true (by rw [ByteArray.size_append];omega)
  rw [d3,d4,d5,d6]
  rfl) (fun t _=>by
  unfold R27_0 F27_0 G27_0
  rw [decide_eq_false (Int.lt_irrefl _)]
  rfl) ps.length _ 0 [] (Int.le_refl 0) (by omega) (by omega) rfl
theorem pivl (vs rs ps:List AV) (h1:vs.length≤1048576) (h2:rs.length≤1048576) (h:ps.length≤1048576) (hv:∀ i:Int,In64 (fI (ps.getD i.toNat .undef) 0)∧In64 (fI (ps.getD i.toNat .undef) 1)) :
  q28 vs rs ps=true∧q27 vs rs ps=true∧v27_0 vs rs ps=v28_0 vs rs ps:=by
 obtain ⟨s1,s2⟩:=P71 vs rs ps h1 h2 h
 obtain ⟨s3,s4⟩:=P39 vs rs ps h1 h2 h
 have hw:∀ i,(wP ps i).size≤41:=fun j=>(wP_size ps hv j).1
 have hj:foldF (gJ (wP ps)) ps.length 0 ByteArray.empty=joinB (foldF (gL (wP ps)) ps.length 0 []) (ByteArray.mk #[32]):=gJ_join (wP ps) ps.length 0 ByteArray.empty [] rfl (by
  apply ByteArray.ext
  simp [joinB,Lib.join_nil])
 have hl:(foldF (gL (wP ps)) ps.length 0 []).length=ps.length:=by rw [gL_len];simp
 have hz:=(gJ_fold (wP ps) 41 hw ps.length 0 ByteArray.empty).1
 have z0:ByteArray.empty.size=0:=rfl
 unfold q28 q27 v28_0 v27_0
 rw [s1,s2,s3,s4,run28 vs rs ps h hv,run27 ps h hv]
 cases hc:isC vs rs ps with
 | false=>exact ⟨rfl,rfl,rfl⟩
 | true =>
  simp only [ro,Bool.not_true,cond_false,Bool.true_and]
  have k:q90 (foldF (gL (wP ps)) ps.length 0 []) (ByteArray.mk #[32])=true:=by
   unfold q90
   rw [hl,← hj,decide_eq_true (by omega:ps.length≤140737488355328),decide_eq_true (by omega)]
   rfl
  rw [k]
  by_cases hn:ps.length=0
  ·rw [decide_eq_true (by omega:((foldF (gL (wP ps)) ps.length 0 []).length:Int)=0),decide_eq_true (by omega:(ps.length:Int)=0)]
   exact ⟨rfl,rfl,rfl⟩
  ·rw [decide_eq_false (by omega:¬ ((foldF (gL (wP ps)) ps.length 0 []).length:Int)=0),decide_eq_false (by omega:¬ (ps.length:Int)=0)]
   exact ⟨rfl,rfl,hj.symm⟩
theorem sum46 (xs:List AV) (h:xs.length≤1048576):runW (R93_0 xs) (((xs.length:Int) - 0).toNat+1) (0,0)=some (foldF (gS xs) xs.length 0 0) :=
 runW_fold (f:=R93_0 xs) (fun i (t:Int)=>(t,i)) xs.length (gS xs) (fun t=>t) (fun _ _=>True) (fun i t h0 hn _=>by
  refine ⟨?_,trivial⟩
  simp only [R93_0,F93_0,G93_0,h0,hn,decide_true,Bool.and_self,cond_true]
  rw [wrap_in (a:=i+1) (by omega) (by omega)]
  rfl) (fun t _=>by simp only [R93_0,F93_0,G93_0,Int.lt_irrefl,decide_false,cond_false]) xs.length _ 0 0 (Int.le_refl 0) (by omega) (by omega) trivial
theorem sums (xs:List AV) (h:xs.length≤1048576):q93 xs=true∧q92 xs=true∧v92_0 xs=v93_0 xs∧In64 (v93_0 xs):=by
 unfold q93 q92 v93_0 v92_0
 rw [sum46 xs h,sum47 xs h]
 exact ⟨rfl,rfl,rfl,gS_in xs _ _ _ (by unfold In64;omega)⟩
def gC (xs:List AV) (i:Int) (t:ByteArray):ByteArray:=(t++itoaB (fI (xs.getD i.toNat .undef) 0))++ByteArray.mk #[32]
theorem gC_size (xs:List AV) (hv:∀ i:Int,In64 (fI (xs.getD i.toNat .undef) 0)) (i:Int) (t:ByteArray):(gC xs i t).size≤t.size+21:=by
 have:=itoaB_len _ (hv i).1 (hv i).2
 unfold gC
 rw [ByteArray.size_append,ByteArray.size_append]
 have:(ByteArray.mk #[32]).size=1:=rfl
 omega
theorem gC_fold (xs:List AV) (hv:∀ i:Int,In64 (fI (xs.getD i.toNat .undef) 0)):∀ (m:Nat) (i:Int) (t:ByteArray),(foldF (gC xs) m i t).size≤t.size+21*m
 | 0,_,_=>Nat.le_refl _
 | m+1,i,t=>by
  have h1:=gC_fold xs hv m (i+1) (gC xs i t)
  have h2:=gC_size xs hv i t
  show (foldF (gC xs) m (i+1) (gC xs i t)).size≤_
  omega
theorem line13 (xs:List AV) (h:xs.length≤1048576) (hv:∀ i:Int,In64 (fI (xs.getD i.toNat .undef) 0)):runW (R33_0 xs) (((xs.length:Int) - 0).toNat+1) (ByteArray.empty,0)=some (foldF (gC xs) (min xs.length 30) 0 ByteArray.empty) :=
 runW_fold (f:=R33_0 xs) (fun i (t:ByteArray)=>(t,i)) (min xs.length 30:Nat) (gC xs) (fun t=>t) (fun i t=>(t.size:Int)≤21*i) (fun i t h0 hn hI=>by
  have hs:=gC_size xs hv i t
  have hl:=itoaB_len _ (hv i).1 (hv i).2
  have o1:(ByteArray.mk #[32]).size=1:=rfl
  obtain ⟨f1,f2⟩:=fmtInt _ (hv i).1 (hv i).2
  refine ⟨?_,by omega⟩
  have d0:decide (i<(xs.length:Int))=true:=decide_eq_true (by omega)
  have d1:decide (i<30)=true:=decide_eq_true (by omega)
  have d2:decide (0≤i)=true:=decide_eq_true h0
  have d3:decide (t.size+(itoaB (fI (xs.getD i.toNat .undef) 0)).size≤4611686018427387904)=true:=decide_eq_true (by omega)
  have d4:decide ((t++itoaB (fI (xs.getD i.toNat .undef) 0)).size+(ByteArray.mk #[32]).size≤4611686018427387904)=true:=decide_eq_true (by rw [ByteArray.size_append];omega)
  unfold R33_0 F33_0 G33_0
  rw [f1,f2,d0,d1,d2,d3,d4,wrap_in (a:=i+1) (by omega) (by omega)]
  rfl) (fun t _=>by
  unfold R33_0 F33_0 G33_0
  by_cases hc:xs.length≤30
  ·rw [decide_eq_false (by omega:¬ ((min xs.length 30:Nat):Int)<(xs.length:Int))]
   rfl
  ·rw [decide_eq_true (by omega:((min xs.length 30:Nat):Int)<(xs.length:Int)),decide_eq_false (by omega:¬ ((min xs.length 30:Nat):Int)<30)]
   rfl) (min xs.length 30) _ 0 ByteArray.empty (Int.le_refl 0) (by omega) (by omega) (by decide)
theorem take_getD (xs:List AV) (m:Nat) (i:Int) (h0:0≤i) (h:i<m):(xs.take m).getD i.toNat .undef=xs.getD i.toNat .undef:=by
 rw [List.getD_eq_getElem?_getD,List.getD_eq_getElem?_getD,List.getElem?_take_of_lt (by omega)]
theorem line15 (xs ys:List AV) (m:Nat) (hm:m≤30) (hl:ys.length=m) (hy:∀ i:Int,0≤i→i<m→ys.getD i.toNat .undef=xs.getD i.toNat .undef) (hv:∀ i:Int,In64 (fI (xs.getD i.toNat .undef) 0)) :
  runW (R32_0 xs ys ys.length) (((ys.length:Int) - 0).toNat+1) (ByteArray.empty,0)=some (foldF (gC xs) m 0 ByteArray.empty) :=
 runW_fold (f:=R32_0 xs ys ys.length) (fun i (t:ByteArray)=>(t,i)) (m:Int) (gC xs) (fun t=>t) (fun i t=>(t.size:Int)≤21*i) (fun i t h0 hn hI=>by
  have hs:=gC_size xs hv i t
  have hl':=itoaB_len _ (hv i).1 (hv i).2
  have o1:(ByteArray.mk #[32]).size=1:=rfl
  obtain ⟨f1,f2⟩:=fmtInt' _ (hv i).1 (hv i).2
  refine ⟨?_,by omega⟩
  have d0:decide (i<(ys.length:Int))=true:=decide_eq_true (by omega)
  have d2:decide (0≤i)=true:=decide_eq_true h0
  have d3:decide ((itoaB (fI (xs.getD i.toNat .undef) 0)).size+(ByteArray.mk #[32]).size≤4611686018427387904)=true:=decide_eq_true (by omega)
  have d4:decide (t.size+(itoaB (fI (xs.getD i.toNat .undef) 0)++ByteArray.mk #[32]).size≤4611686018427387904)=true:=decide_eq_true (by rw [ByteArray.size_append];omega)
  unfold R32_0 F32_0 G32_0
  rw [hy i h0 hn,f1,f2,d0,d2,d3,d4,wrap_in (a:=i+1) (by omega) (by omega)]
  unfold gC
  rw [ByteArray.append_assoc]
  rfl) (fun t _=>by
  unfold R32_0 F32_0 G32_0
  rw [decide_eq_false (by omega:¬ (m:Int)<(ys.length:Int))]
  rfl) m _ 0 ByteArray.empty (Int.le_refl 0) (by omega) (by omega) (by decide)
theorem cost (xs:List AV) (h:xs.length≤1048576) (hv:∀ i:Int,In64 (fI (xs.getD i.toNat .undef) 0)):q33 xs=true∧q32 xs=true∧v32_0 xs=v33_0 xs:=by
 obtain ⟨s1,s2,s3,s4⟩:=sums xs h
 have em:Int.toNat (if (xs.length:Int)<30 then (xs.length:Int) else 30)=min xs.length 30:=by split <;> omega
 have hz:=gC_fold xs hv (min xs.length 30) 0 ByteArray.empty
 have z0:ByteArray.empty.size=0:=rfl
 have o6:(ByteArray.mk #[116,111,116,97,108,32]).size=6:=rfl
 have e:(xs.take (Int.toNat (if (xs.length:Int)<30 then (xs.length:Int) else 30))).drop (Int.toNat 0)=xs.take (min xs.length 30):=by rw [em];rfl
 have l15:=line15 xs (xs.take (min xs.length 30)) (min xs.length 30) (by omega) (by rw [List.length_take];omega) (fun i h0 hn=>take_getD xs _ i h0 hn) hv
 obtain ⟨f1,f2⟩:=fmtInt _ s4.1 s4.2
 obtain ⟨g1,g2⟩:=fmtInt' _ s4.1 s4.2
 have hl:=itoaB_len _ s4.1 s4.2
 unfold q33 q32 v33_0 v32_0
 rw [e,l15,line13 xs h hv]
 simp only [ro]
 rw [s1,s2,s3,f1,f2,g1,g2]
 generalize foldF (gC xs) (min xs.length 30) 0 ByteArray.empty=t at *
 have d1:decide (t.size+(ByteArray.mk #[116,111,116,97,108,32]).size≤4611686018427387904)=true:=decide_eq_true (by omega)
 have d2:decide ((t++ByteArray.mk #[116,111,116,97,108,32]).size+(itoaB (v93_0 xs)).size≤4611686018427387904)=true:=decide_eq_true (by rw [ByteArray.size_append];omega)
 have d3:decide (0≤(if (xs.length:Int)<30 then (xs.length:Int) else 30))=true:=decide_eq_true (by split <;> omega)
 have d4:decide ((if (xs.length:Int)<30 then (xs.length:Int) else 30)≤(xs.length:Int))=true:=decide_eq_true (by split <;> omega)
 rw [d1,d2,d3,d4]
 exact ⟨rfl,rfl,rfl⟩
theorem run34 {vs rs ps:List AV} (X:Cx vs rs ps) (es:List AV) (e:Int→Int) (hl:es.length=ps.length+1) (he:∀ k:Int,0≤k→k<es.length→fI (es.getD k.toNat .undef) 0=e k) :
  runW (R34_0 vs rs ps es) (((es.length:Int) - 0).toNat+1) (0,0,0)=some ((foldF (gQ e) es.length 0 (0,[])).2.length:Int) :=
 runW_fold (f:=R34_0 vs rs ps es) (fun i (t:Int × List AV)=>((t.2.length:Int),t.1,i)) es.length (gQ e) (fun t=>(t.2.length:Int)) (fun i t=>(t.2.length:Int)≤i) (fun i t h0 hn hI=>by
  obtain ⟨a,L⟩:=t
  simp only at hI
  have hpl:=X.p
  refine ⟨?_,?_⟩
  ·have d0:decide (i<(es.length:Int))=true:=decide_eq_true hn
   have d1:decide (0≤i)=true:=decide_eq_true h0
   unfold R34_0 F34_0 G34_0 gQ
   simp only
   rw [he i h0 hn,d0,d1,X.q,X.w,wrap_in (a:=i+1) (by omega) (by omega),wrap_in (a:=(L.length:Int)+1) (by omega) (by omega)]
   cases decide (e i > a)
   ·rfl
   ·simp only [cond_true,List.length_append,List.length_singleton]
    rw [show ((L.length+1:Nat):Int)=(L.length:Int)+1 by omega]
    rfl
  ·unfold gQ
   simp only
   cases decide (e i > a)
   ·simp only [cond_false];omega
   ·simp only [cond_true,List.length_append,List.length_cons,List.length_nil];omega) (fun t _=>by
  unfold R34_0 F34_0 G34_0
  rw [decide_eq_false (Int.lt_irrefl _)]
  rfl) es.length _ 0 (0,[]) (Int.le_refl 0) (by omega) (by omega) (by simp)
end Go.Proofs.YtealoedecngaoaaGreatDoor

namespace Go.Proofs.YtealoedecngaoaaGreatDoor
open Go Go.Proofs.VE
set_option linter.unusedVariables false
set_option linter.unusedSimpArgs false
theorem in64b {n:Int} (h0 : -1000000≤n) (h1:n≤1000000):In64 n:=by unfold In64;omega
theorem col_piv {vs rs ps:List AV} (h:Col vs rs ps) (i:Int):In64 (fI (ps.getD i.toNat .undef) 0)∧In64 (fI (ps.getD i.toNat .undef) 1):=by
 have n:=h.n64
 by_cases c:i.toNat<ps.length
 ·obtain ⟨a,b⟩:=h.pv (i.toNat:Int) (by omega) (by omega)
  obtain ⟨d,e⟩:=h.pa (i.toNat:Int) (by omega) (by omega)
  unfold el at a b
  unfold pat at d e
  rw [Int.toNat_natCast] at a b d e
  exact ⟨in64b (by omega) (by omega),in64b (by omega) (by omega)⟩
 ·rw [List.getD_eq_getElem?_getD,List.getElem?_eq_none (by omega)]
  exact ⟨⟨by decide,by decide⟩,⟨by decide,by decide⟩⟩
theorem col_val {vs rs ps:List AV} (h:Col vs rs ps):∀ y ∈ vs,In64 (fI y 0):=fun y hy=>by
 obtain ⟨n,hn,rfl⟩:=List.getElem_of_mem hy
 obtain ⟨a,b⟩:=h.vals (n:Int) (by omega) (by omega)
 unfold el at a b
 rw [Int.toNat_natCast,List.getD_eq_getElem?_getD,List.getElem?_eq_getElem hn] at a b
 exact in64b (by simp only [Option.getD_some] at a;omega) (by simp only [Option.getD_some] at b;omega)
theorem pivN (vs rs ps:List AV) (h1:vs.length≤1048576) (h2:rs.length≤1048576) (h:ps.length≤1048576):q28 vs rs ps=true∧q27 vs rs ps=true∧v27_0 vs rs ps=v28_0 vs rs ps:=by
 cases hc:isC vs rs ps with
 | true=>exact pivl vs rs ps h1 h2 h (col_piv ((isC_iff vs rs ps h1).1 hc))
 | false =>
  obtain ⟨s1,s2⟩:=P71 vs rs ps h1 h2 h
  obtain ⟨s3,s4⟩:=P39 vs rs ps h1 h2 h
  rw [hc] at s2 s4
  unfold q28 q27 v28_0 v27_0
  rw [s1,s2,s3,s4]
  exact ⟨rfl,rfl,rfl⟩
theorem pieceN (vs rs ps:List AV) (h1:vs.length≤1048576) (h2:rs.length≤1048576) (h:ps.length≤1048576) :
  q34 vs rs ps=true∧((v26_0 vs rs ps).length:Int)=v34_0 vs rs ps:=by
 obtain ⟨s1,s2⟩:=P71 vs rs ps h1 h2 h
 obtain ⟨e1,e2,e3⟩:=ends68 vs rs ps h
 cases hc:isC vs rs ps with
 | false =>
  have hr:runW (R26_0 vs rs ps (v85_0 vs rs ps)) ((((v85_0 vs rs ps).length:Int) - 0).toNat+1) (0,0,([]:List AV))=some []:=by
   unfold runW R26_0 F26_0 G26_0
   rw [s1,s2,hc,decide_eq_true (by omega:(0:Int)<((v85_0 vs rs ps).length:Int))]
   rfl
  have hr2:runW (R34_0 vs rs ps (v85_0 vs rs ps)) ((((v85_0 vs rs ps).length:Int) - 0).toNat+1) (0,0,0)=some 0:=by
   unfold runW R34_0 F34_0 G34_0
   rw [s1,s2,hc,decide_eq_true (by omega:(0:Int)<((v85_0 vs rs ps).length:Int))]
   rfl
  unfold q34 v34_0 v26_0
  rw [e1,hr,hr2]
  exact ⟨rfl,rfl⟩
 | true =>
  have X:Cx vs rs ps:=⟨h1,h,by
   unfold isC at hc
   simp only [Bool.and_eq_true,decide_eq_true_eq] at hc
   exact hc.2.1,hc,col_val ((isC_iff vs rs ps h1).1 hc),s1,s2.trans hc⟩
  have hl:(endsP vs ps).length=ps.length+1:=by unfold endsP;simp
  have r39:=run26 X (v85_0 vs rs ps) (eP vs ps) e2 (fun k a b=>e3 k a (by omega)) (fun k a b=>eP_in hc k a (by omega))
  have rel:=gQ_rel vs rs ps (eP vs ps) (endsP vs ps).length 0 0 []
  have r9:=run34 X (v85_0 vs rs ps) (eP vs ps) e2 (fun k a b=>e3 k a (by omega))
  have hP:(foldF (gP vs rs ps (eP vs ps)) (v85_0 vs rs ps).length 0 (0,[])).2=(foldF (gQ (eP vs ps)) (v85_0 vs rs ps).length 0 (0,[])).2.map (lineOf vs rs ps):=by
   rw [e2,← hl]
   have:=congrArg Prod.snd rel
   simp only [List.map_nil] at this
   exact this
  unfold q34 v34_0 v26_0
  rw [e1,r39,r9,hP]
  refine ⟨rfl,?_⟩
  show ((List.map _ _).length:Int)=_
  rw [List.length_map]
  rfl
theorem board_lines {vs rs ps ws:List AV} {s:Int} (b:Bd vs rs ps ws) :
  q23 vs rs ps ws s=true∧q31 vs rs ps ws s=true∧v23_0 vs rs ps ws s=v31_0 vs rs ps ws s∧(v31_0 vs rs ps ws s).length≤1048576:=by
 obtain ⟨b0,b1,b2⟩:=isB_both vs rs ps ws s b.v b.r b.p b.w b.few b.oki
 cases hB:v13_0 vs rs ps ws s with
 | false =>
  have hr:runW (R31_0 vs rs ps ws s) (((ws.length:Int) - 0).toNat+1) (0,([]:List AV))=some []:=by
   show (F31_0 vs rs ps ws s 0 []).el none _ some=_
   unfold F31_0 G31_0
   simp only [b0,hB,cond_true,cond_false]
   cases decide ((0:Int)<(ws.length:Int)) <;> rfl
  unfold q23 q31 v23_0 v31_0
  rw [b1,b2,hB,hr]
  exact ⟨rfl,rfl,rfl,Nat.zero_le _⟩
 | true =>
  have B:=(isB_iff b).1 hB
  have w3:=B.w3
  obtain ⟨r,r',r1,r2,r3,r4⟩:=runW_pair (f:=R31_0 vs rs ps ws s) (g:=R23_0 ws ws.length) (fun (s s':Int × List AV)=>s'=s∧0≤s.1∧s.1≤ws.length∧(s.2.length:Int)≤s.1) (fun r r':List AV=>r'=r∧r.length≤1048576) (fun s=>((ws.length:Int) - s.1).toNat) (fun s_ s' hI=>by
   obtain ⟨k,L⟩:=s_
   obtain ⟨rfl,k0,k1,hL⟩:=hI
   simp only at k0 k1 hL
   show (∃ x y,F31_0 vs rs ps ws s k L = .next x∧F23_0 ws ws.length k L = .next y∧_)∨∃ r r',F31_0 vs rs ps ws s k L = .stop r∧F23_0 ws ws.length k L = .stop r'∧_
   by_cases hk:k<ws.length
   ·have d1:decide (k<(ws.length:Int))=true:=decide_eq_true hk
    have d2:decide (0≤k)=true:=decide_eq_true k0
    have wk:IntKind.i64.wrap (k+1)=k+1:=wrap_in (by omega) (by omega)
    have W:=B.wk k k0 hk
    have c5:=B.col.n64
    have ik:=in64b (n:=k) (by omega) (by omega)
    have tl:=W.tl
    have n0:=W.n0
    have n1:=W.n1
    have s0:=W.s0
    have s1:=W.s1
    have t0:=W.t0
    have t1:=W.t1
    have i1:=in64b (n:=fI (ws.getD k.toNat .undef) 1) (by omega) (by omega)
    have i2:=in64b (n:=((fL (ws.getD k.toNat .undef) 0).length:Int)) (by omega) (by omega)
    have i3:=in64b (n:=fI (ws.getD k.toNat .undef) 7) (by omega) (by omega)
    have i4:=in64b (n:=fI (ws.getD k.toNat .undef) 8) (by omega) (by omega)
    have ab:In64 (fI (ws.getD k.toNat .undef) 3)∧In64 (fI (ws.getD k.toNat .undef) 4):=by
     cases hr:fB (ws.getD k.toNat .undef) 2 with
     | true =>
      obtain ⟨_,rn⟩:=W.run hr
      have pc:=rn.piece B.col
      have p0:=pc.a0
      have p1:=pc.ab
      have p2:=pc.b1
      exact ⟨in64b (by omega) (by omega),in64b (by omega) (by omega)⟩
     | false =>
      obtain ⟨e1,e2,_⟩:=W.stop hr
      exact ⟨in64b (by omega) (by omega),in64b (by omega) (by omega)⟩
    obtain ⟨i5,i6⟩:=ab
    obtain ⟨f1,f2⟩:=fmtInt _ ik.1 ik.2
    obtain ⟨f3,f4⟩:=fmtInt _ i1.1 i1.2
    obtain ⟨f5,f6⟩:=fmtInt _ i2.1 i2.2
    obtain ⟨f7,f8⟩:=fmtInt _ i3.1 i3.2
    obtain ⟨f9,f10⟩:=fmtInt _ i4.1 i4.2
    obtain ⟨f11,f12⟩:=fmtInt _ i5.1 i5.2
    obtain ⟨f13,f14⟩:=fmtInt _ i6.1 i6.2
    obtain ⟨g1,g2⟩:=fmtInt' _ ik.1 ik.2
    obtain ⟨g3,g4⟩:=fmtInt' _ i1.1 i1.2
    obtain ⟨g5,g6⟩:=fmtInt' _ i2.1 i2.2
    obtain ⟨g7,g8⟩:=fmtInt' _ i3.1 i3.2
    obtain ⟨g9,g10⟩:=fmtInt' _ i4.1 i4.2
    obtain ⟨g11,g12⟩:=fmtInt' _ i5.1 i5.2
    obtain ⟨g13,g14⟩:=fmtInt' _ i6.1 i6.2
    have l1:=itoaB_len _ ik.1 ik.2
    have l2:=itoaB_len _ i1.1 i1.2
    have l3:=itoaB_len _ i2.1 i2.2
    have l4:=itoaB_len _ i3.1 i3.2
    have l5:=itoaB_len _ i4.1 i4.2
    have l6:=itoaB_len _ i5.1 i5.2
    have l7:=itoaB_len _ i6.1 i6.2
    have rm:∀ y:AV,(decide ((L.length+[y].length)*16≤140737488355328) && decide (L.length+[y].length≤140737488355328))=true:=fun y=>by
     rw [List.length_singleton,decide_eq_true (by omega:(L.length+1)*16≤140737488355328),decide_eq_true (by omega:L.length+1≤140737488355328)]
     rfl
    unfold F31_0 G31_0 F23_0 G23_0
    rw [f2,f4,f6,f8,f10,f12,f14,g2,g4,g6,g8,g10,g12,g14]
    simp only [d1,d2,b0,hB,f1,f3,f5,f7,f9,f11,f13,g1,g3,g5,g7,g9,g11,g13,wk,rm,Bool.and_self,cond_true]
    generalize itoaB k=A1 at *
    generalize itoaB (fI (ws.getD k.toNat .undef) 1)=A2 at *
    generalize itoaB ((fL (ws.getD k.toNat .undef) 0).length:Int)=A3 at *
    generalize itoaB (fI (ws.getD k.toNat .undef) 7)=A4 at *
    generalize itoaB (fI (ws.getD k.toNat .undef) 8)=A5 at *
    generalize itoaB (fI (ws.getD k.toNat .undef) 3)=A6 at *
    generalize itoaB (fI (ws.getD k.toNat .undef) 4)=A7 at *
    have big:∀ B:ByteArray,B.size≤1000→decide (B.size≤4611686018427387904)=true:=fun B h=>decide_eq_true (by omega)
    have big2:∀ B C:ByteArray,B.size+C.size≤1000→decide (B.size+C.size≤4611686018427387904)=true:=fun B C h=>decide_eq_true (by omega)
    left
    cases hr:fB (ws.getD k.toNat .undef) 2 with
    | true =>
     simp (disch:=simp only [ByteArray.size_append,lit_size,List.length_cons,List.length_nil];omega) only [big2,cond_true,Bool.and_self]
     simp only [ByteArray.append_assoc]
     exact ⟨_,_,rfl,rfl,⟨rfl,by simp only;omega,by simp only;omega,by simp only [List.length_append,List.length_singleton];omega⟩,by simp only;omega⟩
    | false =>
     simp (disch:=simp only [ByteArray.size_append,lit_size,List.length_cons,List.length_nil];omega) only [big2,cond_true,cond_false,Bool.and_self]
     exact ⟨_,_,rfl,rfl,⟨rfl,by simp only;omega,by simp only;omega,by simp only [List.length_append,List.length_singleton];omega⟩,by simp only;omega⟩
   ·have d1:decide (k<(ws.length:Int))=false:=decide_eq_false hk
    refine .inr ⟨L,L,?_,?_,rfl,by omega⟩
    ·unfold F31_0 G31_0
     simp only [d1,cond_false]
    ·unfold F23_0 G23_0
     simp only [d1,cond_false]) (((ws.length:Int) - 0).toNat+1) (((ws.length:Int) - 0).toNat+1) (0,[]) (0,[]) ⟨rfl,Int.le_refl 0,by simp only;omega,by simp⟩ (by simp only;omega) (by simp only;omega)
  subst r3
  unfold q23 q31 v23_0 v31_0
  rw [b1,b2,hB,r1,r2]
  exact ⟨rfl,rfl,rfl,r4⟩
end Go.Proofs.YtealoedecngaoaaGreatDoor

namespace Go.Proofs.YtealoedecngaoaaGreatDoor
open Go Go.Proofs.VE
set_option linter.unusedVariables false
set_option linter.unusedSimpArgs false
theorem drawV (code:List AV) (h:code.length≤1048576):∃ V R P,W24 code=some (V,R,P)∧V.length≤1048576∧R.length≤1048576∧P.length≤1048576:=by
 obtain ⟨p,hp⟩:=start_of (f:=R24i61_0 code) code (fun g k k0 k1=>by
  have d1:decide (k<(code.length:Int))=true:=decide_eq_true k1
  have d2:decide (0≤k)=true:=decide_eq_true k0
  have wk_:IntKind.i64.wrap (k+1)=k+1:=wrap_in (by omega) (by omega)
  show (∃ g',F24i61_0 code g k=_)∨F24i61_0 code g k=_
  unfold F24i61_0 G24i61_0
  rw [d1,d2,wk_]
  cases decide (k<4000)
  ·exact .inr rfl
  ·exact .inl ⟨_,rfl⟩) (fun g k k1=>by
  have d1:decide (k<(code.length:Int))=false:=decide_eq_false k1
  show F24i61_0 code g k=_
  unfold F24i61_0 G24i61_0
  rw [d1]
  rfl) (IntKind.i64.wrap (10101+(code.length:Int)))
 obtain ⟨V,R,P,i1,h1,hW,l0,l1,l2,n2,c1⟩:=anyCrk (b:=code) (i:=0) ⟨Int.le_refl 0,by omega,h⟩ p
 obtain ⟨a0,a1,a2,a3,a4,a5,a6⟩:=g80 hW
 unfold W24 T24
 simp only [hp,ro,a0,a1,a2,a3,cond_true]
 exact ⟨_,_,_,rfl,l0,l1,l2⟩
theorem drawX (code:List AV) (h:code.length≤1048576):∃ V R P X s,W30 code=some (V,R,P,X,s)∧Bd V R P X:=by
 obtain ⟨p,hp⟩:=start_of (f:=R30i61_0 code 0) code (fun g k k0 k1=>by
  have d1:decide (k<(code.length:Int))=true:=decide_eq_true k1
  have d2:decide (0≤k)=true:=decide_eq_true k0
  have wk_:IntKind.i64.wrap (k+1)=k+1:=wrap_in (by omega) (by omega)
  show (∃ g',F30i61_0 code 0 g k=_)∨F30i61_0 code 0 g k=_
  unfold F30i61_0 G30i61_0
  rw [d1,d2,wk_]
  cases decide (k<4000)
  ·exact .inr rfl
  ·exact .inl ⟨_,rfl⟩) (fun g k k1=>by
  have d1:decide (k<(code.length:Int))=false:=decide_eq_false k1
  show F30i61_0 code 0 g k=_
  unfold F30i61_0 G30i61_0
  rw [d1]
  rfl) (IntKind.i64.wrap (10101+(code.length:Int)))
 obtain ⟨V,R,P,X,s,i1,h1,hW,hb,c1⟩:=boardA (b:=code) (i:=0) ⟨Int.le_refl 0,by omega,h⟩ p
 obtain ⟨a0,a1,a2,a3,a4,a5,a6,a7,a8⟩:=g62 hW
 unfold W30 T30
 simp only [hp,ro,a0,a1,a2,a3,a4,a5,cond_true]
 exact ⟨_,_,_,_,_,rfl,hb⟩
theorem snoc_in {L:List AV} {n:Int} (h:∀ y ∈ L,In64 (fI y 0)) (hn:In64 n):∀ y ∈ L++[AV.int .i64 n],In64 (fI y 0):=fun y hy=>by
 rw [List.mem_append,List.mem_singleton] at hy
 rcases hy with hy|rfl
 ·exact h y hy
 ·exact hn
theorem values64 {b:List AV} {i:Int} (hc:Cur b i) (h:Int) {M:Int} (m0:0≤M) (m1:M≤100):∃ xs i' h',W91 M b i h=some (xs,b,i',h')∧xs.length≤100∧∀ y ∈ xs,In64 (fI y 0):=by
 obtain ⟨w,i1,h1,hW,c1,hw⟩:=pick hc h (L:=[AV.int .i64 3,AV.int .i64 10,AV.int .i64 30,AV.int .i64 1000]) (by decide)
 obtain ⟨a0,a1,a2,a3,a4,_⟩:=g132 hW
 have pos:=wide_pos hw
 have wM:IntKind.i64.wrap (M+1)=M+1:=wrap_in (by omega) (by omega)
 obtain ⟨m,i2,h2,b0,b1,b2,b3,b4,n0,n1,c2⟩:=below c1 h1 (n:=M+1) (by omega)
 obtain ⟨r,r1,r2,r3,r4⟩:=runW_ends (f:=R91_0 w) (fun s:Int × List AV × List AV × Int × Int=>0≤s.1∧s.2.1.length+s.1=m∧s.2.2.1=b∧Cur b s.2.2.2.1∧∀ y ∈ s.2.1,In64 (fI y 0)) (fun r=>r.1.length≤100∧r.2.1=b∧∀ y ∈ r.1,In64 (fI y 0)) (fun s=>s.1.toNat) (fun s hI=>by
   obtain ⟨t,L,b',k,g⟩:=s
   obtain ⟨t0,tl,rfl,hk,hv⟩:=hI
   simp only at t0 tl hk hv
   by_cases ct:t > 0
   ·obtain ⟨y,k1,g1,e0,e1,e2,e3,e4,_,_,hk1⟩:=below hk g pos
    have d1:decide (t > 0)=true:=decide_eq_true ct
    have d3:(!decide ((3:Int)=0))=true:=rfl
    refine .inl ⟨(t - 1,L++[AV.int .i64 (IntKind.i64.wrap (y - IntKind.i64.wrap (Int.tdiv w 3)))],b',k1,g1),?_,⟨by simp only;omega,by simp only [List.length_append,List.length_singleton];omega,rfl,hk1,snoc_in hv (in64_wrap _)⟩,by simp only;omega⟩
    show F91_0 w t L b' k g=_
    unfold F91_0 G91_0
    simp only [d1,d3,e0,e1,e2,e3,e4,rm8 L _ (by omega),wrap1 ct (by omega),cond_true] <;> rfl
   ·have d1:decide (t > 0)=false:=decide_eq_false ct
    refine .inr ⟨(L,b',k,g),?_,by simp only;omega,rfl,hv⟩
    show F91_0 w t L b' k g=_
    unfold F91_0 G91_0
    simp only [d1,cond_false]) ((m - 0).toNat+1) (m,[],b,i2,h2) ⟨n0,by simp,rfl,c2,fun y hy=>by cases hy⟩ (by simp only;omega)
 obtain ⟨xs,b',i3,h3⟩:=r
 simp only at r2 r3 r4
 subst r3
 unfold W91 T91
 simp only [a0,a1,a2,a3,a4,wM,b0,b1,b2,b3,b4,r1,cond_true,ro]
 exact ⟨_,_,_,rfl,r2,r4⟩
theorem drawK (code:List AV) (h:code.length≤1048576):∃ v,W29 code=some v∧v.length≤100∧∀ y ∈ v,In64 (fI y 0):=by
 obtain ⟨p,hp⟩:=start_of (f:=R29i61_0 code) code (fun g k k0 k1=>by
  have d1:decide (k<(code.length:Int))=true:=decide_eq_true k1
  have d2:decide (0≤k)=true:=decide_eq_true k0
  have wk_:IntKind.i64.wrap (k+1)=k+1:=wrap_in (by omega) (by omega)
  show (∃ g',F29i61_0 code g k=_)∨F29i61_0 code g k=_
  unfold F29i61_0 G29i61_0
  rw [d1,d2,wk_]
  cases decide (k<4000)
  ·exact .inr rfl
  ·exact .inl ⟨_,rfl⟩) (fun g k k1=>by
  have d1:decide (k<(code.length:Int))=false:=decide_eq_false k1
  show F29i61_0 code g k=_
  unfold F29i61_0 G29i61_0
  rw [d1]
  rfl) (IntKind.i64.wrap (10101+(code.length:Int)))
 obtain ⟨v,i1,h1,hW,lv,hv⟩:=values64 (b:=code) (i:=0) ⟨Int.le_refl 0,by omega,h⟩ p (M:=6) (by decide) (by decide)
 obtain ⟨a0,a1,a2,a3,a4⟩:=g91 hW
 unfold W29 T29
 simp only [hp,ro,a0,a1,cond_true]
 exact ⟨_,rfl,lv,hv⟩
end Go.Proofs.YtealoedecngaoaaGreatDoor

namespace Go.Proofs.YtealoedecngaoaaGreatDoor
open Go Go.Proofs.VE
set_option linter.unusedVariables false
set_option linter.unusedSimpArgs false
theorem loopL (code V R P l:List AV) (hl:l.length≤1048577):runW (R4_0 code V R P l l) (((l.length:Int) - 0).toNat+1) 0=some (.inl ()):=by
 obtain ⟨r,r1,r2⟩:=runW_ends (f:=R4_0 code V R P l l) (fun s:Int=>0≤s∧s≤l.length) (fun r=>r = .inl ()) (fun s=>((l.length:Int) - s).toNat) (fun k hI=>by
   obtain ⟨k0,k1⟩:=hI
   by_cases ck:k<l.length
   ·have d1:decide (k<(l.length:Int))=true:=decide_eq_true ck
    have d2:decide (0≤k)=true:=decide_eq_true k0
    have wk_:IntKind.i64.wrap (k+1)=k+1:=wrap_in (by omega) (by omega)
    refine .inl ⟨k+1,?_,⟨by omega,by omega⟩,by omega⟩
    show F4_0 code V R P l l k=_
    unfold F4_0 G4_0
    simp only [d1,d2,wk_,beq_self_eq_true,Bool.and_self,Bool.not_true,cond_true,cond_false]
   ·have d1:decide (k<(l.length:Int))=false:=decide_eq_false ck
    refine .inr ⟨.inl (),?_,rfl⟩
    show F4_0 code V R P l l k=_
    unfold F4_0 G4_0
    simp only [d1,cond_false]) (((l.length:Int) - 0).toNat+1) 0 ⟨Int.le_refl 0,by omega⟩ (by omega)
 rw [r1,r2]
theorem loopM (V R P A B l:List AV) (hl:l.length≤1048577):runW (R4_2 V R P A B l l) (((l.length:Int) - 0).toNat+1) 0=some (.inl ()):=by
 obtain ⟨r,r1,r2⟩:=runW_ends (f:=R4_2 V R P A B l l) (fun s:Int=>0≤s∧s≤l.length) (fun r=>r = .inl ()) (fun s=>((l.length:Int) - s).toNat) (fun k hI=>by
   obtain ⟨k0,k1⟩:=hI
   by_cases ck:k<l.length
   ·have d1:decide (k<(l.length:Int))=true:=decide_eq_true ck
    have d2:decide (0≤k)=true:=decide_eq_true k0
    have wk_:IntKind.i64.wrap (k+1)=k+1:=wrap_in (by omega) (by omega)
    refine .inl ⟨k+1,?_,⟨by omega,by omega⟩,by omega⟩
    show F4_2 V R P A B l l k=_
    unfold F4_2 G4_2
    simp only [d1,d2,wk_,decide_true,beq_self_eq_true,Bool.and_self,Bool.not_true,cond_true,cond_false]
   ·have d1:decide (k<(l.length:Int))=false:=decide_eq_false ck
    refine .inr ⟨.inl (),?_,rfl⟩
    show F4_2 V R P A B l l k=_
    unfold F4_2 G4_2
    simp only [d1,cond_false]) (((l.length:Int) - 0).toNat+1) 0 ⟨Int.le_refl 0,by omega⟩ (by omega)
 rw [r1,r2]
theorem raw4_true (code:List AV):raw4 code=some (.bool true):=by
 unfold raw4
 by_cases c:(code.length:Int) > 1048576
 ·unfold v7_0
  rw [decide_eq_true c]
  rfl
 have c6:v7_0 code=false:=decide_eq_false c
 obtain ⟨V,R,P,hW,lV,lR,lP⟩:=drawV code (by omega)
 obtain ⟨d0,d1,d2,d3⟩:=g24 hW
 obtain ⟨cs,hK,lc,hc⟩:=drawK code (by omega)
 obtain ⟨f0,f1⟩:=g29 hK
 obtain ⟨V',R',P',X,s,hX,hb⟩:=drawX code (by omega)
 obtain ⟨g0,g1,g2,g3,g4,g5⟩:=g30 hX
 simp only [c6,d0,d1,d2,d3,f0,f1,g0,g1,g2,g3,g4,g5,cond_true,cond_false]
 obtain ⟨p1,p2,p3,p4⟩:=piecel V R P lV lR lP (fun h=>col_val ((isC_iff V R P lV).1 h))
 obtain ⟨n1,n2⟩:=pieceN V R P lV lR lP
 obtain ⟨v1,v2,v3⟩:=pivN V R P lV lR lP
 obtain ⟨b1,b2,b3,b4⟩:=board_lines (s:=s) hb
 obtain ⟨k1,k2,k3⟩:=cost cs (by omega) (fun i=>by
  by_cases hi:i.toNat<cs.length
  ·refine hc _ ?_
   rw [List.getD_eq_getElem?_getD,List.getElem?_eq_getElem hi]
   exact List.getElem_mem hi
  ·rw [List.getD_eq_getElem?_getD,List.getElem?_eq_none (by omega)]
   exact ⟨by decide,by decide⟩)
 rw [p1,p2,p3,v1,v2,v3,loopL code V R P _ p4]
 simp only [decide_true,beq_self_eq_true,Bool.not_true,cond_true,cond_false,ro,sumE]
 rw [b1,b2,b3,loopM _ _ _ _ _ _ (by omega)]
 simp only [ro,sumE,k1,k2,k3,n1,n2,decide_true,beq_self_eq_true,cond_true]
theorem law4 {x0:AV} (t0:TA Tryz.prog 22 x0):m4 [x0]=some (true,.bool true):=by
 obtain ⟨code,rfl,a1,hb⟩:=tw_sl (ta_one (ct := .sl [.int .u8]) t0 (by kernel_rfl) (by kernel_rfl))
 show (raw4 code).map (fun r=>(true,r))=_
 rw [raw4_true code]
 rfl
end Go.Proofs.YtealoedecngaoaaGreatDoor
