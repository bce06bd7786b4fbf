import Derived.Test.YtkdnhnkhcldonaaCAi
namespace Go.Proofs.Ytkdnhnkhcldonaa
open Go Go.Proofs.VE
set_option linter.unusedVariables false
set_option linter.unusedSimpArgs false
abbrev C3:=List AV × List AV × List AV
def crk (c:C3) (t:AV):C3:=(v39_0 c.1 c.2.1 c.2.2 (fI t 0),v39_1 c.1 c.2.1 c.2.2 (fI t 0),v39_2 c.1 c.2.1 c.2.2 (fI t 0))
def jnl (c:C3) (t:AV):List AV:=v38_0 c.1 c.2.1 c.2.2 (fI t 0)
def wk:C3→List AV→C3
 | c,[]=>c
 | c,t :: ts=>wk (crk c t) ts
def jl:C3→List AV→List AV
 | _,[]=>[]
 | c,t :: ts=>jnl c t++jl (crk c t) ts
structure Ok (c:C3):Prop where
 col:Col c.1 c.2.1 c.2.2
 two:N2 c.2.2
def inB (t:AV):Prop := -1000≤fI t 0∧fI t 0≤1000
def has (c:C3) (t:AV):Prop:=(findP c.2.2 (fI t 0)).isSome=true
theorem isSome_iff (ps:List AV) (v:Int):(findP ps v).isSome=true ↔ ∃ p ∈ ps,fI p 0=v:=by
 constructor
 ·intro h
  obtain ⟨j,hj⟩:=Option.isSome_iff_exists.1 h
  unfold findP at hj
  obtain ⟨h1,h2,h3⟩:=findF_some _ _ hj
  exact ⟨_,mem_at h1 (by omega),of_decide_eq_true h3⟩
 ·rintro ⟨p,hp,e⟩
  cases hf:(findP ps v).isSome with
  | true=>rfl
  | false =>
   obtain ⟨k,hk,rfl⟩:=List.mem_iff_getElem.1 hp
   have:=findP_none hf k (by omega) (by omega)
   unfold el at this
   rw [show ((k:Int)).toNat=k by omega,List.getD_eq_getElem?_getD,List.getElem?_eq_getElem hk] at this
   exact absurd e this
theorem mem_ins {ps:List AV} {v a:Int} {p:AV}:p ∈ insP ps v a ↔ p=mk2 v a∨p ∈ ps:=by
 unfold insP
 rw [List.mem_append,List.mem_append,List.mem_singleton]
 constructor
 ·rintro ((h|h)|h)
  ·exact .inr (List.mem_of_mem_take h)
  ·exact .inl h
  ·exact .inr (List.mem_of_mem_drop h)
 ·rintro (h|h)
  ·exact .inl (.inr h)
  ·rw [← List.take_append_drop (place ps v).toNat ps,List.mem_append] at h
   rcases h with h|h
   ·exact .inl (.inl h)
   ·exact .inr h
theorem pat_ins {ps:List AV} {v a:Int} (hf:(findP ps v).isSome=false):ro (findP (insP ps v a) v) 0 (pat (insP ps v a))=a:=by
 have hs:(findP (insP ps v a) v).isSome=true:=(isSome_iff _ _).2 ⟨mk2 v a,mem_ins.2 (.inl rfl),rfl⟩
 obtain ⟨j,hj⟩:=Option.isSome_iff_exists.1 hs
 have hj':=hj
 unfold findP at hj'
 obtain ⟨h1,h2,h3⟩:=findF_some _ _ hj'
 have h3:=of_decide_eq_true h3
 have hl:=insP_len ps v a
 obtain ⟨p0,p1,_,_⟩:=place_spec ps v
 rw [insP_at ps v a j h1] at h3
 rw [hj]
 show pat (insP ps v a) j=a
 unfold pat
 rw [insP_at ps v a j h1]
 split at h3
 ·exact absurd h3 (findP_none hf j h1 (by omega))
 ·split at h3
  ·rename_i e1 e2
   rw [if_neg e1,if_pos e2]
   rfl
  ·exact absurd h3 (findP_none hf (j - 1) (by omega) (by omega))
theorem crk_old {c:C3} {t:AV} (h:Ok c) (ht:inB t) (hh:has c t):crk c t=c∧jnl c t=[]:=by
 obtain ⟨⟨_,c0,c1,c2,_,_⟩,_⟩:=crack_old h.col ht hh
 obtain ⟨⟨_,j0⟩,_⟩:=journal_old h.col ht hh
 exact ⟨by unfold crk;rw [c0,c1,c2],j0⟩
theorem crk_new {c:C3} {t:AV} (h:Ok c) (ht:inB t) (hh:(findP c.2.2 (fI t 0)).isSome=false) :
  ∃ (a b at_:Int) (ss:List AV),Cr c.1 c.2.1 c.2.2 (fI t 0) a b at_ ss∧jnl c t=jr (fI t 0) a b at_ ss∧crk c t=(appS ss c.1,appS ss c.2.1,insP c.2.2 (fI t 0) at_):=by
 obtain ⟨a,b,at_,ss,hcr⟩:=crack_new h.col h.two ht hh
 have hl:=h.col.n64
 have hlen:=h.col.len
 have hfew:=col_few h.col
 have h64:=hcr.s64
 have hnew:=col_few hcr.ok
 obtain ⟨n1,n2,n3⟩:=P73 c.1 c.2.1 c.2.2 (fI t 0) (by omega)
 obtain ⟨m1,m2,m3⟩:=P73 (appS ss c.1) (appS ss c.2.1) (insP c.2.2 (fI t 0) at_) (fI t 0) (by omega)
 obtain ⟨k1,k2,k3⟩:=hcr.pc
 obtain ⟨c0,c1,c2,c3,c4,c5⟩:=hcr.c
 refine ⟨a,b,at_,ss,hcr,?_,?_⟩
 ·unfold jnl v38_0
  rw [c5,n3,hh,k2,k3,c1,c2,c3,c4,run38 _ _ _ _ _ _ (by omega),m2,pat_ins hh]
  rfl
 ·unfold crk
  rw [c1,c2,c3]
theorem crk_ok {c:C3} {t:AV} (h:Ok c) (ht:inB t):Ok (crk c t)∧has (crk c t) t∧∀ u,has c u→has (crk c t) u:=by
 cases hh:(findP c.2.2 (fI t 0)).isSome with
 | true=>rw [(crk_old h ht hh).1];exact ⟨h,hh,fun u hu=>hu⟩
 | false =>
  obtain ⟨a,b,at_,ss,hcr,_,e⟩:=crk_new h ht hh
  rw [e]
  exact ⟨⟨hcr.ok,hcr.n2⟩,(isSome_iff _ _).2 ⟨_,mem_ins.2 (.inl rfl),rfl⟩,fun u hu=>by
   obtain ⟨p,hp,e⟩:=(isSome_iff _ _).1 hu
   exact (isSome_iff _ _).2 ⟨p,mem_ins.2 (.inr hp),e⟩⟩
theorem wk_ok:∀ (ts:List AV) (c:C3),Ok c→(∀ t ∈ ts,inB t)→Ok (wk c ts)∧∀ u,has c u→has (wk c ts) u
 | [],c,h,_=>⟨h,fun u hu=>hu⟩
 | t :: ts,c,h,ht=>by
  obtain ⟨a1,a2,a3⟩:=crk_ok h (ht t List.mem_cons_self)
  obtain ⟨b1,b2⟩:=wk_ok ts (crk c t) a1 (fun u hu=>ht u (List.mem_cons_of_mem _ hu))
  exact ⟨b1,fun u hu=>b2 u (a3 u hu)⟩
def Eqv (xs ys:List AV):Prop:=xs.length=ys.length∧∀ k:Int,0≤k→k<xs.length→el xs k=el ys k
def Eq3 (c d:C3):Prop:=Eqv c.1 d.1∧Eqv c.2.1 d.2.1∧c.2.2=d.2.2
theorem Eqv.refl (xs:List AV):Eqv xs xs:=⟨rfl,fun _ _ _=>rfl⟩
theorem Eq3.refl (c:C3):Eq3 c c:=⟨Eqv.refl _,Eqv.refl _,rfl⟩
theorem Eqv.sw {xs ys:List AV} (h:Eqv xs ys) {i j:Int} (i0:0≤i) (i1:i<xs.length) (j0:0≤j) (j1:j<xs.length):Eqv (v103_0 i j xs) (v103_0 i j ys):=by
 refine ⟨by rw [sw_len,sw_len];exact h.1,fun k k0 k1=>?_⟩
 rw [sw_len] at k1
 have:=h.1
 rw [el_sw xs i j k i0 i1 j0 j1 k0,el_sw ys i j k i0 (by omega) j0 (by omega) k0,h.2 i i0 i1,h.2 j j0 j1,h.2 k k0 k1]
theorem Eqv.app:∀ (ss xs ys:List AV),Eqv xs ys→inS 0 xs.length ss→Eqv (appS ss xs) (appS ss ys)
 | [],_,_,h,_=>h
 | s :: ss,xs,ys,h,hs=>by
  obtain ⟨a,b,c,d⟩:=hs s List.mem_cons_self
  rw [appS_cons,appS_cons]
  exact Eqv.app ss _ _ (h.sw a b c d) (by rw [sw_len];exact fun x hx=>hs x (List.mem_cons_of_mem _ hx))
theorem undo:∀ (ss xs:List AV),inS 0 xs.length ss→Eqv (appS ss.reverse (appS ss xs)) xs
 | [],xs,_=>Eqv.refl xs
 | s :: ss,xs,hs=>by
  obtain ⟨i0,i1,j0,j1⟩:=hs s List.mem_cons_self
  have ih:=undo ss (v103_0 (fI s 0) (fI s 1) xs) (by rw [sw_len];exact fun x hx=>hs x (List.mem_cons_of_mem _ hx))
  rw [List.reverse_cons,appS_snoc,appS_cons]
  generalize appS ss.reverse (appS ss (v103_0 (fI s 0) (fI s 1) xs))=Y at ih
  generalize fI s 0=i at *
  generalize fI s 1=j at *
  have ly:Y.length=xs.length:=by rw [ih.1,sw_len]
  have e:∀ m:Int,0≤m→m<xs.length→el Y m=if m=j then el xs i else if m=i then el xs j else el xs m:=fun m m0 m1=>by
   rw [ih.2 m m0 (by omega),el_sw xs i j m i0 i1 j0 j1 m0]
  refine ⟨by rw [sw_len,ly],fun k k0 k1=>?_⟩
  rw [sw_len,ly] at k1
  rw [el_sw Y i j k i0 (by omega) j0 (by omega) k0,e i i0 i1,e j j0 j1,e k k0 k1]
  by_cases c1:k=j
  ·rw [if_pos c1]
   by_cases c2:i=j
   ·rw [if_pos c2,c1,c2]
   ·rw [if_neg c2,if_pos rfl,c1]
  ·rw [if_neg c1,if_neg c1]
   by_cases c2:k=i
   ·rw [if_pos c2,if_pos rfl,c2]
   ·rw [if_neg c2,if_neg c2]
theorem Eqv.at {xs ys:List AV} (h:Eqv xs ys) (n:Nat):fI (xs.getD n AV.undef) 0=fI (ys.getD n AV.undef) 0:=by
 by_cases hn:n<xs.length
 ·exact h.2 n (by omega) (by omega)
 ·have:=h.1
  rw [List.getD_eq_getElem?_getD,List.getD_eq_getElem?_getD,List.getElem?_eq_none (by omega),List.getElem?_eq_none (by omega)]
theorem part_eqv {xs ys:List AV} (h:Eqv xs ys) (a b v:Int):v76_0 xs a b v=v76_0 ys a b v∧v76_1 xs a b v=v76_1 ys a b v:=by
 have hR:R76_0 xs v=R76_0 ys v:=by
  funext s
  simp only [R76_0,F76_0,h.1,h.at]
 unfold v76_0 v76_1
 rw [hR,h.1]
 exact ⟨rfl,rfl⟩
theorem crk_eqv {c d:C3} {t:AV} (h:Ok c) (hd:Ok d) (ht:inB t) (e:Eq3 c d):Eq3 (crk c t) (crk d t):=by
 obtain ⟨e1,e2,e3⟩:=e
 cases hh:(findP c.2.2 (fI t 0)).isSome with
 | true =>
  rw [(crk_old h ht hh).1,(crk_old hd ht (show (findP d.2.2 (fI t 0)).isSome=true by rw [← e3];exact hh)).1]
  exact ⟨e1,e2,e3⟩
 | false =>
  obtain ⟨a,b,at_,ss,hcr,_,e⟩:=crk_new h ht hh
  obtain ⟨a',b',at',ss',hcr',_,e'⟩:=crk_new hd ht (show (findP d.2.2 (fI t 0)).isSome=false by rw [← e3];exact hh)
  obtain ⟨_,x1,x2⟩:=hcr.pc'
  obtain ⟨_,y1,y2⟩:=hcr'.pc'
  have ea:a=a':=by rw [← x1,← y1];unfold v67_0;rw [e1.1,e3]
  have eb:b=b':=by rw [← x2,← y2];unfold v67_1;rw [e1.1,e3]
  subst ea eb
  obtain ⟨z1,z2⟩:=hcr.sw
  obtain ⟨w1,w2⟩:=hcr'.sw
  obtain ⟨p1,p2⟩:=part_eqv e1 a b (fI t 0)
  have es:ss=ss':=by rw [← z1,← w1,p1]
  have et:at_=at':=by rw [← z2,← w2,p2]
  subst es et
  have hin:inS 0 c.1.length ss:=fun s hs=>by
   obtain ⟨x1,x2,x3,x4⟩:=hcr.par.ins s hs
   have:=hcr.pi.a0
   have:=hcr.pi.b1
   exact ⟨by omega,by omega,by omega,by omega⟩
  have hin2:inS 0 c.2.1.length ss:=fun s hs=>by
   obtain ⟨x1,x2,x3,x4⟩:=hin s hs
   have:=h.col.len
   exact ⟨by omega,by omega,by omega,by omega⟩
  rw [e,e',e3]
  exact ⟨Eqv.app ss _ _ e1 hin,Eqv.app ss _ _ e2 hin2,rfl⟩
theorem wk_eqv:∀ (ts:List AV) (c d:C3),Ok c→Ok d→(∀ t ∈ ts,inB t)→Eq3 c d→Eq3 (wk c ts) (wk d ts)
 | [],_,_,_,_,_,e=>e
 | t :: ts,c,d,h,hd,ht,e=>wk_eqv ts (crk c t) (crk d t) (crk_ok h (ht t List.mem_cons_self)).1 (crk_ok hd (ht t List.mem_cons_self)).1 (fun u hu=>ht u (List.mem_cons_of_mem _ hu)) (crk_eqv h hd (ht t List.mem_cons_self) e)
theorem eqL_of {xs ys:List AV} (h:Eqv xs ys):eqL ee1 xs ys=true:=by
 unfold eqL
 rw [decide_eq_true (by rw [h.1]),findF_none _ _ fun j j0 j1=>by
  show (!decide (el xs j=el ys j))=false
  rw [decide_eq_true (h.2 j j0 (by omega))]
  rfl]
 rfl
theorem eq9 {c d:C3} (h:Ok c) (e:Eq3 c d):q9 c.1 c.2.1 c.2.2 d.1 d.2.1 d.2.2=true∧v9_0 c.1 c.2.1 c.2.2 d.1 d.2.1 d.2.2=true:=by
 obtain ⟨e1,e2,e3⟩:=e
 have h1:=h.col.n64
 have h2:=h.col.len
 have h3:=col_few h.col
 unfold q9 v9_0
 rw [(P40 c.1 d.1 (by omega)).1,(P40 c.1 d.1 (by omega)).2,(P40 c.2.1 d.2.1 (by omega)).1,(P40 c.2.1 d.2.1 (by omega)).2,(P41 c.2.2 d.2.2 (by omega)).1,(P41 c.2.2 d.2.2 (by omega)).2,eqL_of e1,eqL_of e2,← e3,eqL_self ee2_self]
 exact ⟨rfl,rfl⟩
def St {S R:Type} (f:S→Out S R) (m:Nat) (s s':S):Prop:=∀ n,runW f (n+m) s=runW f n s'
theorem St.one {S R:Type} {f:S→Out S R} {s s':S} (h:f s = .next s'):St f 1 s s':=fun n=>by
 show (f s).el none _ some=_
 rw [h]
 rfl
theorem St.trans {S R:Type} {f:S→Out S R} {m k:Nat} {s s1 s2:S} (h1:St f m s s1) (h2:St f k s1 s2):St f (m+k) s s2:=fun n=>by
 rw [show n+(m+k)=(n+k)+m by omega,h1,h2]
theorem drop_cons {es:List AV} {k:Int} (k0:0≤k) {e:AV} {r:List AV} (h:es.drop k.toNat=e :: r):k<es.length∧es.getD k.toNat .undef=e∧es.drop (k+1).toNat=r:=by
 have hl:k.toNat<es.length:=by
  have:=congrArg List.length h
  rw [List.length_drop,List.length_cons] at this
  omega
 rw [List.drop_eq_getElem_cons hl] at h
 obtain ⟨h1,h2⟩:=List.cons.inj h
 refine ⟨by omega,?_,?_⟩
 ·rw [List.getD_eq_getElem?_getD,List.getElem?_eq_getElem hl]
  exact h1
 ·rw [show (k+1).toNat=k.toNat+1 by omega]
  exact h2
abbrev RS8:=(Int × (List AV) × (List AV) × (List AV) × Bool × Int × Int × Int × Int × Int) ⊕ (Int × (List AV) × (List AV) × (List AV) × Bool × Int × Int × Int × Int × Int × (List AV))
def Vw (s:RS8) (k:Int) (x y z:List AV) (op:Bool) (v a b:Int) (w:List AV):Prop:=∃ kd e:Int,s = .inl (k,x,y,z,op,kd,v,a,b,e)∧w=[]∨s = .inr (k,x,y,z,op,kd,v,a,b,e,w)
theorem stepB {es:List AV} (hm:es.length≤1048576) {s:RS8} {k:Int} {x y z:List AV} {v0 a0 b0:Int} {w:List AV} (hs:Vw s k x y z false v0 a0 b0 w) (k0:0≤k) (k1:k<es.length) {v a b:Int} (e:es.getD k.toNat .undef=jB v a b)
  (hb:v89_0 v=true) (q1:q66 x y z v=true) (q2:v66_0 x y z v=false) (q3:q67 x y z v=true) (q4:v67_0 x y z v=a) (q5:v67_1 x y z v=b) :
  ∃ s',R42_0 es es.length s = .next s'∧Vw s' (k+1) x y z true v a b []:=by
 have wk:IntKind.i64.wrap (k+1)=k+1:=wrap_in (by omega) (by omega)
 have d1:decide (k<(es.length:Int))=true:=decide_eq_true k1
 have d2:decide (0≤k)=true:=decide_eq_true k0
 have e0:fI (es.getD k.toNat AV.undef) 0=1:=by rw [e];rfl
 have e1:fI (es.getD k.toNat AV.undef) 1=v:=by rw [e];rfl
 have e2:fI (es.getD k.toNat AV.undef) 2=a:=by rw [e];rfl
 have e3:fI (es.getD k.toNat AV.undef) 3=b:=by rw [e];rfl
 have o:decide ((1:Int)=1)=true:=rfl
 have oa:decide (a=a)=true:=decide_eq_true rfl
 have ob:decide (b=b)=true:=decide_eq_true rfl
 obtain ⟨kd,ends,⟨rfl,_⟩|rfl⟩:=hs
 ·refine ⟨.inl (k+1,x,y,z,true,1,v,a,b,ends),?_,1,ends,.inl ⟨rfl,rfl⟩⟩
  show F42_0_s0 es es.length k x y z false kd v0 a0 b0 ends=_
  unfold F42_0_s0
  rw [d1,d2,e0,e1,e2,e3,hb,q1,q2,q3,q4,q5,wk,o,oa,ob]
  rfl
 ·refine ⟨.inl (k+1,x,y,z,true,1,v,a,b,ends),?_,1,ends,.inl ⟨rfl,rfl⟩⟩
  show F42_0_s1 es es.length k x y z false kd v0 a0 b0 ends w=_
  unfold F42_0_s1
  rw [d1,d2,e0,e1,e2,e3,hb,q1,q2,q3,q4,q5,wk,o,oa,ob]
  rfl
theorem stepS {es:List AV} (hm:es.length≤1048576) {s:RS8} {k:Int} {x y z:List AV} {v a b:Int} {w:List AV} (hs:Vw s k x y z true v a b w) (k0:0≤k) (k1:k<es.length) {i j:Int} (e:es.getD k.toNat .undef=AV.agg [AV.int .i64 2,AV.int .i64 i,AV.int .i64 j,AV.int .i64 0])
  (ij:i<j) (ia:a≤i) (jb:j<b) (a0:0≤a) (bx:b≤x.length) (hx:x.length≤64) (hy:(y.length:Int)=x.length) (hz:z.length≤1048576) (hw:w.length≤64) :
  ∃ s',R42_0 es es.length s = .next s'∧Vw s' (k+1) (v103_0 i j x) (v103_0 i j y) z true v a b (w++[mk2 i j]):=by
 have wk:IntKind.i64.wrap (k+1)=k+1:=wrap_in (by omega) (by omega)
 have d1:decide (k<(es.length:Int))=true:=decide_eq_true k1
 have d2:decide (0≤k)=true:=decide_eq_true k0
 have e0:fI (es.getD k.toNat AV.undef) 0=2:=by rw [e];rfl
 have e1:fI (es.getD k.toNat AV.undef) 1=i:=by rw [e];rfl
 have e2:fI (es.getD k.toNat AV.undef) 2=j:=by rw [e];rfl
 have e3:fI (es.getD k.toNat AV.undef) 3=0:=by rw [e];rfl
 have o1:decide ((2:Int)=1)=false:=rfl
 have o2:decide ((2:Int)=2)=true:=rfl
 have o3:decide ((0:Int)=0)=true:=rfl
 have c1:decide (i ≥ j)=false:=decide_eq_false (by omega)
 have c2:decide (i<a)=false:=decide_eq_false (by omega)
 have c3:decide (j ≥ b)=false:=decide_eq_false (by omega)
 obtain ⟨p1,p2,p3,p4,p5⟩:=P71 x y z [AV.agg [AV.int .i64 i,AV.int .i64 j]] (by omega) hz hy (by simp) (fun s hs=>by
  rw [List.mem_singleton.1 hs]
  exact ⟨by show 0≤i;omega,by show i<_;omega,by show 0≤j;omega,by show j<_;omega⟩)
 obtain ⟨kd,ends,⟨rfl,rfl⟩|rfl⟩:=hs
 ·refine ⟨.inr (k+1,v103_0 i j x,v103_0 i j y,z,true,kd,v,a,b,ends,[mk2 i j]),?_,kd,ends,.inr rfl⟩
  show F42_0_s0 es es.length k x y z true kd v a b ends=_
  unfold F42_0_s0
  rw [d1,d2,e0,e1,e2,e3,wk,o1,o2,o3,c1,c2,c3,p1,p2,p3,p4,p5]
  rfl
 ·refine ⟨.inr (k+1,v103_0 i j x,v103_0 i j y,z,true,kd,v,a,b,ends,w++[mk2 i j]),?_,kd,ends,.inr rfl⟩
  show F42_0_s1 es es.length k x y z true kd v a b ends w=_
  unfold F42_0_s1
  rw [d1,d2,e0,e1,e2,e3,wk,o1,o2,o3,c1,c2,c3,p1,p2,p3,p4,p5,room2 w _ (by omega)]
  rfl
theorem stepE {es:List AV} (hm:es.length≤1048576) {s:RS8} {k:Int} {x y z:List AV} {v a b:Int} {w:List AV} (hs:Vw s k x y z true v a b w) (k0:0≤k) (k1:k<es.length) {t:Int} (e:es.getD k.toNat .undef=jE v t)
  (q1:q104 x y z v t=true) (q2:v104_0 x y z v t=x) (q3:v104_1 x y z v t=y) (q4:v104_2 x y z v t=insP z v t) (q5:v104_3 x y z v t=true) :
  ∃ s',R42_0 es es.length s = .next s'∧Vw s' (k+1) x y (insP z v t) false v a b w:=by
 have wk:IntKind.i64.wrap (k+1)=k+1:=wrap_in (by omega) (by omega)
 have d1:decide (k<(es.length:Int))=true:=decide_eq_true k1
 have d2:decide (0≤k)=true:=decide_eq_true k0
 have e0:fI (es.getD k.toNat AV.undef) 0=3:=by rw [e];rfl
 have e1:fI (es.getD k.toNat AV.undef) 1=v:=by rw [e];rfl
 have e2:fI (es.getD k.toNat AV.undef) 2=t:=by rw [e];rfl
 have e3:fI (es.getD k.toNat AV.undef) 3=0:=by rw [e];rfl
 have o1:decide ((3:Int)=1)=false:=rfl
 have o2:decide ((3:Int)=2)=false:=rfl
 have o4:decide ((3:Int)=3)=true:=rfl
 have o3:decide ((0:Int)=0)=true:=rfl
 have ov:decide (v=v)=true:=decide_eq_true rfl
 obtain ⟨kd,ends,⟨rfl,rfl⟩|rfl⟩:=hs
 ·refine ⟨.inl (k+1,x,y,insP z v t,false,kd,v,a,b,IntKind.i64.wrap (ends+1)),?_,kd,_,.inl ⟨rfl,rfl⟩⟩
  show F42_0_s0 es es.length k x y z true kd v a b ends=_
  unfold F42_0_s0
  rw [d1,d2,e0,e1,e2,e3,wk,o1,o2,o4,o3,ov,q1,q2,q3,q4,q5]
  rfl
 ·refine ⟨.inr (k+1,x,y,insP z v t,false,kd,v,a,b,IntKind.i64.wrap (ends+1),w),?_,kd,_,.inr rfl⟩
  show F42_0_s1 es es.length k x y z true kd v a b ends w=_
  unfold F42_0_s1
  rw [d1,d2,e0,e1,e2,e3,wk,o1,o2,o4,o3,ov,q1,q2,q3,q4,q5]
  rfl
def sE (s:AV):AV:=AV.agg [AV.int .i64 2,AV.int .i64 (fI s 0),AV.int .i64 (fI s 1),AV.int .i64 0]
theorem jr_eq (v a b t:Int) (ss:List AV):jr v a b t ss=jB v a b :: (ss.map sE++[jE v t]):=by
 have e:(List.range ss.length).map (fun j:Nat=>jS ss (0+j))=ss.map sE:=by
  apply List.ext_getElem
  ·simp
  ·intro n h1 h2
   simp only [List.length_map,List.length_range] at h1
   rw [List.getElem_map,List.getElem_map,List.getElem_range]
   unfold jS sE
   rw [show ((0:Int)+(n:Nat)).toNat=n by omega,List.getD_eq_getElem?_getD,List.getElem?_eq_getElem h1]
   rfl
 unfold jr
 rw [appF_all,List.nil_append,e]
 rfl
theorem rep_swaps {es:List AV} (hm:es.length≤1048576) {x y z:List AV} (hx:x.length≤64) (hy:(y.length:Int)=x.length) (hz:z.length≤1048576) {v a b:Int} (a0:0≤a) (b1:b≤x.length) :
  ∀ (us w rest:List AV) (k:Int) (s:RS8),inS a b us→N2 us→(∀ u ∈ us,fI u 0<fI u 1)→w.length+us.length≤64→0≤k→es.drop k.toNat=us.map sE++rest→Vw s k (appS w x) (appS w y) z true v a b w →
  ∃ s',St (R42_0 es es.length) us.length s s'∧Vw s' (k+us.length) (appS (w++us) x) (appS (w++us) y) z true v a b (w++us)
 | [],w,rest,k,s,_,_,_,_,_,_,hv=>⟨s,fun n=>rfl,by simpa using hv⟩
 | u :: us,w,rest,k,s,hi,hn,ho,hl,k0,hd,hv=>by
  obtain ⟨i0,i1,j0,j1⟩:=hi u List.mem_cons_self
  have hd0:es.drop k.toNat=sE u :: (us.map sE++rest):=hd
  obtain ⟨g1,g2,g3⟩:=drop_cons k0 hd0
  have lx:=appS_len w x
  have ly:=appS_len w y
  rw [List.length_cons] at hl
  obtain ⟨s1,e1,v1⟩:=stepS hm hv k0 g1 g2 (ho u List.mem_cons_self) i0 j1 a0 (by omega) (by omega) (by omega) hz (by omega)
  rw [hn u List.mem_cons_self,← appS_snoc,← appS_snoc] at v1
  obtain ⟨s',e2,v2⟩:=rep_swaps hm hx hy hz a0 b1 us (w++[u]) rest (k+1) s1 (fun x hx=>hi x (List.mem_cons_of_mem _ hx)) (fun x hx=>hn x (List.mem_cons_of_mem _ hx)) (fun x hx=>ho x (List.mem_cons_of_mem _ hx)) (by rw [List.length_append,List.length_singleton];omega) (by omega) g3 v1
  refine ⟨s',?_,?_⟩
  ·have:=(St.one e1).trans e2
   rw [List.length_cons,Nat.add_comm]
   exact this
  ·rw [List.append_assoc] at v2
   rw [List.length_cons]
   have e:k+1+(us.length:Int)=k+((us.length+1:Nat):Int):=by omega
   rw [← e]
   exact v2
def cc:List AV→List AV
 | []=>[]
 | e :: es=>if fI e 0=3 then AV.int .i64 (fI e 1) :: cc es else cc es
theorem cc_app:∀ (xs ys:List AV),cc (xs++ys)=cc xs++cc ys
 | [],_=>rfl
 | x :: xs,ys=>by
  show (if fI x 0=3 then AV.int .i64 (fI x 1) :: cc (xs++ys) else cc (xs++ys))=(if fI x 0=3 then AV.int .i64 (fI x 1) :: cc xs else cc xs)++cc ys
  rw [cc_app xs ys]
  split <;> rfl
theorem cc_swaps:∀ ss:List AV,cc (ss.map sE)=[]
 | []=>rfl
 | s :: ss=>by
  show (if (2:Int)=3 then _ else cc (ss.map sE))=[]
  rw [if_neg (by decide)]
  exact cc_swaps ss
theorem cc_jr (v a b t:Int) (ss:List AV):cc (jr v a b t ss)=[AV.int .i64 v]:=by
 rw [jr_eq]
 show (if (1:Int)=3 then _ else cc (ss.map sE++[jE v t]))=_
 rw [if_neg (by decide),cc_app,cc_swaps]
 rfl
theorem drop_more {es:List AV} {k:Int} (k0:0≤k) {us rest:List AV} (h:es.drop k.toNat=us++rest):es.drop (k+us.length).toNat=rest:=by
 rw [show (k+us.length).toNat=k.toNat+us.length by omega,← List.drop_drop,h]
 simp
theorem rep_open {c:C3} {t:AV} (h:Ok c) (ht:inB t) (hh:(findP c.2.2 (fI t 0)).isSome=false) {a b at_:Int} {ss:List AV} (hcr:Cr c.1 c.2.1 c.2.2 (fI t 0) a b at_ ss) {es:List AV} (hm:es.length≤1048576) {s:RS8} {k v0 a0 b0:Int} {w0:List AV}
  (hv:Vw s k c.1 c.2.1 c.2.2 false v0 a0 b0 w0) (k0:0≤k) {us rest:List AV} (hus:∀ u ∈ us,u ∈ ss) (hul:us.length≤64) (hd:es.drop k.toNat=jB (fI t 0) a b :: (us.map sE++rest)) :
  ∃ s',St (R42_0 es es.length) (1+us.length) s s'∧Vw s' (k+1+us.length) (appS us c.1) (appS us c.2.1) c.2.2 true (fI t 0) a b us∧es.drop (k+1+us.length).toNat=rest:=by
 obtain ⟨g1,g2,g3⟩:=drop_cons k0 hd
 have hl:=h.col.n64
 have hlen:=h.col.len
 have hfew:=col_few h.col
 obtain ⟨p1,p2,p3⟩:=hcr.pc'
 obtain ⟨u1,u2⟩:=P66 c.1 c.2.1 c.2.2 (fI t 0) (by omega)
 obtain ⟨s1,e1,v1⟩:=stepB hm hv k0 g1 g2 (by rw [bound_eq,bound_of ht]) u1 (u2.trans hh) p1 p2 p3
 obtain ⟨s2,e2,v2⟩:=rep_swaps hm hl hlen (by omega) hcr.pi.a0 hcr.pi.b1 us [] rest (k+1) s1 (fun x hx=>hcr.par.ins x (hus x hx)) (fun x hx=>hcr.par.n2 x (hus x hx)) (fun x hx=>hcr.par.ord x (hus x hx)) (by simpa using hul) (by omega) g3 v1
 have g4:=drop_more (us:=us.map sE) (show 0≤k+1 by omega) g3
 rw [List.length_map] at g4
 exact ⟨s2,(St.one e1).trans e2,v2,g4⟩
theorem rep_full {c:C3} {t:AV} (h:Ok c) (ht:inB t) (hh:(findP c.2.2 (fI t 0)).isSome=false) {a b at_:Int} {ss:List AV} (hcr:Cr c.1 c.2.1 c.2.2 (fI t 0) a b at_ ss) {es:List AV} (hm:es.length≤1048576) {s:RS8} {k v0 a0 b0:Int} {w0:List AV}
  (hv:Vw s k c.1 c.2.1 c.2.2 false v0 a0 b0 w0) (k0:0≤k) {rest:List AV} (hd:es.drop k.toNat=jr (fI t 0) a b at_ ss++rest) :
  ∃ s' v a' b' w,St (R42_0 es es.length) (jr (fI t 0) a b at_ ss).length s s'∧Vw s' (k+(jr (fI t 0) a b at_ ss).length) (appS ss c.1) (appS ss c.2.1) (insP c.2.2 (fI t 0) at_) false v a' b' w:=by
 have hd0:es.drop k.toNat=jB (fI t 0) a b :: (ss.map sE++(jE (fI t 0) at_ :: rest)):=by
  rw [hd,jr_eq,List.cons_append,List.append_assoc]
  rfl
 obtain ⟨s2,e2,v2,d2⟩:=rep_open h ht hh hcr hm hv k0 (fun u hu=>hu) hcr.s64 hd0
 obtain ⟨g1,g2,g3⟩:=drop_cons (by omega) d2
 have hl:=h.col.n64
 have hlen:=h.col.len
 have hfew:=col_few h.col
 have la:=appS_len ss c.1
 have lr:=appS_len ss c.2.1
 have hcol1:=Col.swaps (ps:=c.2.2) hcr.pi.a0 hcr.pi.cut ss c.1 c.2.1 h.col hcr.pi.b1 hcr.par.ins
 obtain ⟨l1,l2,l3,l4,l5⟩:=P104 (appS ss c.1) (appS ss c.2.1) c.2.2 (fI t 0) at_ (by omega) (by omega) (by omega)
 rw [(isC_iff _ _ _ (by omega)).2 hcol1,(isC_iff _ _ _ (by omega)).2 hcr.ok] at l4 l5
 obtain ⟨s3,e3,v3⟩:=stepE hm v2 (by omega) g1 g2 l1 l2 l3 l4 l5
 have el_:(jr (fI t 0) a b at_ ss).length=1+ss.length+1:=by
  rw [jr_eq]
  simp only [List.length_cons,List.length_append,List.length_map,List.length_nil]
  omega
 refine ⟨s3,fI t 0,a,b,ss,?_,?_⟩
 ·rw [el_]
  exact e2.trans (St.one e3)
 ·rw [el_,show k+((1+ss.length+1:Nat):Int)=k+1+ss.length+1 by omega]
  exact v3
structure Cut (c:C3) (ts:List AV) (n:Nat) (c':C3) (T:List AV):Prop where
 ok:Ok c'
 e_wk:wk c T=c'
 e_re:wk c' ts=wk c ts
 inb:∀ t ∈ T,inB t
 len:T.length≤ts.length
 e_cc:cc ((jl c ts).take n)=T
def Fin8 (s:RS8) (k:Int) (c:C3):Prop:=(∃ v a b w,Vw s k c.1 c.2.1 c.2.2 false v a b w) ∨
 ∃ v a b w,Vw s k (appS w c.1) (appS w c.2.1) c.2.2 true v a b w∧N2 w∧w.length≤64∧0≤a∧b≤c.1.length∧inS a b w∧∀ p:Int,0≤p→p<c.2.2.length→pat c.2.2 p≤a∨b≤pat c.2.2 p
theorem cut:∀ (ts:List AV) (c:C3),Ok c→(∀ t ∈ ts,inB t)→∀ n,n≤(jl c ts).length→∃ c' T,Cut c ts n c' T ∧
  ∀ (es:List AV) (k:Int) (s:RS8) (v a b:Int) (w:List AV),es.length≤1048576→0≤k→es.drop k.toNat=(jl c ts).take n→Vw s k c.1 c.2.1 c.2.2 false v a b w→∃ s',St (R42_0 es es.length) n s s'∧Fin8 s' (k+n) c'
 | [],c,h,_,n,hn=>by
  have hn0:n=0:=Nat.le_zero.1 hn
  subst hn0
  exact ⟨c,[],⟨h,rfl,rfl,fun t ht=>by simp at ht,Nat.le_refl _,rfl⟩,fun es k s v a b w _ _ _ hv=>⟨s,fun n=>rfl,.inl ⟨v,a,b,w,by simpa using hv⟩⟩⟩
 | t :: ts,c,h,ht,n,hn=>by
  have ht0:=ht t List.mem_cons_self
  have hts:∀ u ∈ ts,inB u:=fun u hu=>ht u (List.mem_cons_of_mem _ hu)
  obtain ⟨o1,o2,o3⟩:=crk_ok h ht0
  have ej:jl c (t :: ts)=jnl c t++jl (crk c t) ts:=rfl
  cases hh:(findP c.2.2 (fI t 0)).isSome with
  | true =>
   obtain ⟨x1,x2⟩:=crk_old h ht0 hh
   rw [x2,List.nil_append,x1] at ej
   rw [ej] at hn ⊢
   obtain ⟨c',T,hc,hr⟩:=cut ts c h hts n hn
   refine ⟨c',T,⟨hc.ok,hc.e_wk,?_,hc.inb,Nat.le_succ_of_le hc.len,?_⟩,hr⟩
   ·show wk (crk c' t) ts=wk (crk c t) ts
    have hc':has c' t:=by rw [← hc.e_wk];exact (wk_ok T c h hc.inb).2 t hh
    rw [(crk_old hc.ok ht0 hc').1,x1]
    exact hc.e_re
   ·rw [ej]
    exact hc.e_cc
  | false =>
   obtain ⟨a,b,at_,ss,hcr,y1,y2⟩:=crk_new h ht0 hh
   by_cases hbig:(jnl c t).length≤n
   ·obtain ⟨m,rfl⟩:∃ m,n=(jnl c t).length+m:=⟨n - (jnl c t).length,by omega⟩
    rw [ej,List.length_append] at hn
    obtain ⟨c',T,hc,hr⟩:=cut ts (crk c t) o1 hts m (by omega)
    have et:(jl c (t :: ts)).take ((jnl c t).length+m)=jnl c t++(jl (crk c t) ts).take m:=by
     rw [ej,List.take_append,List.take_of_length_le (by omega),show (jnl c t).length+m - (jnl c t).length=m by omega]
    refine ⟨c',AV.int .i64 (fI t 0) :: T,⟨hc.ok,hc.e_wk,?_,?_,?_,?_⟩,?_⟩
    ·show wk (crk c' t) ts=wk (crk c t) ts
     have hc':has c' t:=by rw [← hc.e_wk];exact (wk_ok T _ o1 hc.inb).2 t o2
     rw [(crk_old hc.ok ht0 hc').1]
     exact hc.e_re
    ·intro u hu
     rcases List.mem_cons.1 hu with rfl|hu
     ·exact ht0
     ·exact hc.inb u hu
    ·have:=hc.len
     simp only [List.length_cons]
     omega
    ·rw [et,cc_app,hc.e_cc,y1,cc_jr]
     rfl
    ·intro es k s v a' b' w hm k0 hd hv
     rw [et,y1] at hd
     obtain ⟨s1,v1,a1,b1,w1,g1,g2⟩:=rep_full h ht0 hh hcr hm hv k0 hd
     obtain ⟨s',f1,f2⟩:=hr es (k+(jr (fI t 0) a b at_ ss).length) s1 v1 a1 b1 w1 hm (by omega) (drop_more k0 hd) (by rw [y2];exact g2)
     rw [y1]
     refine ⟨s',g1.trans f1,?_⟩
     rw [show k+(((jr (fI t 0) a b at_ ss).length+m:Nat):Int)=k+(jr (fI t 0) a b at_ ss).length+m by omega]
     exact f2
   ·cases n with
    | zero=>exact ⟨c,[],⟨h,rfl,rfl,fun t ht=>by simp at ht,Nat.zero_le _,rfl⟩,fun es k s v a b w _ _ _ hv=>⟨s,fun n=>rfl,.inl ⟨v,a,b,w,by simpa using hv⟩⟩⟩
    | succ m =>
     have hl:(jnl c t).length=ss.length+2:=by rw [y1,jr_eq];simp
     have hm':m≤ss.length:=by omega
     have h64:=hcr.s64
     have lt:(ss.take m).length=m:=by rw [List.length_take];omega
     have et:(jl c (t :: ts)).take (m+1)=jB (fI t 0) a b :: ((ss.take m).map sE++[]):=by
      rw [ej,y1,jr_eq,List.cons_append,List.take_succ_cons,List.append_assoc,List.take_append_of_le_length (by simpa using hm'),List.append_nil,List.map_take]
     refine ⟨c,[],⟨h,rfl,rfl,fun t ht=>by simp at ht,Nat.zero_le _,?_⟩,?_⟩
     ·rw [et,List.append_nil]
      show (if (1:Int)=3 then _ else cc ((ss.take m).map sE))=[]
      rw [if_neg (by decide)]
      exact cc_swaps _
     ·intro es k s v a' b' w hm k0 hd hv
      rw [et] at hd
      obtain ⟨s2,e2,v2,_⟩:=rep_open h ht0 hh hcr hm hv k0 (fun u hu=>List.mem_of_mem_take hu) (by omega) hd
      rw [lt] at e2 v2
      refine ⟨s2,by rw [Nat.add_comm];exact e2,.inr ⟨fI t 0,a,b,ss.take m,?_,fun x hx=>hcr.par.n2 x (List.mem_of_mem_take hx),by omega,hcr.pi.a0,hcr.pi.b1,fun x hx=>hcr.par.ins x (List.mem_of_mem_take hx),hcr.pi.cut⟩⟩
      rw [show k+((m+1:Nat):Int)=k+1+m by omega]
      exact v2
end Go.Proofs.Ytkdnhnkhcldonaa
