import Derived.Test.YtkdnhnkhcldonaaCAj
namespace Go.Proofs.Ytkdnhnkhcldonaa
open Go Go.Proofs.VE
set_option linter.unusedVariables false
set_option linter.unusedSimpArgs false
theorem jnl_len {c:C3} {t:AV} (h:Ok c) (ht:inB t):(jnl c t).length≤66:=(round h.col h.two ht).2.2.2.2.2.2.2.2.1
theorem jl_len:∀ (ts:List AV) (c:C3),Ok c→(∀ t ∈ ts,inB t)→(jl c ts).length≤66*ts.length
 | [],_,_,_=>Nat.zero_le _
 | t :: ts,c,h,ht=>by
  have h1:=jnl_len h (ht t List.mem_cons_self)
  have h2:=jl_len ts (crk c t) (crk_ok h (ht t List.mem_cons_self)).1 (fun u hu=>ht u (List.mem_cons_of_mem _ hu))
  show (jnl c t++jl (crk c t) ts).length≤_
  rw [List.length_append,List.length_cons]
  omega
theorem run13 {ts:List AV} (hl:ts.length≤60):∀ (us:List AV) (k:Int) (d:C3),0≤k→ts.drop k.toNat=us→Ok d→(∀ u ∈ us,inB u)→runW (R13_0 ts ts.length) (us.length+1) (k,d.1,d.2.1,d.2.2)=some (wk d us)
 | [],k,d,k0,hd,_,_=>by
  have hk:ts.length≤k.toNat:=List.drop_eq_nil_iff.1 hd
  have d1:decide (k<(ts.length:Int))=false:=decide_eq_false (by omega)
  show (F13_0 ts ts.length k d.1 d.2.1 d.2.2).el none _ some=_
  unfold F13_0
  rw [d1]
  rfl
 | u :: us,k,d,k0,hd,h,hu=>by
  obtain ⟨g1,g2,g3⟩:=drop_cons k0 hd
  have hb:=hu u List.mem_cons_self
  obtain ⟨u1,u2,u3,u4,u5,u6,u7,u8,u9,u10,u11⟩:=round h.col h.two hb
  have d1:decide (k<(ts.length:Int))=true:=decide_eq_true g1
  have d2:decide (0≤k)=true:=decide_eq_true k0
  have wk_:IntKind.i64.wrap (k+1)=k+1:=wrap_in (by omega) (by omega)
  have e:R13_0 ts ts.length (k,d.1,d.2.1,d.2.2) = .next (k+1,(crk d u).1,(crk d u).2.1,(crk d u).2.2):=by
   show F13_0 ts ts.length k d.1 d.2.1 d.2.2=_
   unfold F13_0
   rw [d1,d2,g2,u5,u6,u7,u8,wk_]
   rfl
  show (R13_0 ts ts.length (k,d.1,d.2.1,d.2.2)).el none (fun s=>runW (R13_0 ts ts.length) (us.length+1) s) some=_
  rw [e]
  exact run13 hl us (k+1) (crk d u) (by omega) g3 (crk_ok h hb).1 (fun x hx=>hu x (List.mem_cons_of_mem _ hx))
theorem run8w {ts:List AV} (hl:ts.length≤60):∀ (us:List AV) (k:Int) (d:C3) (acc:List AV),0≤k→ts.drop k.toNat=us→Ok d→(∀ u ∈ us,inB u)→acc.length+66*us.length≤4000 →
  runW (R8_0 ts) (us.length+1) (k,d.1,d.2.1,d.2.2,acc)=some ((wk d us).1,(wk d us).2.1,(wk d us).2.2,acc++jl d us)
 | [],k,d,acc,k0,hd,_,_,_=>by
  have hk:ts.length≤k.toNat:=List.drop_eq_nil_iff.1 hd
  have d1:decide (k<(ts.length:Int))=false:=decide_eq_false (by omega)
  show (F8_0 ts k d.1 d.2.1 d.2.2 acc).el none _ some=some (d.1,d.2.1,d.2.2,acc++[])
  unfold F8_0
  rw [d1,List.append_nil]
  rfl
 | u :: us,k,d,acc,k0,hd,h,hu,ha=>by
  obtain ⟨g1,g2,g3⟩:=drop_cons k0 hd
  have hb:=hu u List.mem_cons_self
  obtain ⟨u1,u2,u3,u4,u5,u6,u7,u8,u9,u10,u11⟩:=round h.col h.two hb
  have d1:decide (k<(ts.length:Int))=true:=decide_eq_true g1
  have d2:decide (0≤k)=true:=decide_eq_true k0
  have wk_:IntKind.i64.wrap (k+1)=k+1:=wrap_in (by omega) (by omega)
  rw [List.length_cons] at ha
  have rm:=roomN acc (v38_0 d.1 d.2.1 d.2.2 (fI u 0)) (by omega) (by omega)
  have e:R8_0 ts (k,d.1,d.2.1,d.2.2,acc) = .next (k+1,(crk d u).1,(crk d u).2.1,(crk d u).2.2,acc++jnl d u):=by
   show F8_0 ts k d.1 d.2.1 d.2.2 acc=_
   unfold F8_0
   rw [d1,d2,g2,u1,u4,rm,wk_]
   rfl
  show (R8_0 ts (k,d.1,d.2.1,d.2.2,acc)).el none (fun s=>runW (R8_0 ts) (us.length+1) s) some=_
  rw [e]
  have hj:=jnl_len h hb
  have:=run8w hl us (k+1) (crk d u) (acc++jnl d u) (by omega) g3 (crk_ok h hb).1 (fun x hx=>hu x (List.mem_cons_of_mem _ hx)) (by rw [List.length_append];omega)
  rw [List.append_assoc] at this
  exact this
theorem run12 {es:List AV} (hl:es.length≤1048576):∀ (us:List AV) (k:Int) (acc:List AV),0≤k→es.drop k.toNat=us→(acc.length:Int)≤k→runW (R12_0 es) (us.length+1) (k,acc)=some (acc++cc us)
 | [],k,acc,k0,hd,_=>by
  have hk:es.length≤k.toNat:=List.drop_eq_nil_iff.1 hd
  have d1:decide (k<(es.length:Int))=false:=decide_eq_false (by omega)
  show (F12_0 es k acc).el none _ some=some (acc++[])
  unfold F12_0
  rw [d1,List.append_nil]
  rfl
 | u :: us,k,acc,k0,hd,ha=>by
  obtain ⟨g1,g2,g3⟩:=drop_cons k0 hd
  have d1:decide (k<(es.length:Int))=true:=decide_eq_true g1
  have d2:decide (0≤k)=true:=decide_eq_true k0
  have wk_:IntKind.i64.wrap (k+1)=k+1:=wrap_in (by omega) (by omega)
  have rm:(decide ((acc.length+[AV.int .i64 (fI u 1)].length)*8≤140737488355328) && decide (acc.length+[AV.int .i64 (fI u 1)].length≤140737488355328))=true:=by
   simp only [List.length_singleton,Bool.and_eq_true,decide_eq_true_eq]
   omega
  by_cases c3:fI u 0=3
  ·have e:R12_0 es (k,acc) = .next (k+1,acc++[AV.int .i64 (fI u 1)]):=by
    show F12_0 es k acc=_
    unfold F12_0
    rw [d1,d2,g2,decide_eq_true c3,rm,wk_]
    rfl
   show (R12_0 es (k,acc)).el none (fun s=>runW (R12_0 es) (us.length+1) s) some=some (acc++(if fI u 0=3 then AV.int .i64 (fI u 1) :: cc us else cc us))
   rw [e,if_pos c3]
   have:=run12 hl us (k+1) (acc++[AV.int .i64 (fI u 1)]) (by omega) g3 (by rw [List.length_append,List.length_singleton];omega)
   rw [List.append_assoc] at this
   exact this
  ·have e:R12_0 es (k,acc) = .next (k+1,acc):=by
    show F12_0 es k acc=_
    unfold F12_0
    rw [d1,d2,g2,decide_eq_false c3,wk_]
    rfl
   show (R12_0 es (k,acc)).el none (fun s=>runW (R12_0 es) (us.length+1) s) some=some (acc++(if fI u 0=3 then AV.int .i64 (fI u 1) :: cc us else cc us))
   rw [e,if_neg c3]
   exact run12 hl us (k+1) acc (by omega) g3 (by omega)
theorem P12c (es:List AV) (hl:es.length≤1048576):q12 es=true∧v12_0 es=cc es:=by
 have:=run12 hl es 0 [] (Int.le_refl 0) rfl (Int.le_refl 0)
 unfold q12 v12_0
 rw [show ((es.length:Int) - 0).toNat+1=es.length+1 by omega,this]
 exact ⟨rfl,rfl⟩
def c0 (xs:List AV):C3:=(xs,rows xs,[])
theorem ok0 {xs:List AV} (hl:xs.length≤1048576) (hv:v36_0 xs=true):Ok (c0 xs):=⟨Col_new xs hl hv,N2_nil⟩
theorem hist' {ts:List AV} (hl:ts.length≤1048576) (h:v37_0 ts=true):ts.length≤60∧∀ t ∈ ts,inB t:=by
 obtain ⟨h1,h2⟩:=hist hl h
 refine ⟨h1,fun t ht=>?_⟩
 obtain ⟨k,hk,rfl⟩:=List.mem_iff_getElem.1 ht
 have:=h2 k (by omega) (by omega)
 rw [show ((k:Int)).toNat=k by omega,List.getD_eq_getElem?_getD,List.getElem?_eq_getElem hk] at this
 exact this
theorem hist_of {ts:List AV} (hl:ts.length≤60) (h:∀ t ∈ ts,inB t):v37_0 ts=true:=by
 rw [(P37 ts (by omega)).2,Bool.and_eq_true,noneB_iff,decide_eq_true_eq]
 exact ⟨fun k k0 k1=>by rw [bound_of (h _ (mem_at k0 k1))];rfl,hl⟩
theorem spec8 {xs ts:List AV} (hl:xs.length≤1048576) (hv:v36_0 xs=true) (ht:ts.length≤60) (hb:∀ t ∈ ts,inB t) :
  q8 xs ts=true∧v8_0 xs ts=(wk (c0 xs) ts).1∧v8_1 xs ts=(wk (c0 xs) ts).2.1∧v8_2 xs ts=(wk (c0 xs) ts).2.2∧v8_3 xs ts=jl (c0 xs) ts∧v8_4 xs ts=true:=by
 obtain ⟨a1,a2,a3,a4⟩:=P35 xs hl
 rw [hv] at a2 a3
 have hh:=hist_of ht hb
 have hr:=run8w ht ts 0 (c0 xs) [] (Int.le_refl 0) rfl (ok0 hl hv) hb (by simp only [List.length_nil];omega)
 have hr':runW (R8_0 ts) (((ts.length:Int) - 0).toNat+1) (0,xs,rows xs,[],[])=some ((wk (c0 xs) ts).1,(wk (c0 xs) ts).2.1,(wk (c0 xs) ts).2.2,jl (c0 xs) ts):=by
  rw [show ((ts.length:Int) - 0).toNat+1=ts.length+1 by omega]
  exact hr
 simp only [cond_true] at a2 a3
 unfold q8 v8_0 v8_1 v8_2 v8_3 v8_4
 rw [a1,a2,a3,a4,(P36 xs hl).1,hv,(P37 ts (by omega)).1,hh,hr']
 exact ⟨rfl,rfl,rfl,rfl,rfl,rfl⟩
theorem stop42 {es:List AV} {s:RS8} {k:Int} {x y z:List AV} {op:Bool} {v a b:Int} {w:List AV} (hs:Vw s k x y z op v a b w) (hk:¬ k<es.length) :
  ∃ kd e:Int,(R42_0 es es.length s = .stop (.inl (x,y,z,op,kd,v,a,b,e))∧w=[])∨R42_0 es es.length s = .stop (.inr (.inl (x,y,z,op,kd,v,a,b,e,w))):=by
 have d1:decide (k<(es.length:Int))=false:=decide_eq_false hk
 obtain ⟨kd,e,⟨rfl,hw⟩|rfl⟩:=hs
 ·refine ⟨kd,e,.inl ⟨?_,hw⟩⟩
  show F42_0_s0 es es.length k x y z op kd v a b e=_
  unfold F42_0_s0
  rw [d1]
  rfl
 ·refine ⟨kd,e,.inr ?_⟩
  show F42_0_s1 es es.length k x y z op kd v a b e w=_
  unfold F42_0_s1
  rw [d1]
  rfl
structure Rep (xs es:List AV) (d:C3):Prop where
 q:q42 xs es=true
 v0:v42_0 xs es=d.1
 v1:v42_1 xs es=d.2.1
 v2:v42_2 xs es=d.2.2
 v5:v42_5 xs es=true
theorem rep42 {xs es:List AV} (hl:xs.length≤1048576) (hv:v36_0 xs=true) {s:RS8} {n:Nat} (hn:n=es.length) (h1:St (R42_0 es es.length) n (.inl (0,xs,rows xs,[],false,0,0,0,0,0)) s) {x y z:List AV} {op:Bool} {v a b:Int} {w:List AV}
  (hs:Vw s n x y z op v a b w) {d:C3} (h0:op=false→d=(x,y,z)) (hU:op=true→q80 x y z w=true∧v80_0 x y z w=d.1∧v80_1 x y z w=d.2.1∧v80_2 x y z w=d.2.2):Rep xs es d:=by
 obtain ⟨b1,b2,b3,b4⟩:=P32 xs hl
 rw [hv] at b2 b3
 simp only [cond_true] at b2 b3
 have fu:((es.length:Int) - 0).toNat+1=1+n:=by omega
 have run:∀ r,R42_0 es es.length s = .stop r→runW (R42_0 es es.length) (((es.length:Int) - 0).toNat+1) (.inl (0,xs,rows xs,[],false,0,0,0,0,0))=some r:=fun r hr=>by
  rw [fu,h1 1]
  show (R42_0 es es.length s).el none _ some=_
  rw [hr]
  rfl
 have p:v30_0 xs=true:=by rw [(P30 xs hl).2,hv]
 obtain ⟨kd,e,⟨hr,rfl⟩|hr⟩:=stop42 (es:=es) hs (by omega)
 ·have hr:=run _ hr
  cases op with
  | false =>
   obtain rfl:=h0 rfl
   constructor
   ·unfold q42;rw [(P30 xs hl).1,p,b1,b2,b3,b4,hr];rfl
   ·unfold v42_0;rw [p,b2,b3,b4,hr];rfl
   ·unfold v42_1;rw [p,b2,b3,b4,hr];rfl
   ·unfold v42_2;rw [p,b2,b3,b4,hr];rfl
   ·unfold v42_5;rw [p,b2,b3,b4,hr];rfl
  | true =>
   obtain ⟨u0,u1,u2,u3⟩:=hU rfl
   constructor
   ·unfold q42;rw [(P30 xs hl).1,p,b1,b2,b3,b4,hr];exact u0
   ·unfold v42_0;rw [p,b2,b3,b4,hr];exact u1
   ·unfold v42_1;rw [p,b2,b3,b4,hr];exact u2
   ·unfold v42_2;rw [p,b2,b3,b4,hr];exact u3
   ·unfold v42_5;rw [p,b2,b3,b4,hr];rfl
 ·have hr:=run _ hr
  cases op with
  | false =>
   obtain rfl:=h0 rfl
   constructor
   ·unfold q42;rw [(P30 xs hl).1,p,b1,b2,b3,b4,hr];rfl
   ·unfold v42_0;rw [p,b2,b3,b4,hr];rfl
   ·unfold v42_1;rw [p,b2,b3,b4,hr];rfl
   ·unfold v42_2;rw [p,b2,b3,b4,hr];rfl
   ·unfold v42_5;rw [p,b2,b3,b4,hr];rfl
  | true =>
   obtain ⟨u0,u1,u2,u3⟩:=hU rfl
   constructor
   ·unfold q42;rw [(P30 xs hl).1,p,b1,b2,b3,b4,hr];exact u0
   ·unfold v42_0;rw [p,b2,b3,b4,hr];exact u1
   ·unfold v42_1;rw [p,b2,b3,b4,hr];exact u2
   ·unfold v42_2;rw [p,b2,b3,b4,hr];exact u3
   ·unfold v42_5;rw [p,b2,b3,b4,hr];rfl
theorem crash42 {xs ts:List AV} (hl:xs.length≤1048576) (hv:v36_0 xs=true) (ht:ts.length≤60) (hb:∀ t ∈ ts,inB t) {n:Nat} (hn:n≤(jl (c0 xs) ts).length) :
  ∃ c' T d,Cut (c0 xs) ts n c' T∧Ok d∧Eq3 d c'∧Rep xs ((jl (c0 xs) ts).take n) d:=by
 have hj:=jl_len ts (c0 xs) (ok0 hl hv) hb
 obtain ⟨c',T,hc,hr⟩:=cut ts (c0 xs) (ok0 hl hv) hb n hn
 have le:((jl (c0 xs) ts).take n).length=n:=by rw [List.length_take];omega
 obtain ⟨s,g1,g2⟩:=hr ((jl (c0 xs) ts).take n) 0 (.inl (0,xs,rows xs,[],false,0,0,0,0,0)) 0 0 0 [] (by omega) (Int.le_refl 0) rfl ⟨0,0,.inl ⟨rfl,rfl⟩⟩
 rw [Int.zero_add] at g2
 have hk:=hc.ok
 have h64:=hk.col.n64
 have hlen:=hk.col.len
 have hfew:=col_few hk.col
 rcases g2 with ⟨v,a,b,w,hs⟩|⟨v,a,b,w,hs,w2,w64,a0,b1,hin,hcut⟩
 ·exact ⟨c',T,c',hc,hc.ok,Eq3.refl c',rep42 hl hv le.symm g1 hs (fun _=>rfl) (fun h=>by cases h)⟩
 ·have hin0:inS 0 c'.1.length w:=fun s hs=>by
   obtain ⟨x1,x2,x3,x4⟩:=hin s hs
   exact ⟨by omega,by omega,by omega,by omega⟩
  have hin1:inS 0 c'.2.1.length w:=by rw [hlen];exact hin0
  have lx:=appS_len w c'.1
  have ly:=appS_len w c'.2.1
  have col1:=Col.swaps (ps:=c'.2.2) a0 hcut w c'.1 c'.2.1 hk.col b1 hin
  have col2:=Col.swaps (ps:=c'.2.2) a0 hcut w.reverse (appS w c'.1) (appS w c'.2.1) col1 (by omega) (inS_rev hin)
  obtain ⟨u1,u2,u3,u4⟩:=P80 (appS w c'.1) (appS w c'.2.1) c'.2.2 w (by omega) (by omega) (by omega) (by omega) w2 (by rw [lx];exact hin0)
  exact ⟨c',T,(appS w.reverse (appS w c'.1),appS w.reverse (appS w c'.2.1),c'.2.2),hc,⟨col2,hk.two⟩,⟨undo w c'.1 hin0,undo w c'.2.1 hin1,rfl⟩,
   rep42 hl hv le.symm g1 hs (fun h=>by cases h) (fun _=>⟨u1,u2,u3,u4⟩)⟩
theorem at11 {xs l:List AV} {n:Nat} (hn:n≤l.length) {d:C3} (h:Rep xs (l.take n) d):q11 xs l n=true∧v11_0 xs l n=d.1∧v11_1 xs l n=d.2.1∧v11_2 xs l n=d.2.2∧v11_3 xs l n=true:=by
 have d1:decide ((n:Int)<0)=false:=decide_eq_false (by omega)
 have d2:decide ((n:Int) > (l.length:Int))=false:=decide_eq_false (by omega)
 have d3:decide (0≤(n:Int))=true:=decide_eq_true (by omega)
 have d4:decide ((n:Int)≤(l.length:Int))=true:=decide_eq_true (by omega)
 have e:((l.take (Int.toNat (n:Int))).drop (Int.toNat 0))=l.take n:=by
  rw [show Int.toNat (n:Int)=n by omega]
  rfl
 unfold q11 v11_0 v11_1 v11_2 v11_3
 rw [d1,d2,d3,d4,e,h.q,h.v0,h.v1,h.v2,h.v5]
 exact ⟨rfl,rfl,rfl,rfl,rfl⟩
theorem at13 {xs l ts:List AV} {n:Nat} (hn:n≤l.length) {d:C3} (h:Rep xs (l.take n) d) (hd:Ok d) (ht:ts.length≤60) (hb:∀ t ∈ ts,inB t) :
  q13 xs l n ts=true∧v13_0 xs l n ts=(wk d ts).1∧v13_1 xs l n ts=(wk d ts).2.1∧v13_2 xs l n ts=(wk d ts).2.2∧v13_3 xs l n ts=true:=by
 obtain ⟨a1,a2,a3,a4,a5⟩:=at11 hn h
 have hr:=run13 ht ts 0 d (Int.le_refl 0) rfl hd hb
 rw [show ts.length+1=((ts.length:Int) - 0).toNat+1 by omega] at hr
 have p:v31_0 ts=true:=by rw [(P31 ts (by omega)).2];exact hist_of ht hb
 unfold q13 v13_0 v13_1 v13_2 v13_3
 rw [a1,a2,a3,a4,a5,(P31 ts (by omega)).1,p,hr]
 exact ⟨rfl,rfl,rfl,rfl,rfl⟩
theorem round3 {code xs ts:List AV} (hl:xs.length≤1048576) (hv:v36_0 xs=true) (ht:ts.length≤60) (hb:∀ t ∈ ts,inB t) {n:Nat} (hn:n≤(jl (c0 xs) ts).length) {m:Int} (h10:q10 code n=true) (m10:v10_0 code n=m) (m0:0≤m) :
  R3_0 code true (wk (c0 xs) ts).1 (wk (c0 xs) ts).2.1 (wk (c0 xs) ts).2.2 xs ts (jl (c0 xs) ts) n = .next (n+1+Int.tmod m 4):=by
 have hj:=jl_len ts (c0 xs) (ok0 hl hv) hb
 obtain ⟨c',T,d,hc,hd,he,hr⟩:=crash42 hl hv ht hb hn
 obtain ⟨a1,a2,a3,a4,a5⟩:=at11 hn hr
 obtain ⟨b1,b2,b3,b4,b5⟩:=at13 hn hr hd ht hb
 obtain ⟨p1,p2⟩:=P12c ((jl (c0 xs) ts).take n) (by rw [List.length_take];omega)
 have hT:=hc.len
 obtain ⟨s1,s2,s3,s4,s5,s6⟩:=spec8 (ts:=T) hl hv (by omega) hc.inb
 rw [hc.e_wk] at s2 s3 s4
 obtain ⟨x1,x2⟩:=eq9 hd he
 have hz:Eq3 (wk d ts) (wk (c0 xs) ts):=by
  rw [← hc.e_re]
  exact wk_eqv ts d c' hd hc.ok hb he
 obtain ⟨y1,y2⟩:=eq9 (wk_ok ts d hd hb).1 hz
 have d1:decide ((n:Int)≤((jl (c0 xs) ts).length:Int))=true:=decide_eq_true (by omega)
 have d2:decide (0≤(n:Int))=true:=decide_eq_true (by omega)
 have e:(((jl (c0 xs) ts).drop (Int.toNat 0)).take (Int.toNat (n:Int) - (Int.toNat 0)))=(jl (c0 xs) ts).take n:=by
  rw [show Int.toNat (n:Int) - Int.toNat 0=n by omega]
  rfl
 have t0:0≤Int.tmod m 4:=Int.tmod_nonneg _ m0
 have t1:Int.tmod m 4<4:=Int.tmod_lt_of_pos _ (by decide)
 have w1:IntKind.i64.wrap ((n:Int)+1)=n+1:=wrap_in (by omega) (by omega)
 have w2:IntKind.i64.wrap ((n:Int)+1+Int.tmod m 4)=n+1+Int.tmod m 4:=wrap_in (by omega) (by omega)
 show F3_0 code true _ _ _ xs ts (jl (c0 xs) ts) n=_
 unfold F3_0
 rw [d1,d2,e,p1,p2,hc.e_cc,a1,a2,a3,a4,a5,b1,b2,b3,b4,b5,s1,s2,s3,s4,s6,x1,x2,y1,y2,h10,m10,w1,w2]
 rfl
theorem loop3 {code xs ts:List AV} (hl:xs.length≤1048576) (hv:v36_0 xs=true) (ht:ts.length≤60) (hb:∀ t ∈ ts,inB t) (h10:∀ n:Nat,n≤4000→q10 code n=true∧0≤v10_0 code n) :
  runW (R3_0 code true (wk (c0 xs) ts).1 (wk (c0 xs) ts).2.1 (wk (c0 xs) ts).2.2 xs ts (jl (c0 xs) ts)) ((((jl (c0 xs) ts).length:Int) - 0+1).toNat+1) 0=some (.inl ()):=by
 have hj:=jl_len ts (c0 xs) (ok0 hl hv) hb
 have main:∀ (f:Nat) (n:Nat),(jl (c0 xs) ts).length+2≤n+f→1≤f→runW (R3_0 code true (wk (c0 xs) ts).1 (wk (c0 xs) ts).2.1 (wk (c0 xs) ts).2.2 xs ts (jl (c0 xs) ts)) f (n:Int)=some (.inl ()):=by
  intro f
  induction f with
  | zero=>intro n _ h;omega
  | succ f ih =>
   intro n h1 _
   by_cases hn:n≤(jl (c0 xs) ts).length
   ·obtain ⟨g1,g2⟩:=h10 n (by omega)
    have e:=round3 (code:=code) hl hv ht hb hn g1 rfl g2
    have t0:0≤Int.tmod (v10_0 code n) 4:=Int.tmod_nonneg _ g2
    show (R3_0 code true (wk (c0 xs) ts).1 (wk (c0 xs) ts).2.1 (wk (c0 xs) ts).2.2 xs ts (jl (c0 xs) ts) n).el none (fun s=>runW (R3_0 code true (wk (c0 xs) ts).1 (wk (c0 xs) ts).2.1 (wk (c0 xs) ts).2.2 xs ts (jl (c0 xs) ts)) f s) some=_
    rw [e]
    have:=ih ((n:Int)+1+Int.tmod (v10_0 code n) 4).toNat (by omega) (by omega)
    rw [show ((((n:Int)+1+Int.tmod (v10_0 code n) 4).toNat:Nat):Int)=(n:Int)+1+Int.tmod (v10_0 code n) 4 by omega] at this
    exact this
   ·have d1:decide ((n:Int)≤((jl (c0 xs) ts).length:Int))=false:=decide_eq_false (by omega)
    show (F3_0 code true (wk (c0 xs) ts).1 (wk (c0 xs) ts).2.1 (wk (c0 xs) ts).2.2 xs ts (jl (c0 xs) ts) n).el none _ some=_
    unfold F3_0
    rw [d1]
    rfl
 exact main _ 0 (by omega) (by omega)
theorem crashes {code xs ts:List AV} (hl:xs.length≤1048576) (ht:ts.length≤1048576) (h10:∀ n:Nat,n≤4000→q10 code n=true∧0≤v10_0 code n) :
  runW (R3_0 code (v8_4 xs ts) (v8_0 xs ts) (v8_1 xs ts) (v8_2 xs ts) xs ts (v8_3 xs ts)) ((((v8_3 xs ts).length:Int) - 0+1).toNat+1) 0=some (.inl ()):=by
 cases hv:v8_4 xs ts with
 | false =>
  have d1:decide ((0:Int)≤((v8_3 xs ts).length:Int))=true:=decide_eq_true (by omega)
  show (F3_0 code false (v8_0 xs ts) (v8_1 xs ts) (v8_2 xs ts) xs ts (v8_3 xs ts) 0).el none _ some=_
  unfold F3_0
  rw [d1]
  rfl
 | true =>
  have hv2:=hv
  unfold v8_4 at hv2
  cases h1:v36_0 xs with
  | false=>rw [h1] at hv2;cases hv2
  | true =>
   cases h2:v37_0 ts with
   | false=>rw [h1,h2] at hv2;cases hv2
   | true =>
    obtain ⟨g1,g2⟩:=hist' ht h2
    obtain ⟨s1,s2,s3,s4,s5,s6⟩:=spec8 hl h1 g1 g2
    rw [s2,s3,s4,s5]
    exact loop3 hl h1 g1 g2 h10
end Go.Proofs.Ytkdnhnkhcldonaa
