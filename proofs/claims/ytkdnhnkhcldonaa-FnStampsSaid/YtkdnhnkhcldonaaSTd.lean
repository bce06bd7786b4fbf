import Derived.Test.YtkdnhnkhcldonaaSTb
namespace Go.Proofs.Ytkdnhnkhcldonaa
open Go Go.Proofs.VE
set_option linter.unusedVariables false
set_option linter.unusedSimpArgs false
theorem P75 (v r p:List AV) (h1:v.length≤1048576) (h2:r.length≤1048576) (h3:p.length≤1048576):q75 v r p=true∧v75_0 v r p=v∧v75_1 v r p=r∧v75_2 v r p=p:=by
 unfold q75 v75_0 v75_1 v75_2
 simp only [List.length_nil,Nat.zero_add,List.nil_append]
 rw [decide_eq_true (by omega:v.length*8≤140737488355328),decide_eq_true (by omega:v.length≤140737488355328),decide_eq_true (by omega:r.length*8≤140737488355328),decide_eq_true (by omega:r.length≤140737488355328),decide_eq_true (by omega:p.length*16≤140737488355328),decide_eq_true (by omega:p.length≤140737488355328)]
 simp
theorem P65 (xs:List AV) (h:xs.length≤1048576):q65 xs=true∧v65_0 xs=xs:=by
 unfold q65 v65_0
 rw [decide_eq_true (by omega:xs.length*8≤140737488355328),decide_eq_true (by omega:xs.length≤140737488355328)]
 exact ⟨rfl,rfl⟩
theorem P97 (xs:List AV) (h:xs.length≤1048576):q97 xs=true∧v97_0 xs=xs:=by
 unfold q97 v97_0
 rw [decide_eq_true (by omega:xs.length*16≤140737488355328),decide_eq_true (by omega:xs.length≤140737488355328)]
 exact ⟨rfl,rfl⟩
theorem P69 (v r p:List AV) (h1:v.length≤1048576) (h2:r.length≤1048576) (h3:p.length≤1048576):q69 v r p=true∧v69_0 v r p=v∧v69_1 v r p=r∧v69_2 v r p=p:=by
 unfold q69 v69_0 v69_1 v69_2
 rw [(P65 v h1).1,(P65 r h2).1,(P97 p h3).1]
 exact ⟨rfl,rfl,rfl,rfl⟩
abbrev PS:=Int × Int × List AV
abbrev PS':=Int × Int × List AV × List AV
structure ParI (vs:List AV) (v a b:Int) (s:PS) (s':PS'):Prop where
 e1:s'.1=s.1
 e2:s'.2.1=s.2.1
 e3:s'.2.2.2=s.2.2
 el_:s'.2.2.1=appS s.2.2 vs
 i0:a≤s.1
 ij:s.1≤s.2.1+1
 j1:s.2.1<b
 ins:inS a b s.2.2
 n2:N2 s.2.2
 len:(s.2.2.length:Int)≤s.1 - a
 mid:∀ k:Int,s.1≤k→k≤s.2.1→el (appS s.2.2 vs) k=el vs k
 lo:∀ k:Int,a≤k→k<s.1→el (appS s.2.2 vs) k<v
 hi:∀ k:Int,s.2.1<k→k<b→v≤el (appS s.2.2 vs) k
 ord:∀ x ∈ s.2.2,fI x 0<fI x 1
structure Parted (vs:List AV) (v a b:Int) (ss:List AV) (at_:Int):Prop where
 i0:a≤at_
 i1:at_≤b
 ins:inS a b ss
 n2:N2 ss
 len:(ss.length:Int)≤at_ - a
 lo:∀ k:Int,a≤k→k<at_→el (appS ss vs) k<v
 hi:∀ k:Int,at_≤k→k<b→v≤el (appS ss vs) k
 ord:∀ x ∈ ss,fI x 0<fI x 1
theorem room2 (X:List AV) (a:AV) (h:X.length≤1048576):(decide ((X.length+[a].length)*16≤140737488355328) && decide (X.length+[a].length≤140737488355328))=true:=by
 simp only [List.length_singleton,Bool.and_eq_true,decide_eq_true_eq]
 omega
theorem q103_in (i j:Int) (xs:List AV) (i0:0≤i) (i1:i<xs.length) (j0:0≤j) (j1:j<xs.length):q103 i j xs=true:=by
 unfold q103
 rw [List.length_set,decide_eq_true i0,decide_eq_true i1,decide_eq_true j0,decide_eq_true j1]
 rfl
theorem mem_at {xs:List AV} {k:Int} (h0:0≤k) (h1:k<xs.length):xs.getD k.toNat .undef ∈ xs:=by
 rw [List.getD_eq_getElem?_getD,List.getElem?_eq_getElem (by omega)]
 exact List.getElem_mem _
theorem P77 (vs rs ps ss:List AV) (hv:vs.length≤1048576) (hp:ps.length≤1048576) (hl:(rs.length:Int)=vs.length) (hs:ss.length≤1048576) (h:inS 0 vs.length ss) :
  q77 vs rs ps ss=true∧v77_0 vs rs ps ss=appS ss vs∧v77_1 vs rs ps ss=appS ss rs∧v77_2 vs rs ps ss=ps∧v77_3 vs rs ps ss=true:=by
 obtain ⟨c0,c1,c2,c3⟩:=P75 vs rs ps hv (by omega) hp
 obtain ⟨r,h1,h2⟩:=runW_ends (f:=R77_0 ss vs rs ps ps) (fun s:Int × List AV × List AV=>0≤s.1∧s.1≤ss.length∧s.2.1=appS (ss.take s.1.toNat) vs∧s.2.2=appS (ss.take s.1.toNat) rs) (fun r=>r = .inl (appS ss vs,appS ss rs)) (fun s=>((ss.length:Int) - s.1).toNat) (fun s hI=>by
   obtain ⟨k,X,Y⟩:=s
   obtain ⟨k0,k1,ex,ey⟩:=hI
   simp only at k0 k1 ex ey
   subst ex ey
   by_cases hk:k<ss.length
   ·have d1:decide (k<(ss.length:Int))=true:=decide_eq_true hk
    have d2:decide (0≤k)=true:=decide_eq_true k0
    have wk:IntKind.i64.wrap (k+1)=k+1:=wrap_in (by omega) (by omega)
    obtain ⟨g1,g2,g3,g4⟩:=h _ (mem_at k0 hk)
    have lx:=appS_len (ss.take k.toNat) vs
    have ly:=appS_len (ss.take k.toNat) rs
    have wl:IntKind.i64.wrap (((appS (ss.take k.toNat) vs).length:Int) - 1)=(vs.length:Int) - 1:=by rw [lx,wrap_in (by omega) (by omega)]
    have e1:v52_0 (fI (ss.getD k.toNat AV.undef) 0) 0 ((vs.length:Int) - 1)=true:=by rw [v52,decide_eq_true g1,decide_eq_true (by omega)];rfl
    have e2:v52_0 (fI (ss.getD k.toNat AV.undef) 1) 0 ((vs.length:Int) - 1)=true:=by rw [v52,decide_eq_true g3,decide_eq_true (by omega)];rfl
    refine .inl ⟨(k+1,v103_0 (fI (ss.getD k.toNat AV.undef) 0) (fI (ss.getD k.toNat AV.undef) 1) (appS (ss.take k.toNat) vs),v103_0 (fI (ss.getD k.toNat AV.undef) 0) (fI (ss.getD k.toNat AV.undef) 1) (appS (ss.take k.toNat) rs)),?_,⟨by simp only;omega,by simp only;omega,?_,?_⟩,by simp only;omega⟩
    ·simp only [R77_0,F77_0,d1,d2,wk,wl,e1,e2,q103_in _ _ (appS (ss.take k.toNat) vs) g1 (by omega) g3 (by omega),q103_in _ _ (appS (ss.take k.toNat) rs) g1 (by omega) g3 (by omega),Bool.and_self,Bool.not_true,cond_true,cond_false]
    ·simp only
     rw [take_snoc k0 hk,appS_snoc]
    ·simp only
     rw [take_snoc k0 hk,appS_snoc]
   ·have d1:decide (k<(ss.length:Int))=false:=decide_eq_false hk
    refine .inr ⟨_,by simp only [R77_0,F77_0,d1,cond_false];rfl,?_⟩
    rw [List.take_of_length_le (by omega)]) (((ss.length:Int) - 0).toNat+1) (0,vs,rs) ⟨by simp,by simp,rfl,rfl⟩ (by simp)
 subst h2
 unfold q77 v77_0 v77_1 v77_2 v77_3
 rw [c0,c1,c2,c3,decide_eq_true hl,h1]
 exact ⟨rfl,rfl,rfl,rfl,rfl⟩
def insP (ps:List AV) (v a:Int):List AV:=ps.take (place ps v).toNat++[mk2 v a]++ps.drop (place ps v).toNat
theorem insP_len (ps:List AV) (v a:Int):(insP ps v a).length=ps.length+1:=by
 have:=place_spec ps v
 unfold insP
 simp only [List.length_append,List.length_take,List.length_drop,List.length_singleton]
 omega
theorem insP_N2 {ps:List AV} (h:N2 ps) (v a:Int):N2 (insP ps v a):=fun x hx=>by
 unfold insP at hx
 rcases List.mem_append.1 hx with hx|hx
 ·rcases List.mem_append.1 hx with hx|hx
  ·exact h x (List.mem_of_mem_take hx)
  ·rw [List.mem_singleton.1 hx]
   rfl
 ·exact h x (List.mem_of_mem_drop hx)
theorem insP_at (ps:List AV) (v a:Int) (i:Int) (h0:0≤i):(insP ps v a).getD i.toNat .undef=if i<place ps v then ps.getD i.toNat .undef else if i=place ps v then mk2 v a else ps.getD (i - 1).toNat .undef:=by
 obtain ⟨p0,p1,_,_⟩:=place_spec ps v
 unfold insP
 simp only [List.getD_eq_getElem?_getD]
 have tl:(ps.take (place ps v).toNat).length=(place ps v).toNat:=by rw [List.length_take];omega
 split
 ·rw [List.append_assoc,List.getElem?_append_left (by omega),List.getElem?_take_of_lt (by omega)]
 ·split
  ·rename_i e1 e2
   rw [List.append_assoc,List.getElem?_append_right (by omega),tl,e2,Nat.sub_self]
   rfl
  ·rw [List.append_assoc,List.getElem?_append_right (by omega),tl,List.getElem?_append_right (by simp;omega),List.getElem?_drop]
   congr 2
   simp only [List.length_singleton]
   omega
theorem Col.pivot {vs rs ps:List AV} (h:Col vs rs ps) {v at_:Int} (hf:∀ k:Int,0≤k→k<ps.length→el ps k ≠ v) (hv : -1000≤v∧v≤1000) (ha:0≤at_∧at_≤vs.length) (hat:∀ k:Int,0≤k→k<vs.length→(el vs k<v ↔ k<at_))
  (hcut:∀ p:Int,0≤p→p<ps.length→(el ps p<v→pat ps p≤at_)∧(v<el ps p→at_≤pat ps p)):Col vs rs (insP ps v at_):=by
 obtain ⟨p0,p1,p2,p3⟩:=place_spec ps v
 have hlen:=insP_len ps v at_
 generalize hpl:place ps v=t at *
 have eel:∀ i:Int,0≤i→el (insP ps v at_) i=if i<t then el ps i else if i=t then v else el ps (i - 1):=fun i h0=>by
  unfold el
  rw [insP_at ps v at_ i h0,hpl]
  split
  ·rfl
  ·split <;> rfl
 have epa:∀ i:Int,0≤i→pat (insP ps v at_) i=if i<t then pat ps i else if i=t then at_ else pat ps (i - 1):=fun i h0=>by
  unfold pat
  rw [insP_at ps v at_ i h0,hpl]
  split
  ·rfl
  ·split <;> rfl
 have lo:∀ k:Int,0≤k→k<t→el ps k<v:=fun k k0 k1=>by
  have:=p2 k k0 k1
  have:=hf k k0 (by omega)
  omega
 have hi:∀ k:Int,t≤k→k<ps.length→v<el ps k:=fun k k0 k1=>by
  by_cases e:k=t
  ·rw [e];exact p3 (by omega)
  ·have:=(h.lt (i:=t) (j:=k) p0 (by omega) k1).1
   have:=p3 (by omega)
   omega
 refine ⟨h.n64,h.vals,h.len,h.rows,h.dist,fun i i0 i1=>?_,fun i i0 i1=>?_,fun i i0 i1=>?_,fun i i0 i1 k k0 k1=>?_⟩
 ·rw [eel i i0]
  split
  ·exact h.pv i i0 (by omega)
  ·split
   ·exact hv
   ·exact h.pv (i - 1) (by omega) (by omega)
 ·rw [epa i i0]
  split
  ·exact h.pa i i0 (by omega)
  ·split
   ·exact ha
   ·exact h.pa (i - 1) (by omega) (by omega)
 ·rw [eel i (by omega),eel (i - 1) (by omega),epa i (by omega),epa (i - 1) (by omega)]
  by_cases h1:i<t
  ·have q:i - 1<t:=by omega
   rw [if_pos h1,if_pos h1,if_pos q,if_pos q]
   exact h.asc i i0 (by omega)
  ·by_cases h2:i=t
   ·have q:i - 1<t:=by omega
    rw [if_neg h1,if_neg h1,if_pos h2,if_pos h2,if_pos q,if_pos q]
    have a1:=lo (i - 1) (by omega) (by omega)
    exact ⟨a1,(hcut (i - 1) (by omega) (by omega)).1 a1⟩
   ·have q:¬ i - 1<t:=by omega
    rw [if_neg h1,if_neg h1,if_neg h2,if_neg h2,if_neg q,if_neg q]
    by_cases h3:i - 1=t
    ·rw [if_pos h3,if_pos h3]
     have a1:=hi (i - 1) (by omega) (by omega)
     exact ⟨a1,(hcut (i - 1) (by omega) (by omega)).2 a1⟩
    ·rw [if_neg h3,if_neg h3]
     exact h.asc (i - 1) (by omega) (by omega)
 ·rw [eel i i0,epa i i0]
  split
  ·exact h.part i i0 (by omega) k k0 k1
  ·split
   ·exact hat k k0 k1
   ·exact h.part (i - 1) (by omega) (by omega) k k0 k1
theorem drop_snoc {xs:List AV} {t k:Int} (h0:0≤t) (ht:t≤k) (h1:k<xs.length):(xs.take (k+1).toNat).drop t.toNat=(xs.take k.toNat).drop t.toNat++[xs.getD k.toNat .undef]:=by
 rw [take_snoc (by omega) h1,List.drop_append_of_le_length (by rw [List.length_take];omega)]
theorem run78 (a1 a2 vs rs ps:List AV) (v a:Int) (h3:ps.length≤1048576) (hN:N2 ps):∃ r:Bool × List AV,runW (R78_0 a1 a2 vs rs ps v a) (((ps.length:Int) - 0).toNat+1) (false,0,[])=some r∧(r.2.length≤1048577∧(r.1=false→r.2++[mk2 v a]=insP ps v a∧r.2.length≤1048576)∧(r.1=true→r.2=insP ps v a)):=by
 obtain ⟨p0,p1,p2,p3⟩:=place_spec ps v
 have hins:insP ps v a=ps.take (place ps v).toNat++[mk2 v a]++ps.drop (place ps v).toNat:=rfl
 have hlen:=insP_len ps v a
 generalize hpl:place ps v=t at *
 obtain ⟨r,h1,h2⟩:=runW_ends (f:=R78_0 a1 a2 vs rs ps v a) (fun s:Bool × Int × List AV=>0≤s.2.1∧s.2.1≤ps.length∧((s.1=false∧s.2.1≤t∧s.2.2=ps.take s.2.1.toNat)∨(s.1=true∧t<s.2.1∧s.2.2=ps.take t.toNat++[mk2 v a]++(ps.take s.2.1.toNat).drop t.toNat)))
  (fun r=>(r.1=false∧t=ps.length∧r.2=ps)∨(r.1=true∧t<ps.length∧r.2=ps.take t.toNat++[mk2 v a]++ps.drop t.toNat)) (fun s=>((ps.length:Int) - s.2.1).toNat) (fun s hI=>by
   obtain ⟨b,k,acc⟩:=s
   obtain ⟨k0,k1,hI⟩:=hI
   simp only at k0 k1 hI
   by_cases hk:k<ps.length
   ·have d1:decide (k<(ps.length:Int))=true:=decide_eq_true hk
    have d2:decide (0≤k)=true:=decide_eq_true k0
    have wk:IntKind.i64.wrap (k+1)=k+1:=wrap_in (by omega) (by omega)
    have en:AV.agg [AV.int .i64 (fI (ps.getD k.toNat AV.undef) 0),AV.int .i64 (fI (ps.getD k.toNat AV.undef) 1)]=ps.getD k.toNat .undef:=hN.at k0 hk
    rcases hI with ⟨rfl,kt,rfl⟩|⟨rfl,kt,rfl⟩
    ·have hl:(ps.take k.toNat).length≤1048576:=by rw [List.length_take];omega
     by_cases hkt:k<t
     ·have d3:decide (fI (ps.getD k.toNat AV.undef) 0 > v)=false:=decide_eq_false (by have:=p2 k k0 hkt;unfold el at this;omega)
      refine .inl ⟨(false,k+1,ps.take (k+1).toNat),?_,⟨by simp only;omega,by simp only;omega,.inl ⟨rfl,by simp only;omega,rfl⟩⟩,by simp only;omega⟩
      simp only [R78_0,F78_0,d1,d2,d3,wk,en,room2 _ _ hl,Bool.and_self,Bool.not_false,cond_true,cond_false]
      rw [take_snoc k0 hk]
     ·have hkt':k=t:=by omega
      have d3:decide (fI (ps.getD k.toNat AV.undef) 0 > v)=true:=decide_eq_true (by have:=p3 (by omega);rw [← hkt'] at this;exact this)
      have hl2:(ps.take k.toNat++[AV.agg [AV.int .i64 v,AV.int .i64 a]]).length≤1048576:=by rw [List.length_append,List.length_take,List.length_singleton];omega
      refine .inl ⟨(true,k+1,ps.take t.toNat++[mk2 v a]++(ps.take (k+1).toNat).drop t.toNat),?_,⟨by simp only;omega,by simp only;omega,.inr ⟨rfl,by simp only;omega,rfl⟩⟩,by simp only;omega⟩
      simp only [R78_0,F78_0,d1,d2,d3,wk,en,room2 _ _ hl,room2 _ _ hl2,Bool.and_self,Bool.not_false,cond_true,cond_false]
      rw [drop_snoc p0 (by omega) hk,List.drop_eq_nil_of_le (show (ps.take k.toNat).length≤t.toNat by rw [List.length_take];omega),← hkt']
      rfl
    ·have hl:(ps.take t.toNat++[mk2 v a]++(ps.take k.toNat).drop t.toNat).length≤1048576:=by
      simp only [List.length_append,List.length_take,List.length_drop,List.length_singleton]
      omega
     refine .inl ⟨(true,k+1,ps.take t.toNat++[mk2 v a]++(ps.take (k+1).toNat).drop t.toNat),?_,⟨by simp only;omega,by simp only;omega,.inr ⟨rfl,by simp only;omega,rfl⟩⟩,by simp only;omega⟩
     simp only [R78_0,F78_0,d1,d2,wk,en,room2 _ _ hl,Bool.and_self,Bool.not_true,cond_true,cond_false]
     rw [drop_snoc p0 (by omega) hk,List.append_assoc _ _ [ps.getD k.toNat AV.undef]]
   ·have d1:decide (k<(ps.length:Int))=false:=decide_eq_false hk
    rcases hI with ⟨rfl,kt,rfl⟩|⟨rfl,kt,rfl⟩
    ·refine .inr ⟨(false,ps.take k.toNat),by simp only [R78_0,F78_0,d1,cond_false],.inl ⟨rfl,by omega,?_⟩⟩
     exact List.take_of_length_le (by omega)
    ·refine .inr ⟨(true,ps.take t.toNat++[mk2 v a]++(ps.take k.toNat).drop t.toNat),by simp only [R78_0,F78_0,d1,cond_false],.inr ⟨rfl,by omega,?_⟩⟩
     rw [List.take_of_length_le (l:=ps) (i:=k.toNat) (by omega)]) (((ps.length:Int) - 0).toNat+1) (false,0,[]) ⟨by simp,by simp,.inl ⟨rfl,p0,rfl⟩⟩ (by simp)
 refine ⟨r,h1,?_⟩
 obtain ⟨b,acc⟩:=r
 rcases h2 with ⟨e1,e2,e3⟩|⟨e1,e2,e3⟩
 ·simp only at e1 e3
  subst e1 e3
  refine ⟨by simp only;omega,fun _=>⟨?_,h3⟩,fun h=>by cases h⟩
  rw [hins,e2]
  simp
 ·simp only at e1 e3
  subst e1 e3
  refine ⟨?_,⟨fun h=>(by cases h),fun _=>hins.symm⟩⟩
  simp only
  rw [← hins,hlen]
  omega
theorem P78 (vs rs ps:List AV) (v a:Int) (h1:vs.length≤1048576) (h2:rs.length≤1048576) (h3:ps.length≤1048575) (hN:N2 ps) :
  q78 vs rs ps v a=true∧v78_0 vs rs ps v a=vs∧v78_1 vs rs ps v a=rs∧v78_2 vs rs ps v a=(bif isC vs rs ps && isC vs rs (insP ps v a) then insP ps v a else ps)∧v78_3 vs rs ps v a=(isC vs rs ps && isC vs rs (insP ps v a)):=by
 obtain ⟨c0,c1,c2,c3⟩:=P75 vs rs ps h1 h2 (by omega)
 obtain ⟨r,g1,g2,g3,g4⟩:=run78 vs rs vs rs ps v a (by omega) hN
 have hl:=insP_len ps v a
 have k1:=P51 vs rs ps h1 h2 (by omega)
 have k2:=P51 vs rs (insP ps v a) h1 h2 (by omega)
 unfold q78 v78_0 v78_1 v78_2 v78_3
 rw [c0,c1,c2,c3,k1.1,k1.2,g1]
 obtain ⟨b,acc⟩:=r
 cases b with
 | false =>
  obtain ⟨e1,e2⟩:=g3 rfl
  simp only at e1 e2
  have e1':acc++[AV.agg [AV.int .i64 v,AV.int .i64 a]]=insP ps v a:=e1
  simp only [ro,Bool.not_false,cond_true,room2 _ _ e2,e1',k2.1,k2.2]
  cases isC vs rs ps <;> cases isC vs rs (insP ps v a) <;> (refine ⟨?_,?_,?_,?_,?_⟩ <;> first|rfl|trivial)
 | true =>
  have e1:=g4 rfl
  simp only at e1
  subst e1
  simp only [ro,Bool.not_true,cond_false,k2.1,k2.2]
  cases isC vs rs ps <;> cases isC vs rs (insP ps v a) <;> (refine ⟨?_,?_,?_,?_,?_⟩ <;> first|rfl|trivial)
end Go.Proofs.Ytkdnhnkhcldonaa
