import Derived.Test.YtkdnhnkhcldonaaSTm
namespace Go.Proofs.Ytkdnhnkhcldonaa
open Go Go.Proofs.VE
set_option linter.unusedVariables false
set_option linter.unusedSimpArgs false
def Cur (b:List AV) (i:Int):Prop:=0≤i∧i≤b.length∧b.length≤1048576
theorem and255 (x:Int):0≤IntKind.i64.wrap ((BitVec.ofInt 64 x &&& BitVec.ofInt 64 255).toNat:Int)∧IntKind.i64.wrap ((BitVec.ofInt 64 x &&& BitVec.ofInt 64 255).toNat:Int)≤255:=by
 have h:(BitVec.ofInt 64 x &&& BitVec.ofInt 64 255).toNat≤255:=by
  rw [BitVec.toNat_and]
  exact Nat.and_le_right
 rw [wrap_in (by omega) (by omega)]
 omega
theorem byte {b:List AV} {i:Int} (hc:Cur b i) (h:Int):q94 b i h=true∧(0≤v94_0 b i h∧v94_0 b i h≤255)∧Cur b (v94_2 b i h):=by
 obtain ⟨h0,h1,h2⟩:=hc
 unfold q94 v94_0 v94_2
 rw [hid_eq,hid_eq]
 by_cases c:i<b.length
 ·rw [decide_eq_true c,decide_eq_true h0]
  simp only [cond_true]
  refine ⟨rfl,and255 _,?_⟩
  rw [wrap_in (by omega) (by omega)]
  exact ⟨by omega,by omega,h2⟩
 ·rw [decide_eq_false c]
  simp only [cond_false]
  exact ⟨trivial,and255 _,h0,h1,h2⟩
theorem tmod_in {x n:Int} (x0:0≤x) (n0:0<n):0≤Int.tmod x n∧Int.tmod x n<n:=⟨Int.tmod_nonneg _ x0,Int.tmod_lt_of_pos _ n0⟩
theorem four {x y z w:Int} (hx:0≤x∧x≤255) (hy:0≤y∧y≤255) (hz:0≤z∧z≤255) (hw:0≤w∧w≤255):0≤IntKind.i64.wrap (IntKind.i64.wrap (IntKind.i64.wrap (IntKind.i64.wrap (x*16777216)+IntKind.i64.wrap (y*65536))+IntKind.i64.wrap (z*256))+w):=by
 rw [wrap_in (a:=x*16777216) (by omega) (by omega),wrap_in (a:=y*65536) (by omega) (by omega),wrap_in (a:=z*256) (by omega) (by omega),wrap_in (a:=x*16777216+y*65536) (by omega) (by omega),wrap_in (a:=x*16777216+y*65536+z*256) (by omega) (by omega),wrap_in (by omega) (by omega)]
 omega
theorem below {b:List AV} {i:Int} (hc:Cur b i) (h:Int) {n:Int} (n0:0<n):q57 n b i h=true∧(0≤v57_0 n b i h∧v57_0 n b i h<n)∧v57_1 n b i h=b∧Cur b (v57_2 n b i h):=by
 obtain ⟨x0,x1,x2⟩:=byte hc h
 obtain ⟨y0,y1,y2⟩:=byte x2 (v94_3 b i h)
 obtain ⟨z0,z1,z2⟩:=byte y2 (v94_3 b (v94_2 b i h) (v94_3 b i h))
 obtain ⟨w0,w1,w2⟩:=byte z2 (v94_3 b (v94_2 b (v94_2 b i h) (v94_3 b i h)) (v94_3 b (v94_2 b i h) (v94_3 b i h)))
 have d1:decide (n≤0)=false:=decide_eq_false (by omega)
 have d2:decide (n=0)=false:=decide_eq_false (by omega)
 unfold q57 v57_0 v57_1 v57_2
 rw [hid_eq,hid_eq,hid_eq]
 simp only [v94_1]
 rw [d1]
 simp only [cond_false]
 by_cases c:n≤256
 ·rw [decide_eq_true c,d2,x0]
  simp only [cond_true]
  exact ⟨rfl,tmod_in x1.1 n0,trivial,x2⟩
 ·rw [decide_eq_false c,d2,x0,y0,z0,w0]
  simp only [cond_false]
  exact ⟨rfl,tmod_in (four x1 y1 z1 w1) n0,trivial,w2⟩
theorem pick {b:List AV} {i:Int} (hc:Cur b i) (h:Int) {L:List AV} (L0:0<L.length):q60 b i h L=true∧v60_1 b i h L=b∧Cur b (v60_2 b i h L)∧∃ j:Nat,j<L.length∧v60_0 b i h L=fI (L.getD j .undef) 0:=by
 obtain ⟨x0,⟨x1,x2⟩,x3,x4⟩:=below hc h (n:=(L.length:Int)) (by omega)
 unfold q60 v60_0 v60_1 v60_2
 rw [x0,decide_eq_true x1,decide_eq_true x2]
 exact ⟨rfl,x3,x4,(v57_0 (L.length:Int) b i h).toNat,by omega,rfl⟩
theorem wide_pos {b:List AV} {i:Int} (hc:Cur b i) (h:Int):0<v60_0 b i h [AV.int .i64 3,AV.int .i64 10,AV.int .i64 30,AV.int .i64 1000]:=by
 obtain ⟨a1,a2,a3,j,a4,a5⟩:=pick hc h (L:=[AV.int .i64 3,AV.int .i64 10,AV.int .i64 30,AV.int .i64 1000]) (by decide)
 rw [a5]
 have:j<4:=a4
 obtain rfl|rfl|rfl|rfl:j=0∨j=1∨j=2∨j=3:=by omega
 all_goals decide
theorem values {b:List AV} {i:Int} (hc:Cur b i) (h:Int) {M:Int} (m0:0≤M) (m1:M≤100):q61 M b i h=true∧(v61_0 M b i h).length≤100∧v61_1 M b i h=b∧Cur b (v61_2 M b i h):=by
 obtain ⟨a1,a2,a3,_⟩:=pick hc h (L:=[AV.int .i64 3,AV.int .i64 10,AV.int .i64 30,AV.int .i64 1000]) (by decide)
 have pos:=wide_pos hc h
 have w13:IntKind.i64.wrap (M+1)=M+1:=wrap_in (by omega) (by omega)
 obtain ⟨b1,⟨b2,b3⟩,b4,b5⟩:=below a3 (v60_3 b i h [AV.int .i64 3,AV.int .i64 10,AV.int .i64 30,AV.int .i64 1000]) (n:=M+1) (by omega)
 unfold q61 v61_0 v61_1 v61_2
 rw [a1,a2,w13,b1,b4]
 generalize v60_0 b i h [AV.int .i64 3,AV.int .i64 10,AV.int .i64 30,AV.int .i64 1000]=wide at *
 generalize v60_2 b i h [AV.int .i64 3,AV.int .i64 10,AV.int .i64 30,AV.int .i64 1000]=i1 at *
 generalize v60_3 b i h [AV.int .i64 3,AV.int .i64 10,AV.int .i64 30,AV.int .i64 1000]=h1 at *
 generalize v57_0 (M+1) b i1 h1=m at *
 generalize v57_2 (M+1) b i1 h1=i2 at *
 obtain ⟨r,r1,r2,r3,r4⟩:=runW_ends (f:=R61_0 wide) (fun s:Int × List AV × List AV × Int × Int=>0≤s.1∧s.2.1.length+s.1=m∧s.2.2.1=b∧Cur b s.2.2.2.1) (fun r=>r.1.length≤100∧r.2.1=b∧Cur b r.2.2.1) (fun s=>s.1.toNat) (fun s hI=>by
   obtain ⟨t,L,b',k,g⟩:=s
   obtain ⟨t0,tl,rfl,hk⟩:=hI
   simp only at t0 tl hk
   by_cases ct:t > 0
   ·obtain ⟨c1,c2,c3,c4⟩:=below hk g pos
    have d1:decide (t > 0)=true:=decide_eq_true ct
    have wt:IntKind.i64.wrap (t - 1)=t - 1:=wrap_in (by omega) (by omega)
    have rm:∀ y:AV,(decide ((L.length+[y].length)*8≤140737488355328) && decide (L.length+[y].length≤140737488355328))=true:=fun y=>by
     simp only [List.length_singleton,Bool.and_eq_true,decide_eq_true_eq]
     omega
    refine .inl ⟨(t - 1,L++[AV.int .i64 (IntKind.i64.wrap (v57_0 wide b' k g - IntKind.i64.wrap (Int.tdiv wide 3)))],b',v57_2 wide b' k g,v57_3 wide b' k g),?_,⟨by simp only;omega,by simp only [List.length_append,List.length_singleton];omega,rfl,c4⟩,by simp only;omega⟩
    show F61_0 wide t L b' k g=_
    unfold F61_0
    rw [d1,c1,rm,wt,c3]
    rfl
   ·have d1:decide (t > 0)=false:=decide_eq_false ct
    refine .inr ⟨(L,b',k,g),?_,by simp only;omega,rfl,hk⟩
    show F61_0 wide t L b' k g=_
    unfold F61_0
    rw [d1]
    rfl) ((m - 0).toNat+1) (m,[],b,i2,v57_3 (M+1) b i1 h1) ⟨b2,by simp,rfl,b5⟩ (by simp only;omega)
 rw [r1]
 exact ⟨rfl,r2,r3,r4⟩
theorem value44 {b:List AV} {i:Int} (hc:Cur b i) (h:Int) {x:List AV} (hx:x.length≤1048576) (y z:List AV):q44 b i h x y z=true∧v44_1 b i h x y z=b∧Cur b (v44_2 b i h x y z):=by
 have six:0<[AV.int .i64 0,AV.int .i64 3,AV.int .i64 (-2),AV.int .i64 (-1000),AV.int .i64 1000,AV.int .i64 50].length:=by decide
 unfold q44 v44_1 v44_2
 by_cases c:(x.length:Int) > 0
 ·obtain ⟨a1,a2,a3,a4⟩:=below hc h (n:=4) (by decide)
  have e1:q63 4 b i h=true:=a1
  have e2:v63_1 4 b i h=b:=a3
  have e3:Cur b (v63_2 4 b i h):=a4
  rw [decide_eq_true c,e1,e2]
  simp only [cond_true,Bool.true_and]
  generalize v63_2 4 b i h=i1 at *
  generalize v63_3 4 b i h=h1 at *
  cases v63_0 4 b i h with
  | true =>
   obtain ⟨p1,p2,p3,_⟩:=pick e3 h1 six
   exact ⟨p1,p2,p3⟩
  | false =>
   obtain ⟨b1,⟨b2,b3⟩,b4,b5⟩:=below e3 h1 (n:=(x.length:Int)) (by omega)
   obtain ⟨c1,c2,c3,c4⟩:=below b5 (v57_3 (x.length:Int) b i1 h1) (n:=3) (by decide)
   rw [b1,b4,decide_eq_true b2,decide_eq_true b3,c1]
   exact ⟨rfl,c3,c4⟩
 ·rw [decide_eq_false c]
  obtain ⟨p1,p2,p3,_⟩:=pick hc h six
  exact ⟨p1,p2,p3⟩
theorem P39g (vs rs ps:List AV) (v:Int) (h1:vs.length≤1048576) (h2:rs.length≤1048576) (h3:ps.length≤1048576) (hN:N2 ps) :
  q39 vs rs ps v=true∧(v39_0 vs rs ps v).length=vs.length∧(v39_1 vs rs ps v).length=rs.length∧((v39_2 vs rs ps v).length≤ps.length∨(v39_2 vs rs ps v).length≤2001)∧N2 (v39_2 vs rs ps v):=by
 obtain ⟨m1,m2⟩:=P51 vs rs ps h1 h2 h3
 obtain ⟨c0,c1,c2,c3⟩:=P75 vs rs ps h1 h2 h3
 cases hc:isC vs rs ps with
 | false =>
  unfold q39 v39_0 v39_1 v39_2
  rw [m1,m2,c0,c1,c2,c3,hc]
  exact ⟨rfl,rfl,rfl,.inl (Nat.le_refl _),hN⟩
 | true =>
  cases hb:v52_0 v (-1000) 1000 with
  | false =>
   unfold q39 v39_0 v39_1 v39_2
   rw [m1,m2,c0,c1,c2,c3,hc,hb]
   exact ⟨rfl,rfl,rfl,.inl (Nat.le_refl _),hN⟩
  | true =>
   rw [v52,Bool.and_eq_true,decide_eq_true_eq,decide_eq_true_eq] at hb
   have hcol:=(isC_iff vs rs ps h1).1 hc
   cases hf:(findP ps v).isSome with
   | true =>
    obtain ⟨e0,e1,e2,e3,_⟩:=crack_oldS hcol hb hf
    rw [e0,e1,e2,e3]
    exact ⟨rfl,rfl,rfl,.inl (Nat.le_refl _),hN⟩
   | false =>
    obtain ⟨a,b,at_,ss,hcr⟩:=crack_newS hcol hN hb hf
    obtain ⟨e0,e1,e2,e3,_⟩:=hcr.c
    rw [e0,e1,e2,e3]
    exact ⟨rfl,appS_len _ _,appS_len _ _,.inr (col_few hcr.ok),hcr.n2⟩
theorem crk109 {b:List AV} {i:Int} (hc:Cur b i) (h:Int):q109 b i h=true∧(v109_0 b i h).length≤100∧(v109_1 b i h).length≤100∧(v109_2 b i h).length≤2001∧N2 (v109_2 b i h)∧v109_3 b i h=b∧Cur b (v109_4 b i h):=by
 obtain ⟨a1,a2,a3,a4⟩:=values hc h (M:=14) (by decide) (by decide)
 obtain ⟨n1,n2,n3,n4⟩:=P35 (v61_0 14 b i h) (by omega)
 have l0:(v35_0 (v61_0 14 b i h)).length≤100:=by
  rw [n2];cases v36_0 (v61_0 14 b i h)
  ·simp
  ·exact a2
 have l1:(v35_1 (v61_0 14 b i h)).length≤100:=by
  rw [n3];cases v36_0 (v61_0 14 b i h)
  ·simp
  ·simp only [cond_true];rw [rows_len];exact a2
 obtain ⟨b1,⟨b2,b3⟩,b4,b5⟩:=below a4 (v61_3 14 b i h) (n:=5) (by decide)
 unfold q109 v109_0 v109_1 v109_2 v109_3 v109_4
 rw [a1,n1,a3,b1,b4,n4]
 generalize v35_0 (v61_0 14 b i h)=V at *
 generalize v35_1 (v61_0 14 b i h)=W at *
 generalize v57_0 5 b (v61_2 14 b i h) (v61_3 14 b i h)=m at *
 generalize v57_2 5 b (v61_2 14 b i h) (v61_3 14 b i h)=i2 at *
 obtain ⟨r,r1,r2⟩:=runW_ends (f:=R109_0) (fun s:Int × List AV × List AV × List AV × List AV × Int × Int=>0≤s.1∧s.1≤5∧s.2.1.length≤100∧s.2.2.1.length≤100∧s.2.2.2.1.length≤2001∧N2 s.2.2.2.1∧s.2.2.2.2.1=b∧Cur b s.2.2.2.2.2.1) (fun r=>r.1.length≤100∧r.2.1.length≤100∧r.2.2.1.length≤2001∧N2 r.2.2.1∧r.2.2.2.1=b∧Cur b r.2.2.2.2.1) (fun s=>s.1.toNat) (fun s hI=>by
   obtain ⟨t,X,Y,Z,b',k,g⟩:=s
   obtain ⟨t0,t5,hX,hY,hZ,hN,rfl,hk⟩:=hI
   simp only at t0 t5 hX hY hZ hN hk
   by_cases ct:t > 0
   ·obtain ⟨c1,c3,c4⟩:=value44 hk g (x:=X) (by omega) Y Z
    have d1:decide (t > 0)=true:=decide_eq_true ct
    have wt:IntKind.i64.wrap (t - 1)=t - 1:=wrap_in (by omega) (by omega)
    obtain ⟨g0,g1,g2,g3,g4⟩:=P39g X Y Z (v44_0 b' k g X Y Z) (by omega) (by omega) (by omega) hN
    refine .inl ⟨(t - 1,v39_0 X Y Z (v44_0 b' k g X Y Z),v39_1 X Y Z (v44_0 b' k g X Y Z),v39_2 X Y Z (v44_0 b' k g X Y Z),b',v44_2 b' k g X Y Z,v44_3 b' k g X Y Z),?_,⟨by simp only;omega,by simp only;omega,by simp only;omega,by simp only;omega,by simp only;omega,g4,rfl,c4⟩,by simp only;omega⟩
    show F109_0 t X Y Z b' k g=_
    unfold F109_0
    simp only [v44_4,v44_5,v44_6]
    rw [d1,c1,g0,wt,c3]
    rfl
   ·have d1:decide (t > 0)=false:=decide_eq_false ct
    refine .inr ⟨(X,Y,Z,b',k,g),?_,hX,hY,hZ,hN,rfl,hk⟩
    show F109_0 t X Y Z b' k g=_
    unfold F109_0
    rw [d1]
    rfl) ((m - 0).toNat+1) (m,V,W,[],b,i2,v57_3 5 b (v61_2 14 b i h) (v61_3 14 b i h)) ⟨b2,by simp only;omega,l0,l1,by simp,N2_nil,rfl,b5⟩ (by simp only;omega)
 rw [r1]
 exact ⟨rfl,r2⟩
theorem N2.snoc {P:List AV} (h:N2 P) (a b:Int):N2 (P++[mk2 a b]):=fun x hx=>by
 rcases List.mem_append.1 hx with hx|hx
 ·exact h x hx
 ·rw [List.mem_singleton.1 hx];rfl
theorem any82 {b:List AV} {i:Int} (hc:Cur b i) (h:Int):q82 b i h=true∧(v82_0 b i h).length≤1048576∧(v82_1 b i h).length≤1048576∧(v82_2 b i h).length≤1048576∧N2 (v82_2 b i h)∧v82_3 b i h=b∧Cur b (v82_4 b i h):=by
 obtain ⟨a0,a1,a2,a3,a4,a5,a6⟩:=crk109 hc h
 obtain ⟨b1,_,b4,b5⟩:=below a6 (v109_5 b i h) (n:=12) (by decide)
 unfold q82 v82_0 v82_1 v82_2 v82_3 v82_4
 rw [a0,a5,b1,b4]
 generalize v109_0 b i h=X at *
 generalize v109_1 b i h=Y at *
 generalize v109_2 b i h=Z at *
 generalize v109_4 b i h=i1 at *
 generalize v109_5 b i h=h1 at *
 generalize v57_2 12 b i1 h1=i2 at *
 generalize v57_3 12 b i1 h1=h2 at *
 generalize v57_0 12 b i1 h1=d at *
 cases decide (d=0) with
 | true =>
  by_cases c:(X.length:Int) > 0
  ·obtain ⟨p1,p2,p3,_⟩:=pick b5 h2 (L:=[AV.int .i64 0,AV.int .i64 999,AV.int .i64 1000,AV.int .i64 (-5)]) (by decide)
   rw [decide_eq_true c,p1]
   refine ⟨rfl,by simp only [cond_true,List.length_set];omega,by simp only [cond_true];omega,by simp only [cond_true];omega,a4,p2,p3⟩
  ·rw [decide_eq_false c]
   exact ⟨rfl,by simp only [cond_true,cond_false];omega,by simp only [cond_true];omega,by simp only [cond_true];omega,a4,rfl,b5⟩
 | false =>
  cases decide (d=1) with
  | true =>
   obtain ⟨c1,_,c4,c5⟩:=below b5 h2 (n:=9) (by decide)
   obtain ⟨d1,_,d4,d5⟩:=below c5 (v57_3 9 b i2 h2) (n:=9) (by decide)
   have rm:∀ y:AV,(decide ((Z.length+[y].length)*16≤140737488355328) && decide (Z.length+[y].length≤140737488355328))=true:=fun y=>room2 Z y (by omega)
   rw [c1,c4,d1,rm]
   exact ⟨rfl,by simp only [cond_false];omega,by simp only [cond_false,cond_true];omega,by simp only [cond_false,cond_true,List.length_append,List.length_singleton];omega,a4.snoc _ _,d4,d5⟩
  | false =>
   cases decide (d=2) with
   | true =>
    have rm:(decide ((Y.length+[AV.int .i64 0].length)*8≤140737488355328) && decide (Y.length+[AV.int .i64 0].length≤140737488355328))=true:=room8 Y _ (by omega)
    rw [rm]
    exact ⟨rfl,by simp only [cond_false];omega,by simp only [cond_false,cond_true,List.length_append,List.length_singleton];omega,by simp only [cond_false];omega,a4,rfl,b5⟩
   | false=>exact ⟨rfl,by simp only [cond_false];omega,by simp only [cond_false];omega,by simp only [cond_false];omega,a4,rfl,b5⟩
theorem range114 {b:List AV} {i:Int} (hc:Cur b i) (h:Int):q114 b i h=true∧v114_2 b i h=b∧Cur b (v114_3 b i h):=by
 obtain ⟨a1,a2,a3,_⟩:=pick hc h (L:=[AV.int .i64 3,AV.int .i64 10,AV.int .i64 30,AV.int .i64 1000]) (by decide)
 have pos:=wide_pos hc h
 have e116:q116 b i h=true∧v116_2 b i h=b∧Cur b (v116_3 b i h):=by
  unfold q116 v116_2 v116_3
  rw [a1,a2]
  generalize v60_0 b i h [AV.int .i64 3,AV.int .i64 10,AV.int .i64 30,AV.int .i64 1000]=wide at *
  generalize v60_2 b i h [AV.int .i64 3,AV.int .i64 10,AV.int .i64 30,AV.int .i64 1000]=i1 at *
  generalize v60_3 b i h [AV.int .i64 3,AV.int .i64 10,AV.int .i64 30,AV.int .i64 1000]=h1 at *
  obtain ⟨b1,_,b4,b5⟩:=below a3 h1 pos
  obtain ⟨c1,_,c4,c5⟩:=below b5 (v57_3 wide b i1 h1) pos
  rw [b1,b4,c1]
  exact ⟨rfl,c4,c5⟩
 obtain ⟨e1,e2,e3⟩:=e116
 obtain ⟨b1,_,b4,b5⟩:=below e3 (v116_4 b i h) (n:=10) (by decide)
 obtain ⟨p1,p2,p3,_⟩:=pick b5 (v57_3 10 b (v116_3 b i h) (v116_4 b i h)) (L:=[AV.int .i64 (-1001),AV.int .i64 (-1000),AV.int .i64 1000,AV.int .i64 1001]) (by decide)
 unfold q114 v114_2 v114_3
 rw [e1,e2,b1,b4,p1,p2]
 cases decide (v57_0 10 b (v116_3 b i h) (v116_4 b i h)=0) with
 | true=>exact ⟨rfl,rfl,p3⟩
 | false =>
  cases decide (v57_0 10 b (v116_3 b i h) (v116_4 b i h)=1) with
  | true=>exact ⟨rfl,rfl,p3⟩
  | false=>exact ⟨rfl,rfl,b5⟩
theorem range108 {b:List AV} {i:Int} (hc:Cur b i) (h:Int) {x:List AV} (hx:x.length≤1048576) (y z:List AV):q108 b i h x y z=true∧v108_2 b i h x y z=b∧Cur b (v108_3 b i h x y z):=by
 obtain ⟨a1,a2,a3⟩:=value44 hc h hx y z
 obtain ⟨b1,b2,b3⟩:=value44 a3 (v44_3 b i h x y z) hx y z
 unfold q108 v108_2 v108_3
 simp only [v44_4,v44_5,v44_6]
 rw [a1,a2,b1,b2]
 generalize v44_2 b (v44_2 b i h x y z) (v44_3 b i h x y z) x y z=i1 at *
 generalize v44_3 b (v44_2 b i h x y z) (v44_3 b i h x y z) x y z=h1 at *
 obtain ⟨c1,_,c3,c4⟩:=below b3 h1 (n:=12) (by decide)
 have e1:q63 12 b i1 h1=true:=c1
 have e2:v63_1 12 b i1 h1=b:=c3
 have e3:Cur b (v63_2 12 b i1 h1):=c4
 obtain ⟨d1,d2,d3⟩:=range114 e3 (v63_3 12 b i1 h1)
 rw [e1,e2,d1,d2]
 cases v63_0 12 b i1 h1 with
 | true=>exact ⟨rfl,rfl,d3⟩
 | false=>exact ⟨rfl,rfl,e3⟩
structure Sz (S V R P:List AV):Prop where
 s:S.length≤1048576
 v:V.length≤1048576
 r:R.length≤1048576
 p:P.length≤1048576
 n:N2 P
theorem new107 (xs:List AV) (h:xs.length≤100):q107 xs=true∧Sz (v107_0 xs) (v107_2 xs) (v107_3 xs) (v107_4 xs):=by
 obtain ⟨n1,n2,n3,n4⟩:=P35 xs (by omega)
 unfold q107 v107_0 v107_2 v107_3 v107_4
 rw [(P36 xs (by omega)).1,n1,n2,n3,n4]
 cases hv:v36_0 xs with
 | false=>exact ⟨rfl,by simp,by simp,by simp,by simp,N2_nil⟩
 | true =>
  simp only [cond_true,Bool.not_true,cond_false]
  obtain ⟨r,r1,r2⟩:=runW_ends (f:=R107_0 xs) (fun s=>match s with
    | .inl s=>s.1=0∧s.2.2.1=xs∧s.2.2.2.2.1=rows xs∧s.2.2.2.2.2=[]
    | .inr s=>0≤s.1∧s.1≤xs.length∧(s.2.1.length:Int)=s.1∧s.2.2.2.1=xs∧s.2.2.2.2.2.1=rows xs∧s.2.2.2.2.2.2=[])
   (fun r=>match r with
    | .inl r=>r.2.1=xs∧r.2.2.2.1=rows xs∧r.2.2.2.2=[]
    | .inr r=>r.1.length≤100∧r.2.2.1=xs∧r.2.2.2.2.1=rows xs∧r.2.2.2.2.2=[])
   (fun s=>match s with | .inl s=>((xs.length:Int) - s.1).toNat | .inr s=>((xs.length:Int) - s.1).toNat) (fun s hI=>by
    cases s with
    | inl s =>
     obtain ⟨k,a,X,c,Y,Z⟩:=s
     simp only at hI
     obtain ⟨rfl,rfl,rfl,rfl⟩:=hI
     by_cases ck:(0:Int)<X.length
     ·have d1:decide ((0:Int)<(X.length:Int))=true:=decide_eq_true ck
      refine .inl ⟨.inr (1,[AV.agg [AV.int .i64 (fI (X.getD (0:Int).toNat AV.undef) 0),AV.int .i64 0,AV.int .i64 0,AV.int .i64 (-1)]],a,X,c,rows X,[]),?_,⟨by simp,by simp only;omega,by simp,rfl,rfl,rfl⟩,by simp only;omega⟩
      show F107_0_s0 X 0 a X c (rows X) []=_
      unfold F107_0_s0
      rw [d1]
      rfl
     ·have d1:decide ((0:Int)<(X.length:Int))=false:=decide_eq_false ck
      refine .inr ⟨.inl (a,X,c,rows X,[]),?_,rfl,rfl,rfl⟩
      show F107_0_s0 X 0 a X c (rows X) []=_
      unfold F107_0_s0
      rw [d1]
      rfl
    | inr s =>
     obtain ⟨k,S,a,X,c,Y,Z⟩:=s
     simp only at hI
     obtain ⟨k0,k1,hS,rfl,rfl,rfl⟩:=hI
     by_cases ck:k<X.length
     ·have d1:decide (k<(X.length:Int))=true:=decide_eq_true ck
      have d2:decide (0≤k)=true:=decide_eq_true k0
      have wk_:IntKind.i64.wrap (k+1)=k+1:=wrap_in (by omega) (by omega)
      have rm:∀ y:AV,(decide ((S.length+[y].length)*32≤140737488355328) && decide (S.length+[y].length≤140737488355328))=true:=fun y=>by
       simp only [List.length_singleton,Bool.and_eq_true,decide_eq_true_eq]
       omega
      refine .inl ⟨.inr (k+1,S++[AV.agg [AV.int .i64 (fI (X.getD k.toNat AV.undef) 0),AV.int .i64 k,AV.int .i64 0,AV.int .i64 (-1)]],a,X,c,rows X,[]),?_,⟨by simp only;omega,by simp only;omega,by simp only [List.length_append,List.length_singleton];omega,rfl,rfl,rfl⟩,by simp only;omega⟩
      show F107_0_s1 X k S a X c (rows X) []=_
      unfold F107_0_s1
      rw [d1,d2,rm,wk_]
      rfl
     ·have d1:decide (k<(X.length:Int))=false:=decide_eq_false ck
      refine .inr ⟨.inr (S,a,X,c,rows X,[]),?_,by simp only;omega,rfl,rfl,rfl⟩
      show F107_0_s1 X k S a X c (rows X) []=_
      unfold F107_0_s1
      rw [d1]
      rfl) (((xs.length:Int) - 0).toNat+1) (.inl (0,0,xs,0,rows xs,[])) ⟨rfl,rfl,rfl,rfl⟩ (by simp only;omega)
  rw [r1]
  have lr:=rows_len xs
  cases r with
  | inl r =>
   obtain ⟨e1,e2,e3⟩:=r2
   simp only [ro,sumE,e1,e2,e3]
   exact ⟨rfl,by simp,by omega,by omega,by simp,N2_nil⟩
  | inr r =>
   obtain ⟨e0,e1,e2,e3⟩:=r2
   simp only [ro,sumE,e1,e2,e3]
   exact ⟨rfl,by omega,by omega,by omega,by simp,N2_nil⟩
theorem sz16 {s v r p:List AV} (n x:Int) (z:Sz s v r p):q16 s n v r p x=true∧Sz (v16_0 s n v r p x) (v16_2 s n v r p x) (v16_3 s n v r p x) (v16_4 s n v r p x):=by
 obtain ⟨a1,_,_,_,_,_,_,_,_,l0,l2,l3,l4⟩:=same16 s n v r p x z.s z.v z.r z.p
 refine ⟨a1,l0,l2,l3,l4,?_⟩
 cases h:v16_6 s n v r p x with
 | true=>exact (insd z.s z.v z.r z.p z.n h).rin.two
 | false =>
  obtain ⟨_,_,_,_,_,a6⟩:=P47 s n v r p z.s z.v z.r z.p
  have e:v16_4 s n v r p x=p:=by
   unfold v16_6 at h
   unfold v16_4
   rw [a6]
   cases h0:v19_0 s n v r p with
   | false=>rfl
   | true =>
    rw [h0] at h
    cases h1:decide (n ≥ 1000) with
    | true=>rfl
    | false =>
     rw [h1] at h
     cases h2:decide ((s.length:Int) > 0) with
     | true =>
      rw [h2] at h
      cases h3:v48_4 v r p x (IntKind.i64.wrap (fI (s.getD (IntKind.i64.wrap ((s.length:Int) - 1)).toNat AV.undef) 1+1)) with
      | false=>rfl
      | true=>rw [h3] at h;cases h
     | false =>
      rw [h2] at h
      cases h3:v48_4 v r p x 0 with
      | false=>rfl
      | true=>rw [h3] at h;cases h
  rw [e]
  exact z.n
theorem sz24 {s v r p:List AV} (n k:Int) (z:Sz s v r p):q24 s n v r p k=true∧Sz (v24_0 s n v r p k) (v24_2 s n v r p k) (v24_3 s n v r p k) (v24_4 s n v r p k):=by
 obtain ⟨a1,a2,a3,a4,a5,a6,_⟩:=P24 s n v r p k z.s z.v z.r z.p
 rw [a2,a4,a5,a6]
 exact ⟨a1,by rw [DS_len];exact z.s,z.v,z.r,z.p,z.n⟩
theorem sz20 {s v r p:List AV} (n t a b:Int) (z:Sz s v r p):q20 s n v r p t a b=true∧Sz (v20_0 s n v r p t a b) (v20_2 s n v r p t a b) (v20_3 s n v r p t a b) (v20_4 s n v r p t a b):=by
 obtain ⟨a1,a2,a3,a4,a5,a6,a7,_⟩:=P20q s n v r p t a b z.s z.v z.r z.p z.n
 rw [a2]
 exact ⟨a1,z.s,a4,a5,a6,a7⟩
theorem store81 {b:List AV} {i:Int} (hc:Cur b i) (h:Int):q81 b i h=true∧Sz (v81_0 b i h) (v81_2 b i h) (v81_3 b i h) (v81_4 b i h)∧v81_5 b i h=b∧Cur b (v81_6 b i h):=by
 obtain ⟨a1,a2,a3,a4⟩:=values hc h (M:=8) (by decide) (by decide)
 obtain ⟨n1,n2⟩:=new107 (v61_0 8 b i h) a2
 obtain ⟨b1,⟨b2,b3⟩,b4,b5⟩:=below a4 (v61_3 8 b i h) (n:=8) (by decide)
 unfold q81 v81_0 v81_2 v81_3 v81_4 v81_5 v81_6
 rw [a1,n1,a3,b1,b4]
 generalize v107_0 (v61_0 8 b i h)=S0 at *
 generalize v107_1 (v61_0 8 b i h)=N0 at *
 generalize v107_2 (v61_0 8 b i h)=V0 at *
 generalize v107_3 (v61_0 8 b i h)=R0 at *
 generalize v107_4 (v61_0 8 b i h)=P0 at *
 generalize v57_0 8 b (v61_2 8 b i h) (v61_3 8 b i h)=m at *
 generalize v57_2 8 b (v61_2 8 b i h) (v61_3 8 b i h)=i2 at *
 obtain ⟨r,r1,r2⟩:=runW_ends (f:=R81_0 0) (fun s:Int × List AV × List AV × Int × List AV × List AV × List AV × Int × Int=>0≤s.1∧s.1≤8∧Sz s.2.1 s.2.2.1 s.2.2.2.2.1 s.2.2.2.2.2.1∧s.2.2.2.2.2.2.1=b∧Cur b s.2.2.2.2.2.2.2.1) (fun r=>Sz r.1 r.2.1 r.2.2.2.1 r.2.2.2.2.1∧r.2.2.2.2.2.1=b∧Cur b r.2.2.2.2.2.2.1) (fun s=>s.1.toNat) (fun s hI=>by
   obtain ⟨t,S,V,N,R,P,b',k,g⟩:=s
   obtain ⟨t0,t5,hz,rfl,hk⟩:=hI
   simp only at t0 t5 hz hk
   by_cases ct:t > 0
   ·have d1:decide (t > 0)=true:=decide_eq_true ct
    have wt:IntKind.i64.wrap (t - 1)=t - 1:=wrap_in (by omega) (by omega)
    obtain ⟨c1,_,c3,c4⟩:=below hk g (n:=3) (by decide)
    cases e0:decide (v57_0 3 b' k g=0) with
    | true =>
     obtain ⟨f1,f2,f3⟩:=value44 c4 (v57_3 3 b' k g) hz.v R P
     obtain ⟨u1,u2⟩:=sz16 N (if (if v44_0 b' (v57_2 3 b' k g) (v57_3 3 b' k g) V R P<999 then v44_0 b' (v57_2 3 b' k g) (v57_3 3 b' k g) V R P else 999) > (-999) then (if v44_0 b' (v57_2 3 b' k g) (v57_3 3 b' k g) V R P<999 then v44_0 b' (v57_2 3 b' k g) (v57_3 3 b' k g) V R P else 999) else (-999)) hz
     refine .inl ⟨(t - 1,_,_,v16_1 S N V R P (if (if v44_0 b' (v57_2 3 b' k g) (v57_3 3 b' k g) V R P<999 then v44_0 b' (v57_2 3 b' k g) (v57_3 3 b' k g) V R P else 999) > (-999) then (if v44_0 b' (v57_2 3 b' k g) (v57_3 3 b' k g) V R P<999 then v44_0 b' (v57_2 3 b' k g) (v57_3 3 b' k g) V R P else 999) else (-999)),_,_,b',v44_2 b' (v57_2 3 b' k g) (v57_3 3 b' k g) V R P,v44_3 b' (v57_2 3 b' k g) (v57_3 3 b' k g) V R P),?_,⟨by simp only;omega,by simp only;omega,u2,rfl,f3⟩,by simp only;omega⟩
     show F81_0 0 t S V N R P b' k g=_
     unfold F81_0
     simp only [v44_4,v44_5,v44_6]
     rw [d1,c1,e0,c3,f1,f2,u1,wt]
     rfl
    | false =>
     cases e1:decide (v57_0 3 b' k g=1) with
     | true =>
      obtain ⟨f1,_,f2,f3⟩:=below c4 (v57_3 3 b' k g) (n:=10) (by decide)
      obtain ⟨u1,u2⟩:=sz24 N (v57_0 10 b' (v57_2 3 b' k g) (v57_3 3 b' k g)) hz
      refine .inl ⟨(t - 1,_,_,v24_1 S N V R P (v57_0 10 b' (v57_2 3 b' k g) (v57_3 3 b' k g)),_,_,b',v57_2 10 b' (v57_2 3 b' k g) (v57_3 3 b' k g),v57_3 10 b' (v57_2 3 b' k g) (v57_3 3 b' k g)),?_,⟨by simp only;omega,by simp only;omega,u2,rfl,f3⟩,by simp only;omega⟩
      show F81_0 0 t S V N R P b' k g=_
      unfold F81_0
      rw [d1,c1,e0,e1,c3,f1,f2,u1,wt]
      rfl
     | false =>
      obtain ⟨f1,f2,f3⟩:=range108 c4 (v57_3 3 b' k g) hz.v R P
      obtain ⟨u1,u2⟩:=sz20 N N (v108_0 b' (v57_2 3 b' k g) (v57_3 3 b' k g) V R P) (v108_1 b' (v57_2 3 b' k g) (v57_3 3 b' k g) V R P) hz
      refine .inl ⟨(t - 1,_,_,v20_1 S N V R P N (v108_0 b' (v57_2 3 b' k g) (v57_3 3 b' k g) V R P) (v108_1 b' (v57_2 3 b' k g) (v57_3 3 b' k g) V R P),_,_,b',v108_3 b' (v57_2 3 b' k g) (v57_3 3 b' k g) V R P,v108_4 b' (v57_2 3 b' k g) (v57_3 3 b' k g) V R P),?_,⟨by simp only;omega,by simp only;omega,u2,rfl,f3⟩,by simp only;omega⟩
      show F81_0 0 t S V N R P b' k g=_
      unfold F81_0
      simp only [v108_5,v108_6,v108_7,v44_4,v44_5,v44_6]
      rw [d1,c1,e0,e1,c3,f1,f2,u1,wt]
      rfl
   ·have d1:decide (t > 0)=false:=decide_eq_false ct
    refine .inr ⟨(S,V,N,R,P,b',k,g),?_,hz,rfl,hk⟩
    show F81_0 0 t S V N R P b' k g=_
    unfold F81_0
    rw [d1]
    rfl) ((m - 0).toNat+1) (m,S0,V0,N0,R0,P0,b,i2,v57_3 8 b (v61_2 8 b i h) (v61_3 8 b i h)) ⟨b2,by simp only;omega,n2,rfl,b5⟩ (by simp only;omega)
 rw [r1]
 exact ⟨rfl,r2⟩
theorem any43 {b:List AV} {i:Int} (hc:Cur b i) (h:Int):q43 b i h=true∧Sz (v43_0 b i h) (v43_2 b i h) (v43_3 b i h) (v43_4 b i h)∧v43_5 b i h=b∧Cur b (v43_6 b i h):=by
 obtain ⟨a0,a1,a5,a6⟩:=store81 hc h
 obtain ⟨b1,_,b4,b5⟩:=below a6 (v81_7 b i h) (n:=14) (by decide)
 unfold q43 v43_0 v43_2 v43_3 v43_4 v43_5 v43_6
 rw [a0,a5,b1,b4]
 generalize v81_0 b i h=S at *
 generalize v81_2 b i h=V at *
 generalize v81_3 b i h=R at *
 generalize v81_4 b i h=P at *
 generalize v81_6 b i h=i1 at *
 generalize v81_7 b i h=h1 at *
 generalize v57_2 14 b i1 h1=i2 at *
 generalize v57_3 14 b i1 h1=h2 at *
 generalize v57_0 14 b i1 h1=d at *
 cases decide (d=0) with
 | true =>
  obtain ⟨p1,p2,p3,_⟩:=pick b5 h2 (L:=[AV.int .i64 (-1),AV.int .i64 0,AV.int .i64 1000,AV.int .i64 1001]) (by decide)
  rw [p1,p2]
  exact ⟨rfl,a1,rfl,p3⟩
 | false =>
  cases decide (d=1) with
  | true =>
   by_cases c:(S.length:Int) > 0
   ·obtain ⟨p1,p2,p3,_⟩:=pick b5 h2 (L:=[AV.int .i64 (-2),AV.int .i64 0,AV.int .i64 1]) (by decide)
    rw [decide_eq_true c,p1,p2]
    exact ⟨rfl,⟨by simp only [cond_true,cond_false,List.length_set];exact a1.s,a1.v,a1.r,a1.p,a1.n⟩,rfl,p3⟩
   ·rw [decide_eq_false c]
    exact ⟨rfl,a1,rfl,b5⟩
  | false =>
   cases decide (d=2) with
   | true =>
    obtain ⟨p1,p2,p3,p4,p5,p6,p7⟩:=any82 b5 h2
    rw [p1,p6]
    exact ⟨rfl,⟨a1.s,p2,p3,p4,p5⟩,rfl,p7⟩
   | false=>exact ⟨rfl,a1,rfl,b5⟩
theorem start14 (code:List AV) (z:Int) (h:code.length≤1048576):∃ r,runW (R14i29_0 code z) (((code.length:Int) - 0).toNat+1) (IntKind.i64.wrap (10101+(code.length:Int)),0)=some r:=by
 obtain ⟨r,r1,_⟩:=runW_ends (f:=R14i29_0 code z) (fun s:Int × Int=>0≤s.2∧s.2≤code.length) (fun _=>True) (fun s=>((code.length:Int) - s.2).toNat) (fun s hI=>by
   obtain ⟨g,k⟩:=s
   obtain ⟨k0,k1⟩:=hI
   simp only at k0 k1
   by_cases ck:k<code.length
   ·have d1:decide (k<(code.length:Int))=true:=decide_eq_true ck
    have d2:decide (0≤k)=true:=decide_eq_true k0
    have wk_:IntKind.i64.wrap (k+1)=k+1:=wrap_in (by omega) (by omega)
    cases c4:decide (k<4000) with
    | true =>
     obtain ⟨g',e⟩:∃ g',R14i29_0 code z (g,k) = .next (g',k+1):=by
      show ∃ g',F14i29_0 code z g k=_
      unfold F14i29_0
      rw [d1,d2,c4,wk_]
      exact ⟨_,rfl⟩
     exact .inl ⟨(g',k+1),e,⟨by simp only;omega,by simp only;omega⟩,by simp only;omega⟩
    | false =>
     refine .inr ⟨g,?_,trivial⟩
     show F14i29_0 code z g k=_
     unfold F14i29_0
     rw [d1,c4]
     rfl
   ·have d1:decide (k<(code.length:Int))=false:=decide_eq_false ck
    refine .inr ⟨g,?_,trivial⟩
    show F14i29_0 code z g k=_
    unfold F14i29_0
    rw [d1]
    rfl) (((code.length:Int) - 0).toNat+1) (IntKind.i64.wrap (10101+(code.length:Int)),0) ⟨Int.le_refl 0,by simp only;omega⟩ (by simp only;omega)
 exact ⟨r,r1⟩
theorem start22 (code:List AV) (z:Int) (h:code.length≤1048576):∃ r,runW (R22i29_0 code z) (((code.length:Int) - 0).toNat+1) (IntKind.i64.wrap (10101+(code.length:Int)),0)=some r:=by
 obtain ⟨r,r1,_⟩:=runW_ends (f:=R22i29_0 code z) (fun s:Int × Int=>0≤s.2∧s.2≤code.length) (fun _=>True) (fun s=>((code.length:Int) - s.2).toNat) (fun s hI=>by
   obtain ⟨g,k⟩:=s
   obtain ⟨k0,k1⟩:=hI
   simp only at k0 k1
   by_cases ck:k<code.length
   ·have d1:decide (k<(code.length:Int))=true:=decide_eq_true ck
    have d2:decide (0≤k)=true:=decide_eq_true k0
    have wk_:IntKind.i64.wrap (k+1)=k+1:=wrap_in (by omega) (by omega)
    cases c4:decide (k<4000) with
    | true =>
     obtain ⟨g',e⟩:∃ g',R22i29_0 code z (g,k) = .next (g',k+1):=by
      show ∃ g',F22i29_0 code z g k=_
      unfold F22i29_0
      rw [d1,d2,c4,wk_]
      exact ⟨_,rfl⟩
     exact .inl ⟨(g',k+1),e,⟨by simp only;omega,by simp only;omega⟩,by simp only;omega⟩
    | false =>
     refine .inr ⟨g,?_,trivial⟩
     show F22i29_0 code z g k=_
     unfold F22i29_0
     rw [d1,c4]
     rfl
   ·have d1:decide (k<(code.length:Int))=false:=decide_eq_false ck
    refine .inr ⟨g,?_,trivial⟩
    show F22i29_0 code z g k=_
    unfold F22i29_0
    rw [d1]
    rfl) (((code.length:Int) - 0).toNat+1) (IntKind.i64.wrap (10101+(code.length:Int)),0) ⟨Int.le_refl 0,by simp only;omega⟩ (by simp only;omega)
 exact ⟨r,r1⟩
theorem start25 (code:List AV) (z z1 z2 z3:Int) (h:code.length≤1048576):∃ r,runW (R25i29_0 code z z1 z2 z3) (((code.length:Int) - 0).toNat+1) (IntKind.i64.wrap (10101+(code.length:Int)),0)=some r:=by
 obtain ⟨r,r1,_⟩:=runW_ends (f:=R25i29_0 code z z1 z2 z3) (fun s:Int × Int=>0≤s.2∧s.2≤code.length) (fun _=>True) (fun s=>((code.length:Int) - s.2).toNat) (fun s hI=>by
   obtain ⟨g,k⟩:=s
   obtain ⟨k0,k1⟩:=hI
   simp only at k0 k1
   by_cases ck:k<code.length
   ·have d1:decide (k<(code.length:Int))=true:=decide_eq_true ck
    have d2:decide (0≤k)=true:=decide_eq_true k0
    have wk_:IntKind.i64.wrap (k+1)=k+1:=wrap_in (by omega) (by omega)
    cases c4:decide (k<4000) with
    | true =>
     obtain ⟨g',e⟩:∃ g',R25i29_0 code z z1 z2 z3 (g,k) = .next (g',k+1):=by
      show ∃ g',F25i29_0 code z z1 z2 z3 g k=_
      unfold F25i29_0
      rw [d1,d2,c4,wk_]
      exact ⟨_,rfl⟩
     exact .inl ⟨(g',k+1),e,⟨by simp only;omega,by simp only;omega⟩,by simp only;omega⟩
    | false =>
     refine .inr ⟨g,?_,trivial⟩
     show F25i29_0 code z z1 z2 z3 g k=_
     unfold F25i29_0
     rw [d1,c4]
     rfl
   ·have d1:decide (k<(code.length:Int))=false:=decide_eq_false ck
    refine .inr ⟨g,?_,trivial⟩
    show F25i29_0 code z z1 z2 z3 g k=_
    unfold F25i29_0
    rw [d1]
    rfl) (((code.length:Int) - 0).toNat+1) (IntKind.i64.wrap (10101+(code.length:Int)),0) ⟨Int.le_refl 0,by simp only;omega⟩ (by simp only;omega)
 exact ⟨r,r1⟩
theorem draw14 (code:List AV) (h:code.length≤1048576):q14 code=true∧Sz (v14_0 code) (v14_2 code) (v14_3 code) (v14_4 code):=by
 obtain ⟨r,r1⟩:=start14 code 0 h
 obtain ⟨a1,a2,a3,a4⟩:=any43 (b:=code) (i:=0) ⟨Int.le_refl 0,by omega,h⟩ r
 obtain ⟨b1,b2,b3⟩:=value44 a4 (v43_7 code 0 r) a2.v (v43_3 code 0 r) (v43_4 code 0 r)
 unfold q14 v14_0 v14_2 v14_3 v14_4
 rw [r1]
 simp only [ro,v44_4,v44_5,v44_6]
 rw [a1,a3,b1]
 exact ⟨rfl,a2⟩
theorem draw22 (code:List AV) (h:code.length≤1048576):q22 code=true∧Sz (v22_0 code) (v22_2 code) (v22_3 code) (v22_4 code):=by
 obtain ⟨r,r1⟩:=start22 code 0 h
 obtain ⟨a1,a2,a3,a4⟩:=any43 (b:=code) (i:=0) ⟨Int.le_refl 0,by omega,h⟩ r
 obtain ⟨b1,_⟩:=below a4 (v43_7 code 0 r) (n:=12) (by decide)
 unfold q22 v22_0 v22_2 v22_3 v22_4
 rw [r1]
 simp only [ro]
 rw [a1,a3,b1]
 exact ⟨rfl,a2⟩
theorem draw25 (code:List AV) (h:code.length≤1048576):q25 code=true:=by
 obtain ⟨r,r1⟩:=start25 code 0 0 0 0 h
 obtain ⟨a1,_,a3,a4⟩:=below (b:=code) (i:=0) ⟨Int.le_refl 0,by omega,h⟩ r (n:=4) (by decide)
 obtain ⟨p1,p2,p3,_⟩:=pick a4 (v57_3 4 code 0 r) (L:=[AV.int .i64 (-1),AV.int .i64 (IntKind.i64.wrap (v57_0 4 code 0 r+1)),AV.int .i64 (IntKind.i64.wrap (v57_0 4 code 0 r+2)),AV.int .i64 0]) (by simp)
 obtain ⟨b1,_⟩:=below p3 (v60_3 code (v57_2 4 code 0 r) (v57_3 4 code 0 r) [AV.int .i64 (-1),AV.int .i64 (IntKind.i64.wrap (v57_0 4 code 0 r+1)),AV.int .i64 (IntKind.i64.wrap (v57_0 4 code 0 r+2)),AV.int .i64 0]) (n:=8) (by decide)
 unfold q25
 rw [r1]
 simp only [ro]
 rw [a1,a3,p1,p2,b1]
 rfl
end Go.Proofs.Ytkdnhnkhcldonaa
