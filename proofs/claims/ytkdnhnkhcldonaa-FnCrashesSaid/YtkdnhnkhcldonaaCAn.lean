import Derived.Test.YtkdnhnkhcldonaaCAm
namespace Go.Proofs.Ytkdnhnkhcldonaa
open Go Go.Proofs.VE
set_option linter.unusedVariables false
set_option linter.unusedSimpArgs false
def Cur (b:List AV) (i:Int):Prop:=0≤i∧i≤b.length∧b.length≤1048576
theorem and255 (x:Int):0≤IntKind.i64.wrap ((BitVec.ofInt 64 x &&& BitVec.ofInt 64 255).toNat:Int)∧IntKind.i64.wrap ((BitVec.ofInt 64 x &&& BitVec.ofInt 64 255).toNat:Int)≤255:=by
 have h:(BitVec.ofInt 64 x &&& BitVec.ofInt 64 255).toNat≤255:=by
  rw [BitVec.toNat_and]
  exact Nat.and_le_right
 rw [wrap_in (by omega) (by omega)]
 omega
theorem byte {b:List AV} {i:Int} (hc:Cur b i) (h:Int):q94 b i h=true∧(0≤v94_0 b i h∧v94_0 b i h≤255)∧Cur b (v94_2 b i h):=by
 obtain ⟨h0,h1,h2⟩:=hc
 unfold q94 v94_0 v94_2
 rw [hid_eq,hid_eq]
 by_cases c:i<b.length
 ·rw [decide_eq_true c,decide_eq_true h0]
  simp only [cond_true]
  refine ⟨rfl,and255 _,?_⟩
  rw [wrap_in (by omega) (by omega)]
  exact ⟨by omega,by omega,h2⟩
 ·rw [decide_eq_false c]
  simp only [cond_false]
  exact ⟨trivial,and255 _,h0,h1,h2⟩
theorem tmod_in {x n:Int} (x0:0≤x) (n0:0<n):0≤Int.tmod x n∧Int.tmod x n<n:=⟨Int.tmod_nonneg _ x0,Int.tmod_lt_of_pos _ n0⟩
theorem four {x y z w:Int} (hx:0≤x∧x≤255) (hy:0≤y∧y≤255) (hz:0≤z∧z≤255) (hw:0≤w∧w≤255):0≤IntKind.i64.wrap (IntKind.i64.wrap (IntKind.i64.wrap (IntKind.i64.wrap (x*16777216)+IntKind.i64.wrap (y*65536))+IntKind.i64.wrap (z*256))+w):=by
 rw [wrap_in (a:=x*16777216) (by omega) (by omega),wrap_in (a:=y*65536) (by omega) (by omega),wrap_in (a:=z*256) (by omega) (by omega),wrap_in (a:=x*16777216+y*65536) (by omega) (by omega),wrap_in (a:=x*16777216+y*65536+z*256) (by omega) (by omega),wrap_in (by omega) (by omega)]
 omega
theorem below {b:List AV} {i:Int} (hc:Cur b i) (h:Int) {n:Int} (n0:0<n):q57 n b i h=true∧(0≤v57_0 n b i h∧v57_0 n b i h<n)∧v57_1 n b i h=b∧Cur b (v57_2 n b i h):=by
 obtain ⟨x0,x1,x2⟩:=byte hc h
 obtain ⟨y0,y1,y2⟩:=byte x2 (v94_3 b i h)
 obtain ⟨z0,z1,z2⟩:=byte y2 (v94_3 b (v94_2 b i h) (v94_3 b i h))
 obtain ⟨w0,w1,w2⟩:=byte z2 (v94_3 b (v94_2 b (v94_2 b i h) (v94_3 b i h)) (v94_3 b (v94_2 b i h) (v94_3 b i h)))
 have d1:decide (n≤0)=false:=decide_eq_false (by omega)
 have d2:decide (n=0)=false:=decide_eq_false (by omega)
 unfold q57 v57_0 v57_1 v57_2
 rw [hid_eq,hid_eq,hid_eq]
 simp only [v94_1]
 rw [d1]
 simp only [cond_false]
 by_cases c:n≤256
 ·rw [decide_eq_true c,d2,x0]
  simp only [cond_true]
  exact ⟨rfl,tmod_in x1.1 n0,trivial,x2⟩
 ·rw [decide_eq_false c,d2,x0,y0,z0,w0]
  simp only [cond_false]
  exact ⟨rfl,tmod_in (four x1 y1 z1 w1) n0,trivial,w2⟩
theorem pick {b:List AV} {i:Int} (hc:Cur b i) (h:Int) {L:List AV} (L0:0<L.length):q60 b i h L=true∧v60_1 b i h L=b∧Cur b (v60_2 b i h L)∧∃ j:Nat,j<L.length∧v60_0 b i h L=fI (L.getD j .undef) 0:=by
 obtain ⟨x0,⟨x1,x2⟩,x3,x4⟩:=below hc h (n:=(L.length:Int)) (by omega)
 unfold q60 v60_0 v60_1 v60_2
 rw [x0,decide_eq_true x1,decide_eq_true x2]
 exact ⟨rfl,x3,x4,(v57_0 (L.length:Int) b i h).toNat,by omega,rfl⟩
theorem values {b:List AV} {i:Int} (hc:Cur b i) (h:Int):q61 12 b i h=true∧(v61_0 12 b i h).length≤12∧v61_1 12 b i h=b∧Cur b (v61_2 12 b i h):=by
 obtain ⟨a1,a2,a3,j,a4,a5⟩:=pick hc h (L:=[AV.int .i64 3,AV.int .i64 10,AV.int .i64 30,AV.int .i64 1000]) (by decide)
 have pos:0<v60_0 b i h [AV.int .i64 3,AV.int .i64 10,AV.int .i64 30,AV.int .i64 1000]:=by
  rw [a5]
  have:j<4:=a4
  obtain rfl|rfl|rfl|rfl:j=0∨j=1∨j=2∨j=3:=by omega
  all_goals decide
 have w13:IntKind.i64.wrap ((12:Int)+1)=13:=by rw [wrap_in (by decide) (by decide)];rfl
 obtain ⟨b1,⟨b2,b3⟩,b4,b5⟩:=below a3 (v60_3 b i h [AV.int .i64 3,AV.int .i64 10,AV.int .i64 30,AV.int .i64 1000]) (n:=13) (by decide)
 unfold q61 v61_0 v61_1 v61_2
 rw [a1,a2,w13,b1,b4]
 generalize v60_0 b i h [AV.int .i64 3,AV.int .i64 10,AV.int .i64 30,AV.int .i64 1000]=wide at *
 generalize v60_2 b i h [AV.int .i64 3,AV.int .i64 10,AV.int .i64 30,AV.int .i64 1000]=i1 at *
 generalize v60_3 b i h [AV.int .i64 3,AV.int .i64 10,AV.int .i64 30,AV.int .i64 1000]=h1 at *
 generalize v57_0 13 b i1 h1=m at *
 generalize v57_2 13 b i1 h1=i2 at *
 obtain ⟨r,r1,r2,r3,r4⟩:=runW_ends (f:=R61_0 wide) (fun s:Int × List AV × List AV × Int × Int=>0≤s.1∧s.2.1.length+s.1=m∧s.2.2.1=b∧Cur b s.2.2.2.1) (fun r=>r.1.length≤12∧r.2.1=b∧Cur b r.2.2.1) (fun s=>s.1.toNat) (fun s hI=>by
   obtain ⟨t,L,b',k,g⟩:=s
   obtain ⟨t0,tl,rfl,hk⟩:=hI
   simp only at t0 tl hk
   by_cases ct:t > 0
   ·obtain ⟨c1,c2,c3,c4⟩:=below hk g pos
    have d1:decide (t > 0)=true:=decide_eq_true ct
    have wt:IntKind.i64.wrap (t - 1)=t - 1:=wrap_in (by omega) (by omega)
    have rm:∀ y:AV,(decide ((L.length+[y].length)*8≤140737488355328) && decide (L.length+[y].length≤140737488355328))=true:=fun y=>by
     simp only [List.length_singleton,Bool.and_eq_true,decide_eq_true_eq]
     omega
    refine .inl ⟨(t - 1,L++[AV.int .i64 (IntKind.i64.wrap (v57_0 wide b' k g - IntKind.i64.wrap (Int.tdiv wide 3)))],b',v57_2 wide b' k g,v57_3 wide b' k g),?_,⟨by simp only;omega,by simp only [List.length_append,List.length_singleton];omega,rfl,c4⟩,by simp only;omega⟩
    show F61_0 wide t L b' k g=_
    unfold F61_0
    rw [d1,c1,rm,wt,c3]
    rfl
   ·have d1:decide (t > 0)=false:=decide_eq_false ct
    refine .inr ⟨(L,b',k,g),?_,by simp only;omega,rfl,hk⟩
    show F61_0 wide t L b' k g=_
    unfold F61_0
    rw [d1]
    rfl) ((m - 0).toNat+1) (m,[],b,i2,v57_3 13 b i1 h1) ⟨b2,by simp,rfl,b5⟩ (by simp only;omega)
 rw [r1]
 exact ⟨rfl,r2,r3,r4⟩
theorem value44 {b:List AV} {i:Int} (hc:Cur b i) (h:Int) {x:List AV} (hx:x.length≤1048576) (y z:List AV):q44 b i h x y z=true∧v44_1 b i h x y z=b∧Cur b (v44_2 b i h x y z):=by
 have six:0<[AV.int .i64 0,AV.int .i64 3,AV.int .i64 (-2),AV.int .i64 (-1000),AV.int .i64 1000,AV.int .i64 50].length:=by decide
 unfold q44 v44_1 v44_2
 by_cases c:(x.length:Int) > 0
 ·obtain ⟨a1,a2,a3,a4⟩:=below hc h (n:=4) (by decide)
  have e1:q63 4 b i h=true:=a1
  have e2:v63_1 4 b i h=b:=a3
  have e3:Cur b (v63_2 4 b i h):=a4
  rw [decide_eq_true c,e1,e2]
  simp only [cond_true,Bool.true_and]
  generalize v63_2 4 b i h=i1 at *
  generalize v63_3 4 b i h=h1 at *
  cases v63_0 4 b i h with
  | true =>
   obtain ⟨p1,p2,p3,_⟩:=pick e3 h1 six
   exact ⟨p1,p2,p3⟩
  | false =>
   obtain ⟨b1,⟨b2,b3⟩,b4,b5⟩:=below e3 h1 (n:=(x.length:Int)) (by omega)
   obtain ⟨c1,c2,c3,c4⟩:=below b5 (v57_3 (x.length:Int) b i1 h1) (n:=3) (by decide)
   rw [b1,b4,decide_eq_true b2,decide_eq_true b3,c1]
   exact ⟨rfl,c3,c4⟩
 ·rw [decide_eq_false c]
  obtain ⟨p1,p2,p3,_⟩:=pick hc h six
  exact ⟨p1,p2,p3⟩
theorem targets {b:List AV} {i:Int} (hc:Cur b i) (h:Int) {x:List AV} (hx:x.length≤1048576) (y z:List AV):q62 b i h x y z=true∧(v62_0 b i h x y z).length≤4∧v62_1 b i h x y z=b∧Cur b (v62_2 b i h x y z):=by
 obtain ⟨b1,⟨b2,b3⟩,b4,b5⟩:=below hc h (n:=5) (by decide)
 unfold q62 v62_0 v62_1 v62_2
 rw [b1,b4]
 generalize v57_0 5 b i h=m at *
 generalize v57_2 5 b i h=i2 at *
 obtain ⟨r,r1,r2,r3,r4⟩:=runW_ends (f:=R62_0) (fun s:Int × List AV × List AV × Int × Int × List AV × List AV × List AV=>0≤s.1∧s.2.1.length+s.1=m∧s.2.2.1=b∧Cur b s.2.2.2.1∧s.2.2.2.2.2.1=x) (fun r=>r.1.length≤4∧r.2.1=b∧Cur b r.2.2.1) (fun s=>s.1.toNat) (fun s hI=>by
   obtain ⟨t,L,b',k,g,x',y',z'⟩:=s
   obtain ⟨t0,tl,rfl,hk,rfl⟩:=hI
   simp only at t0 tl hk
   by_cases ct:t > 0
   ·obtain ⟨c1,c3,c4⟩:=value44 hk g hx y' z'
    have d1:decide (t > 0)=true:=decide_eq_true ct
    have wt:IntKind.i64.wrap (t - 1)=t - 1:=wrap_in (by omega) (by omega)
    have rm:∀ y:AV,(decide ((L.length+[y].length)*8≤140737488355328) && decide (L.length+[y].length≤140737488355328))=true:=fun y=>by
     simp only [List.length_singleton,Bool.and_eq_true,decide_eq_true_eq]
     omega
    refine .inl ⟨(t - 1,L++[AV.int .i64 (v44_0 b' k g x' y' z')],b',v44_2 b' k g x' y' z',v44_3 b' k g x' y' z',x',y',z'),?_,⟨by simp only;omega,by simp only [List.length_append,List.length_singleton];omega,rfl,c4,rfl⟩,by simp only;omega⟩
    show F62_0 t L b' k g x' y' z'=_
    unfold F62_0
    rw [d1,c1,rm,wt,c3]
    rfl
   ·have d1:decide (t > 0)=false:=decide_eq_false ct
    refine .inr ⟨(L,b',k,g,x',y',z'),?_,by simp only;omega,rfl,hk⟩
    show F62_0 t L b' k g x' y' z'=_
    unfold F62_0
    rw [d1]
    rfl) ((m - 0).toNat+1) (m,[],b,i2,v57_3 5 b i h,x,y,z) ⟨b2,by simp,rfl,b5,rfl⟩ (by simp only;omega)
 rw [r1]
 exact ⟨rfl,r2,r3,r4⟩
theorem draw28 {b:List AV} {i:Int} (hc:Cur b i) (h:Int):q28 b i h=true∧(v28_0 b i h).length≤12∧(v28_1 b i h).length≤5:=by
 obtain ⟨a1,a2,a3,a4⟩:=values hc h
 obtain ⟨n1,n2,n3,n4⟩:=P35 (v61_0 12 b i h) (by omega)
 have nl:(v35_0 (v61_0 12 b i h)).length≤1048576:=by
  rw [n2]
  cases v36_0 (v61_0 12 b i h)
  ·simp
  ·simp only [cond_true];omega
 obtain ⟨c1,c2,c3,c4⟩:=targets a4 (v61_3 12 b i h) nl (v35_1 (v61_0 12 b i h)) (v35_2 (v61_0 12 b i h))
 unfold q28 v28_0 v28_1
 rw [a1,n1,a3,c1,c3]
 obtain ⟨d1,d2,d3,d4⟩:=below c4 (v62_3 b (v61_2 12 b i h) (v61_3 12 b i h) (v35_0 (v61_0 12 b i h)) (v35_1 (v61_0 12 b i h)) (v35_2 (v61_0 12 b i h))) (n:=14) (by decide)
 have e1:q63 14 b (v62_2 b (v61_2 12 b i h) (v61_3 12 b i h) (v35_0 (v61_0 12 b i h)) (v35_1 (v61_0 12 b i h)) (v35_2 (v61_0 12 b i h))) (v62_3 b (v61_2 12 b i h) (v61_3 12 b i h) (v35_0 (v61_0 12 b i h)) (v35_1 (v61_0 12 b i h)) (v35_2 (v61_0 12 b i h)))=true:=d1
 rw [e1]
 generalize v62_0 b (v61_2 12 b i h) (v61_3 12 b i h) (v35_0 (v61_0 12 b i h)) (v35_1 (v61_0 12 b i h)) (v35_2 (v61_0 12 b i h))=T at *
 have rm:(decide ((T.length+[AV.int .i64 1001].length)*8≤140737488355328) && decide (T.length+[AV.int .i64 1001].length≤140737488355328))=true:=by
  simp only [List.length_singleton,Bool.and_eq_true,decide_eq_true_eq]
  omega
 rw [rm]
 refine ⟨?_,a2,?_⟩
 ·simp only [Bool.true_and]
  cases v63_0 14 _ _ _ <;> rfl
 ·cases v63_0 14 _ _ _
  ·simp only [cond_false];omega
  ·simp only [cond_true,List.length_append,List.length_singleton];omega
theorem draw6 (code:List AV) (h:code.length≤1048576):q6 code=true∧(v6_0 code).length≤12∧(v6_1 code).length≤5:=by
 obtain ⟨r,r1,_⟩:=runW_ends (f:=R6i29_0 code) (fun s:Int × Int=>0≤s.2∧s.2≤code.length) (fun _=>True) (fun s=>((code.length:Int) - s.2).toNat) (fun s hI=>by
   obtain ⟨g,k⟩:=s
   obtain ⟨k0,k1⟩:=hI
   simp only at k0 k1
   by_cases ck:k<code.length
   ·have d1:decide (k<(code.length:Int))=true:=decide_eq_true ck
    have d2:decide (0≤k)=true:=decide_eq_true k0
    have wk_:IntKind.i64.wrap (k+1)=k+1:=wrap_in (by omega) (by omega)
    cases c4:decide (k<4000) with
    | true =>
     obtain ⟨g',e⟩:∃ g',R6i29_0 code (g,k) = .next (g',k+1):=by
      show ∃ g',F6i29_0 code g k=_
      unfold F6i29_0
      rw [d1,d2,c4,wk_]
      exact ⟨_,rfl⟩
     exact .inl ⟨(g',k+1),e,⟨by simp only;omega,by simp only;omega⟩,by simp only;omega⟩
    | false =>
     refine .inr ⟨g,?_,trivial⟩
     show F6i29_0 code g k=_
     unfold F6i29_0
     rw [d1,c4]
     rfl
   ·have d1:decide (k<(code.length:Int))=false:=decide_eq_false ck
    refine .inr ⟨g,?_,trivial⟩
    show F6i29_0 code g k=_
    unfold F6i29_0
    rw [d1]
    rfl) (((code.length:Int) - 0).toNat+1) (IntKind.i64.wrap (10101+(code.length:Int)),0) ⟨Int.le_refl 0,by simp only;omega⟩ (by simp only;omega)
 obtain ⟨a1,a2,a3⟩:=draw28 (b:=code) (i:=0) ⟨Int.le_refl 0,by omega,h⟩ r
 unfold q6 v6_0 v6_1
 rw [r1]
 exact ⟨a1,a2,a3⟩
end Go.Proofs.Ytkdnhnkhcldonaa
