import Derived.Test.YtkdnhnkhcldonaaSTc
namespace Go.Proofs.Ytkdnhnkhcldonaa
open Go Go.Proofs.VE
set_option linter.unusedVariables false
set_option linter.unusedSimpArgs false
def el (xs:List AV) (k:Int):Int:=fI (xs.getD k.toNat .undef) 0
def pat (ps:List AV) (k:Int):Int:=fI (ps.getD k.toNat .undef) 1
structure Col (vs rs ps:List AV):Prop where
 n64:vs.length≤64
 vals:∀ k:Int,0≤k→k<vs.length → -999≤el vs k∧el vs k≤999
 len:(rs.length:Int)=vs.length
 rows:∀ k:Int,0≤k→k<rs.length→0≤el rs k∧el rs k≤999
 dist:∀ j k:Int,0≤j→j<k→k<rs.length→el rs j ≠ el rs k
 pv:∀ i:Int,0≤i→i<ps.length → -1000≤el ps i∧el ps i≤1000
 pa:∀ i:Int,0≤i→i<ps.length→0≤pat ps i∧pat ps i≤vs.length
 asc:∀ i:Int,0<i→i<ps.length→el ps (i - 1)<el ps i∧pat ps (i - 1)≤pat ps i
 part:∀ i:Int,0≤i→i<ps.length→∀ k:Int,0≤k→k<vs.length→(el vs k<el ps i ↔ k<pat ps i)
theorem hasI_iff (xs:List AV) (x:Int):hasI xs x=true ↔ ∃ j:Int,0≤j∧j<xs.length∧el xs j=x:=by
 unfold hasI
 constructor
 ·intro h
  obtain ⟨j,hj⟩:=Option.isSome_iff_exists.1 h
  obtain ⟨h1,h2,h3⟩:=findF_some _ _ hj
  exact ⟨j,h1,by omega,of_decide_eq_true h3⟩
 ·rintro ⟨j,h1,h2,h3⟩
  cases hf:findF (fun i=>decide (fI (xs.getD i.toNat .undef) 0=x)) xs.length 0 with
  | some j=>rfl
  | none =>
   have h:(findF (fun i=>decide (fI (xs.getD i.toNat .undef) 0=x)) xs.length 0).isNone=true:=by rw [hf];rfl
   have:=(findF_isNone _ _).1 h j h1 (by omega)
   exact absurd h3 (of_decide_eq_false this)
theorem badR_iff (rs:List AV) (k:Int) (h0:0≤k) (h1:k<rs.length):badR rs k=false ↔ ∀ j:Int,0≤j→j<k→el rs j ≠ el rs k:=by
 have ek:fI (rs.getD k.toNat .undef) 0=el rs k:=rfl
 have e0:Int.toNat 0=0:=rfl
 unfold badR
 rw [ek,e0,List.drop_zero]
 have tl:(rs.take (Int.toNat k)).length=k.toNat:=by rw [List.length_take];omega
 have te:∀ j:Int,0≤j→j<k→el (rs.take (Int.toNat k)) j=el rs j:=fun j j0 j1=>by
  unfold el
  simp only [List.getD_eq_getElem?_getD]
  rw [List.getElem?_take_of_lt (by omega)]
 constructor
 ·intro h j j0 j1 e
  have:hasI (rs.take (Int.toNat k)) (el rs k)=true:=(hasI_iff _ _).2 ⟨j,j0,by rw [tl];omega,by rw [te j j0 j1];exact e⟩
  rw [h] at this
  cases this
 ·intro h
  cases hb:hasI (rs.take (Int.toNat k)) (el rs k) with
  | false=>rfl
  | true =>
   obtain ⟨j,j0,j1,j2⟩:=(hasI_iff _ _).1 hb
   rw [tl] at j1
   rw [te j j0 (by omega)] at j2
   exact absurd j2 (h j j0 (by omega))
theorem badI_iff (vs:List AV) (a b:Int):badI vs a b=false ↔ ∀ k:Int,0≤k→k<vs.length→(el vs k<a ↔ k<b):=by
 unfold badI
 rw [Bool.not_eq_false',noneB_iff]
 constructor
 ·intro h k h0 h1
  have:=h k h0 h1
  simp only [Bool.not_eq_false',beq_iff_eq] at this
  constructor
  ·intro hk
   rw [decide_eq_true (show fI (vs.getD k.toNat .undef) 0<a from hk)] at this
   exact of_decide_eq_true this.symm
  ·intro hk
   rw [decide_eq_true hk] at this
   exact of_decide_eq_true this
 ·intro h k h0 h1
  have:=h k h0 h1
  simp only [Bool.not_eq_false',beq_iff_eq]
  by_cases hk:k<b
  ·rw [decide_eq_true hk,decide_eq_true (show fI (vs.getD k.toNat .undef) 0<a from this.2 hk)]
  ·rw [decide_eq_false hk,decide_eq_false (show ¬ fI (vs.getD k.toNat .undef) 0<a from fun h=>hk (this.1 h))]
theorem badP_iff (vs ps:List AV) (i:Int):badP vs ps i=false ↔ ((-1000≤el ps i∧el ps i≤1000)∧(0≤pat ps i∧pat ps i≤vs.length)∧(0<i→el ps (i - 1)<el ps i∧pat ps (i - 1)≤pat ps i))∧∀ k:Int,0≤k→k<vs.length→(el vs k<el ps i ↔ k<pat ps i):=by
 unfold badP
 rw [Bool.or_eq_false_iff,badI_iff]
 have e:badA vs ps i=false ↔ ((-1000≤el ps i∧el ps i≤1000)∧(0≤pat ps i∧pat ps i≤vs.length)∧(0<i→el ps (i - 1)<el ps i∧pat ps (i - 1)≤pat ps i)):=by
  unfold badA el pat
  simp only [v52,Bool.or_eq_false_iff,Bool.not_eq_false',Bool.and_eq_true,decide_eq_true_eq,Bool.and_eq_false_iff,decide_eq_false_iff_not]
  constructor
  ·rintro ⟨h1,h2,h3⟩
   exact ⟨h1,h2,fun hi=>by rcases h3 with h3|h3 <;> omega⟩
  ·rintro ⟨h1,h2,h3⟩
   refine ⟨h1,h2,?_⟩
   by_cases hi:i > 0
   ·have:=h3 hi
    right
    omega
   ·exact .inl hi
 rw [e]
 rfl
theorem isC_iff (vs rs ps:List AV) (h:vs.length≤1048576):isC vs rs ps=true ↔ Col vs rs ps:=by
 unfold isC
 rw [(P36 vs h).2]
 simp only [Bool.and_eq_true,decide_eq_true_eq,noneB_iff]
 rw [findF_isNone]
 constructor
 ·rintro ⟨⟨h1,h2⟩,h3,h4,h5,h6⟩
  refine ⟨h2,fun k k0 k1=>?_,h3,fun k k0 k1=>?_,fun j k j0 jk k1=>(badR_iff rs k (by omega) k1).1 (h5 k (by omega) k1) j j0 jk,fun i i0 i1=>((badP_iff vs ps i).1 (h6 i i0 i1)).1.1,fun i i0 i1=>((badP_iff vs ps i).1 (h6 i i0 i1)).1.2.1,
   fun i i0 i1=>((badP_iff vs ps i).1 (h6 i (by omega) i1)).1.2.2 i0,fun i i0 i1=>((badP_iff vs ps i).1 (h6 i i0 i1)).2⟩
  ·have:=h1 k k0 (by omega)
   simp only [v52,Bool.not_eq_false',Bool.and_eq_true,decide_eq_true_eq] at this
   exact this
  ·have:=h4 k k0 k1
   simp only [v52,Bool.not_eq_false',Bool.and_eq_true,decide_eq_true_eq] at this
   exact this
 ·rintro ⟨a1,a2,a3,a4,a5,a6,a7,a8,a9⟩
  refine ⟨⟨fun k k0 k1=>?_,a1⟩,a3,fun k k0 k1=>?_,fun k k0 k1=>(badR_iff rs k k0 k1).2 fun j j0 jk=>a5 j k j0 jk k1,fun i i0 i1=>(badP_iff vs ps i).2 ⟨⟨a6 i i0 i1,a7 i i0 i1,fun hi=>a8 i hi i1⟩,a9 i i0 i1⟩⟩
  ·simp only [v52,Bool.not_eq_false',Bool.and_eq_true,decide_eq_true_eq]
   exact a2 k k0 (by omega)
  ·simp only [v52,Bool.not_eq_false',Bool.and_eq_true,decide_eq_true_eq]
   exact a4 k k0 k1
theorem Col.up {vs rs ps:List AV} (h:Col vs rs ps):∀ (d:Nat) (i:Int),0≤i→i+d<ps.length→(0<d→el ps i<el ps (i+d))∧pat ps i≤pat ps (i+d)
 | 0,i,_,_=>⟨fun h=>absurd h (by omega),by rw [show i+((0:Nat):Int)=i by omega];exact Int.le_refl _⟩
 | d+1,i,h0,h1=>by
  obtain ⟨a,b⟩:=Col.up h d i h0 (by omega)
  obtain ⟨c,e⟩:=h.asc (i+((d+1:Nat):Int)) (by omega) h1
  rw [show i+((d+1:Nat):Int) - 1=i+d by omega] at c e
  refine ⟨fun _=>?_,by omega⟩
  rcases Nat.eq_zero_or_pos d with hd|hd
  ·subst hd
   rw [show i+((0:Nat):Int)=i by omega] at c
   exact c
  ·have:=a hd
   omega
theorem Col.lt {vs rs ps:List AV} (h:Col vs rs ps) {i j:Int} (h0:0≤i) (h1:i<j) (h2:j<ps.length):el ps i<el ps j∧pat ps i≤pat ps j:=by
 have:=h.up (j - i).toNat i h0 (by omega)
 rw [show i+((j - i).toNat:Int)=j by omega] at this
 exact ⟨this.1 (by omega),this.2⟩
theorem sw_len (i j:Int) (xs:List AV):(v103_0 i j xs).length=xs.length:=by unfold v103_0;rw [List.length_set,List.length_set]
theorem el_set (xs:List AV) (i k:Int) (x:Int) (h0:0≤i) (h1:i<xs.length) (k0:0≤k):el (xs.set i.toNat (AV.agg [AV.int .i64 x])) k=if k=i then x else el xs k:=by
 unfold el
 by_cases e:k=i
 ·subst e
  rw [if_pos rfl,getD_set (by omega)]
  rfl
 ·rw [if_neg e]
  simp only [List.getD_eq_getElem?_getD]
  rw [List.getElem?_set_ne (by omega)]
theorem el_sw (xs:List AV) (i j k:Int) (i0:0≤i) (i1:i<xs.length) (j0:0≤j) (j1:j<xs.length) (k0:0≤k):el (v103_0 i j xs) k=if k=j then el xs i else if k=i then el xs j else el xs k:=by
 unfold v103_0
 rw [el_set _ _ _ _ j0 (by rw [List.length_set];exact j1) k0,el_set _ _ _ _ i0 i1 k0]
 rfl
theorem Col.sw {vs rs ps:List AV} (h:Col vs rs ps) {a b i j:Int} (a0:0≤a) (b1:b≤vs.length) (hab:∀ p:Int,0≤p→p<ps.length→pat ps p≤a∨b≤pat ps p) (i0:a≤i) (i1:i<b) (j0:a≤j) (j1:j<b) :
  Col (v103_0 i j vs) (v103_0 i j rs) ps:=by
 have hl:=h.len
 have ev:∀ k:Int,0≤k→el (v103_0 i j vs) k=if k=j then el vs i else if k=i then el vs j else el vs k:=fun k k0=>el_sw vs i j k (by omega) (by omega) (by omega) (by omega) k0
 have er:∀ k:Int,0≤k→el (v103_0 i j rs) k=if k=j then el rs i else if k=i then el rs j else el rs k:=fun k k0=>el_sw rs i j k (by omega) (by omega) (by omega) (by omega) k0
 have dd:∀ p q:Int,0≤p→p<rs.length→0≤q→q<rs.length→p ≠ q→el rs p ≠ el rs q:=fun p q p0 p1 q0 q1 hn e=>by
  rcases Int.lt_or_gt_of_ne hn with h1|h1
  ·exact h.dist p q p0 h1 q1 e
  ·exact h.dist q p q0 h1 p1 e.symm
 refine ⟨by rw [sw_len];exact h.n64,fun k k0 k1=>?_,by rw [sw_len,sw_len];exact h.len,fun k k0 k1=>?_,fun p q p0 pq q1=>?_,h.pv,fun i' i0' i1'=>by rw [sw_len];exact h.pa i' i0' i1',h.asc,fun p p0 p1 k k0 k1=>?_⟩
 ·rw [sw_len] at k1
  rw [ev k k0]
  split
  ·exact h.vals i (by omega) (by omega)
  ·split
   ·exact h.vals j (by omega) (by omega)
   ·exact h.vals k k0 k1
 ·rw [sw_len] at k1
  rw [er k k0]
  split
  ·exact h.rows i (by omega) (by omega)
  ·split
   ·exact h.rows j (by omega) (by omega)
   ·exact h.rows k k0 k1
 ·rw [sw_len] at q1
  rw [er p p0,er q (by omega)]
  split
  ·split
   ·omega
   ·split
    ·rename_i e1 e2 e3
     exact dd i j (by omega) (by omega) (by omega) (by omega) (by omega)
    ·rename_i e1 e2 e3
     exact dd i q (by omega) (by omega) (by omega) (by omega) (by omega)
  ·split
   ·split
    ·rename_i e1 e2 e3
     exact dd j i (by omega) (by omega) (by omega) (by omega) (by omega)
    ·split
     ·omega
     ·exact dd j q (by omega) (by omega) (by omega) (by omega) (by omega)
   ·split
    ·exact dd p i (by omega) (by omega) (by omega) (by omega) (by omega)
    ·split
     ·exact dd p j (by omega) (by omega) (by omega) (by omega) (by omega)
     ·exact h.dist p q p0 pq q1
 ·rw [sw_len] at k1
  rw [ev k k0]
  have hp:=hab p p0 p1
  have hi:=h.part p p0 p1 i (by omega) (by omega)
  have hj:=h.part p p0 p1 j (by omega) (by omega)
  split
  ·rw [hi]
   omega
  ·split
   ·rw [hj]
    omega
   ·exact h.part p p0 p1 k k0 k1
def appS (ss xs:List AV):List AV:=ss.foldl (fun xs s=>v103_0 (fI s 0) (fI s 1) xs) xs
theorem appS_nil (xs:List AV):appS [] xs=xs:=rfl
theorem appS_cons (s:AV) (ss xs:List AV):appS (s :: ss) xs=appS ss (v103_0 (fI s 0) (fI s 1) xs):=rfl
theorem appS_snoc (s:AV) (ss xs:List AV):appS (ss++[s]) xs=v103_0 (fI s 0) (fI s 1) (appS ss xs):=by unfold appS;rw [List.foldl_append];rfl
theorem appS_len (ss:List AV):∀ xs:List AV,(appS ss xs).length=xs.length:=by
 induction ss with
 | nil=>intro xs;rfl
 | cons s ss ih=>intro xs;rw [appS_cons,ih,sw_len]
def inS (a b:Int) (ss:List AV):Prop:=∀ s ∈ ss,a≤fI s 0∧fI s 0<b∧a≤fI s 1∧fI s 1<b
theorem Col.swaps {ps:List AV} {a b:Int} (a0:0≤a) (hab:∀ p:Int,0≤p→p<ps.length→pat ps p≤a∨b≤pat ps p):∀ (ss vs rs:List AV),Col vs rs ps→b≤vs.length→inS a b ss→Col (appS ss vs) (appS ss rs) ps
 | [],vs,rs,h,_,_=>h
 | s :: ss,vs,rs,h,hb,hs=>by
  obtain ⟨h1,h2,h3,h4⟩:=hs s List.mem_cons_self
  exact Col.swaps a0 hab ss _ _ (h.sw a0 hb hab h1 h2 h3 h4) (by rw [sw_len];exact hb) fun x hx=>hs x (List.mem_cons_of_mem _ hx)
end Go.Proofs.Ytkdnhnkhcldonaa
