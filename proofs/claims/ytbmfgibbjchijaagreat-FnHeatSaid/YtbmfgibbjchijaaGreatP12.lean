import Derived.Test.YtbmfgibbjchijaaGreatP11
namespace Go.Proofs.YtbmfgibbjchijaaGreat
open Go Go.Proofs.VE
set_option linter.unusedVariables false
set_option linter.unusedSimpArgs false
def el (xs:List AV) (k:Int):Int:=fI (xs.getD k.toNat .undef) 0
def pat (ps:List AV) (k:Int):Int:=fI (ps.getD k.toNat .undef) 1
structure Col (vs rs ps:List AV):Prop where
 n64:vs.length≤64
 vals:∀ k:Int,0≤k→k<vs.length → -999≤el vs k∧el vs k≤999
 len:(rs.length:Int)=vs.length
 rows:∀ k:Int,0≤k→k<rs.length→0≤el rs k∧el rs k≤999
 dist:∀ j k:Int,0≤j→j<k→k<rs.length→el rs j ≠ el rs k
 pv:∀ i:Int,0≤i→i<ps.length → -1000≤el ps i∧el ps i≤1000
 pa:∀ i:Int,0≤i→i<ps.length→0≤pat ps i∧pat ps i≤vs.length
 asc:∀ i:Int,0<i→i<ps.length→el ps (i - 1)<el ps i∧pat ps (i - 1)≤pat ps i
 part:∀ i:Int,0≤i→i<ps.length→∀ k:Int,0≤k→k<vs.length→(el vs k<el ps i ↔ k<pat ps i)
theorem hasI_iff (xs:List AV) (x:Int):hasI xs x=true ↔ ∃ j:Int,0≤j∧j<xs.length∧el xs j=x:=by
 unfold hasI
 constructor
 ·intro h
  obtain ⟨j,hj⟩:=Option.isSome_iff_exists.1 h
  obtain ⟨h1,h2,h3⟩:=findF_some _ _ hj
  exact ⟨j,h1,by omega,of_decide_eq_true h3⟩
 ·rintro ⟨j,h1,h2,h3⟩
  cases hf:findF (fun i=>decide (fI (xs.getD i.toNat .undef) 0=x)) xs.length 0 with
  | some j=>rfl
  | none =>
   have h:(findF (fun i=>decide (fI (xs.getD i.toNat .undef) 0=x)) xs.length 0).isNone=true:=by rw [hf];rfl
   have:=(findF_isNone _ _).1 h j h1 (by omega)
   exact absurd h3 (of_decide_eq_false this)
theorem badR_iff (rs:List AV) (k:Int) (h0:0≤k) (h1:k<rs.length):badR rs k=false ↔ ∀ j:Int,0≤j→j<k→el rs j ≠ el rs k:=by
 have ek:fI (rs.getD k.toNat .undef) 0=el rs k:=rfl
 have e0:Int.toNat 0=0:=rfl
 unfold badR
 rw [ek,e0,List.drop_zero]
 have tl:(rs.take (Int.toNat k)).length=k.toNat:=by rw [List.length_take];omega
 have te:∀ j:Int,0≤j→j<k→el (rs.take (Int.toNat k)) j=el rs j:=fun j j0 j1=>by
  unfold el
  simp only [List.getD_eq_getElem?_getD]
  rw [List.getElem?_take_of_lt (by omega)]
 constructor
 ·intro h j j0 j1 e
  have:hasI (rs.take (Int.toNat k)) (el rs k)=true:=(hasI_iff _ _).2 ⟨j,j0,by rw [tl];omega,by rw [te j j0 j1];exact e⟩
  rw [h] at this
  cases this
 ·intro h
  cases hb:hasI (rs.take (Int.toNat k)) (el rs k) with
  | false=>rfl
  | true =>
   obtain ⟨j,j0,j1,j2⟩:=(hasI_iff _ _).1 hb
   rw [tl] at j1
   rw [te j j0 (by omega)] at j2
   exact absurd j2 (h j j0 (by omega))
theorem badI_iff (vs:List AV) (a b:Int):badI vs a b=false ↔ ∀ k:Int,0≤k→k<vs.length→(el vs k<a ↔ k<b):=by
 unfold badI
 rw [Bool.not_eq_false',noneB_iff]
 constructor
 ·intro h k h0 h1
  have:=h k h0 h1
  simp only [Bool.not_eq_false',beq_iff_eq] at this
  constructor
  ·intro hk
   rw [decide_eq_true (show fI (vs.getD k.toNat .undef) 0<a from hk)] at this
   exact of_decide_eq_true this.symm
  ·intro hk
   rw [decide_eq_true hk] at this
   exact of_decide_eq_true this
 ·intro h k h0 h1
  have:=h k h0 h1
  simp only [Bool.not_eq_false',beq_iff_eq]
  by_cases hk:k<b
  ·rw [decide_eq_true hk,decide_eq_true (show fI (vs.getD k.toNat .undef) 0<a from this.2 hk)]
  ·rw [decide_eq_false hk,decide_eq_false (show ¬ fI (vs.getD k.toNat .undef) 0<a from fun h=>hk (this.1 h))]
theorem badP_iff (vs ps:List AV) (i:Int):badP vs ps i=false ↔ ((-1000≤el ps i∧el ps i≤1000)∧(0≤pat ps i∧pat ps i≤vs.length)∧(0<i→el ps (i - 1)<el ps i∧pat ps (i - 1)≤pat ps i))∧∀ k:Int,0≤k→k<vs.length→(el vs k<el ps i ↔ k<pat ps i):=by
 unfold badP
 rw [Bool.or_eq_false_iff,badI_iff]
 have e:badA vs ps i=false ↔ ((-1000≤el ps i∧el ps i≤1000)∧(0≤pat ps i∧pat ps i≤vs.length)∧(0<i→el ps (i - 1)<el ps i∧pat ps (i - 1)≤pat ps i)):=by
  unfold badA el pat
  simp only [v52,Bool.or_eq_false_iff,Bool.not_eq_false',Bool.and_eq_true,decide_eq_true_eq,Bool.and_eq_false_iff,decide_eq_false_iff_not]
  constructor
  ·rintro ⟨h1,h2,h3⟩
   exact ⟨h1,h2,fun hi=>by rcases h3 with h3|h3 <;> omega⟩
  ·rintro ⟨h1,h2,h3⟩
   refine ⟨h1,h2,?_⟩
   by_cases hi:i > 0
   ·have:=h3 hi
    right
    omega
   ·exact .inl hi
 rw [e]
 rfl
theorem isC_iff (vs rs ps:List AV) (h:vs.length≤1048576):isC vs rs ps=true ↔ Col vs rs ps:=by
 unfold isC
 rw [(P116 vs h).2]
 simp only [Bool.and_eq_true,decide_eq_true_eq,noneB_iff]
 rw [findF_isNone]
 constructor
 ·rintro ⟨⟨h1,h2⟩,h3,h4,h5,h6⟩
  refine ⟨h2,fun k k0 k1=>?_,h3,fun k k0 k1=>?_,fun j k j0 jk k1=>(badR_iff rs k (by omega) k1).1 (h5 k (by omega) k1) j j0 jk,fun i i0 i1=>((badP_iff vs ps i).1 (h6 i i0 i1)).1.1,fun i i0 i1=>((badP_iff vs ps i).1 (h6 i i0 i1)).1.2.1,
   fun i i0 i1=>((badP_iff vs ps i).1 (h6 i (by omega) i1)).1.2.2 i0,fun i i0 i1=>((badP_iff vs ps i).1 (h6 i i0 i1)).2⟩
  ·have:=h1 k k0 (by omega)
   simp only [v52,Bool.not_eq_false',Bool.and_eq_true,decide_eq_true_eq] at this
   exact this
  ·have:=h4 k k0 k1
   simp only [v52,Bool.not_eq_false',Bool.and_eq_true,decide_eq_true_eq] at this
   exact this
 ·rintro ⟨a1,a2,a3,a4,a5,a6,a7,a8,a9⟩
  refine ⟨⟨fun k k0 k1=>?_,a1⟩,a3,fun k k0 k1=>?_,fun k k0 k1=>(badR_iff rs k k0 k1).2 fun j j0 jk=>a5 j k j0 jk k1,fun i i0 i1=>(badP_iff vs ps i).2 ⟨⟨a6 i i0 i1,a7 i i0 i1,fun hi=>a8 i hi i1⟩,a9 i i0 i1⟩⟩
  ·simp only [v52,Bool.not_eq_false',Bool.and_eq_true,decide_eq_true_eq]
   exact a2 k k0 (by omega)
  ·simp only [v52,Bool.not_eq_false',Bool.and_eq_true,decide_eq_true_eq]
   exact a4 k k0 k1
theorem Col.up {vs rs ps:List AV} (h:Col vs rs ps):∀ (d:Nat) (i:Int),0≤i→i+d<ps.length→(0<d→el ps i<el ps (i+d))∧pat ps i≤pat ps (i+d)
 | 0,i,_,_=>⟨fun h=>absurd h (by omega),by rw [show i+((0:Nat):Int)=i by omega];exact Int.le_refl _⟩
 | d+1,i,h0,h1=>by
  obtain ⟨a,b⟩:=Col.up h d i h0 (by omega)
  obtain ⟨c,e⟩:=h.asc (i+((d+1:Nat):Int)) (by omega) h1
  rw [show i+((d+1:Nat):Int) - 1=i+d by omega] at c e
  refine ⟨fun _=>?_,by omega⟩
  rcases Nat.eq_zero_or_pos d with hd|hd
  ·subst hd
   rw [show i+((0:Nat):Int)=i by omega] at c
   exact c
  ·have:=a hd
   omega
theorem Col.lt {vs rs ps:List AV} (h:Col vs rs ps) {i j:Int} (h0:0≤i) (h1:i<j) (h2:j<ps.length):el ps i<el ps j∧pat ps i≤pat ps j:=by
 have:=h.up (j - i).toNat i h0 (by omega)
 rw [show i+((j - i).toNat:Int)=j by omega] at this
 exact ⟨this.1 (by omega),this.2⟩
theorem sw_len (i j:Int) (xs:List AV):(v122_0 i j xs).length=xs.length:=by unfold v122_0;rw [List.length_set,List.length_set]
theorem el_set (xs:List AV) (i k:Int) (x:Int) (h0:0≤i) (h1:i<xs.length) (k0:0≤k):el (xs.set i.toNat (AV.agg [AV.int .i64 x])) k=if k=i then x else el xs k:=by
 unfold el
 by_cases e:k=i
 ·subst e
  rw [if_pos rfl,getD_set (by omega)]
  rfl
 ·rw [if_neg e]
  simp only [List.getD_eq_getElem?_getD]
  rw [List.getElem?_set_ne (by omega)]
theorem el_sw (xs:List AV) (i j k:Int) (i0:0≤i) (i1:i<xs.length) (j0:0≤j) (j1:j<xs.length) (k0:0≤k):el (v122_0 i j xs) k=if k=j then el xs i else if k=i then el xs j else el xs k:=by
 unfold v122_0
 rw [el_set _ _ _ _ j0 (by rw [List.length_set];exact j1) k0,el_set _ _ _ _ i0 i1 k0]
 rfl
theorem Col.sw {vs rs ps:List AV} (h:Col vs rs ps) {a b i j:Int} (a0:0≤a) (b1:b≤vs.length) (hab:∀ p:Int,0≤p→p<ps.length→pat ps p≤a∨b≤pat ps p) (i0:a≤i) (i1:i<b) (j0:a≤j) (j1:j<b) :
  Col (v122_0 i j vs) (v122_0 i j rs) ps:=by
 have hl:=h.len
 have ev:∀ k:Int,0≤k→el (v122_0 i j vs) k=if k=j then el vs i else if k=i then el vs j else el vs k:=fun k k0=>el_sw vs i j k (by omega) (by omega) (by omega) (by omega) k0
 have er:∀ k:Int,0≤k→el (v122_0 i j rs) k=if k=j then el rs i else if k=i then el rs j else el rs k:=fun k k0=>el_sw rs i j k (by omega) (by omega) (by omega) (by omega) k0
 have dd:∀ p q:Int,0≤p→p<rs.length→0≤q→q<rs.length→p ≠ q→el rs p ≠ el rs q:=fun p q p0 p1 q0 q1 hn e=>by
  rcases Int.lt_or_gt_of_ne hn with h1|h1
  ·exact h.dist p q p0 h1 q1 e
  ·exact h.dist q p q0 h1 p1 e.symm
 refine ⟨by rw [sw_len];exact h.n64,fun k k0 k1=>?_,by rw [sw_len,sw_len];exact h.len,fun k k0 k1=>?_,fun p q p0 pq q1=>?_,h.pv,fun i' i0' i1'=>by rw [sw_len];exact h.pa i' i0' i1',h.asc,fun p p0 p1 k k0 k1=>?_⟩
 ·rw [sw_len] at k1
  rw [ev k k0]
  split
  ·exact h.vals i (by omega) (by omega)
  ·split
   ·exact h.vals j (by omega) (by omega)
   ·exact h.vals k k0 k1
 ·rw [sw_len] at k1
  rw [er k k0]
  split
  ·exact h.rows i (by omega) (by omega)
  ·split
   ·exact h.rows j (by omega) (by omega)
   ·exact h.rows k k0 k1
 ·rw [sw_len] at q1
  rw [er p p0,er q (by omega)]
  split
  ·split
   ·omega
   ·split
    ·rename_i e1 e2 e3
     exact dd i j (by omega) (by omega) (by omega) (by omega) (by omega)
    ·rename_i e1 e2 e3
     exact dd i q (by omega) (by omega) (by omega) (by omega) (by omega)
  ·split
   ·split
    ·rename_i e1 e2 e3
     exact dd j i (by omega) (by omega) (by omega) (by omega) (by omega)
    ·split
     ·omega
     ·exact dd j q (by omega) (by omega) (by omega) (by omega) (by omega)
   ·split
    ·exact dd p i (by omega) (by omega) (by omega) (by omega) (by omega)
    ·split
     ·exact dd p j (by omega) (by omega) (by omega) (by omega) (by omega)
     ·exact h.dist p q p0 pq q1
 ·rw [sw_len] at k1
  rw [ev k k0]
  have hp:=hab p p0 p1
  have hi:=h.part p p0 p1 i (by omega) (by omega)
  have hj:=h.part p p0 p1 j (by omega) (by omega)
  split
  ·rw [hi]
   omega
  ·split
   ·rw [hj]
    omega
   ·exact h.part p p0 p1 k k0 k1
def appS (ss xs:List AV):List AV:=ss.foldl (fun xs s=>v122_0 (fI s 0) (fI s 1) xs) xs
theorem appS_cons (s:AV) (ss xs:List AV):appS (s :: ss) xs=appS ss (v122_0 (fI s 0) (fI s 1) xs):=rfl
theorem appS_snoc (s:AV) (ss xs:List AV):appS (ss++[s]) xs=v122_0 (fI s 0) (fI s 1) (appS ss xs):=by unfold appS;rw [List.foldl_append];rfl
theorem appS_len (ss:List AV):∀ xs:List AV,(appS ss xs).length=xs.length:=by
 induction ss with
 | nil=>intro xs;rfl
 | cons s ss ih=>intro xs;rw [appS_cons,ih,sw_len]
def inS (a b:Int) (ss:List AV):Prop:=∀ s ∈ ss,a≤fI s 0∧fI s 0<b∧a≤fI s 1∧fI s 1<b
theorem Col.swaps {ps:List AV} {a b:Int} (a0:0≤a) (hab:∀ p:Int,0≤p→p<ps.length→pat ps p≤a∨b≤pat ps p):∀ (ss vs rs:List AV),Col vs rs ps→b≤vs.length→inS a b ss→Col (appS ss vs) (appS ss rs) ps
 | [],vs,rs,h,_,_=>h
 | s :: ss,vs,rs,h,hb,hs=>by
  obtain ⟨h1,h2,h3,h4⟩:=hs s List.mem_cons_self
  exact Col.swaps a0 hab ss _ _ (h.sw a0 hb hab h1 h2 h3 h4) (by rw [sw_len];exact hb) fun x hx=>hs x (List.mem_cons_of_mem _ hx)
end Go.Proofs.YtbmfgibbjchijaaGreat

namespace Go.Proofs.YtbmfgibbjchijaaGreat
open Go Go.Proofs.VE
set_option linter.unusedVariables false
set_option linter.unusedSimpArgs false
def mk2 (a b:Int):AV:=AV.agg [AV.int .i64 a,AV.int .i64 b]
def N2 (ps:List AV):Prop:=∀ x ∈ ps,mk2 (fI x 0) (fI x 1)=x
theorem N2.at {ps:List AV} (h:N2 ps) {k:Int} (h0:0≤k) (h1:k<ps.length):mk2 (fI (ps.getD k.toNat .undef) 0) (fI (ps.getD k.toNat .undef) 1)=ps.getD k.toNat .undef:=by
 refine h _ ?_
 rw [List.getD_eq_getElem?_getD,List.getElem?_eq_getElem (by omega)]
 exact List.getElem_mem _
theorem N2.map {f:AV→AV} (hf:∀ x,∃ a b,f x=mk2 a b) (xs:List AV):N2 (xs.map f):=fun x hx=>by
 obtain ⟨y,_,rfl⟩:=List.mem_map.1 hx
 obtain ⟨a,b,e⟩:=hf y
 rw [e]
 rfl
theorem take_snoc {xs:List AV} {k:Int} (h0:0≤k) (h1:k<xs.length):xs.take (k+1).toNat=xs.take k.toNat++[xs.getD k.toNat .undef]:=by
 rw [show (k+1).toNat=k.toNat+1 by omega,List.take_add_one,List.getD_eq_getElem?_getD,List.getElem?_eq_getElem (by omega)]
 rfl
def findP (ps:List AV) (v:Int):Option Int:=findF (fun i=>decide (fI (ps.getD i.toNat .undef) 0=v)) ps.length 0
theorem P119 (vs rs ps:List AV) (v:Int) (h:ps.length≤1048576):q119 vs rs ps v=true∧v119_0 vs rs ps v=ro (findP ps v) 0 (pat ps)∧v119_1 vs rs ps v=(findP ps v).isSome:=by
 have hr:runW (R119_0 v vs rs ps) (((ps.length:Int) - 0).toNat+1) 0=some (ro (findP ps v) (.inl ()) fun i => .inr (fI (ps.getD i.toNat .undef) 1)):=by
  refine runW_find (fun i=>i) ps.length _ _ _ (fun i h0 hn=>?_) ?_ ps.length _ 0 (Int.le_refl 0) (by omega) (by omega)
  ·simp only [R119_0,F119_0,G119_0,h0,hn,decide_true,Bool.and_self,cond_true]
   rw [wrap_in (a:=i+1) (by omega) (by omega)]
  ·simp only [R119_0,F119_0,G119_0,Int.lt_irrefl,decide_false,cond_false]
 unfold q119 v119_0 v119_1
 rw [hr]
 cases findP ps v <;> exact ⟨rfl,rfl,rfl⟩
theorem P111 (vs rs ps:List AV) (v:Int) (h:ps.length≤1048576):q111 vs rs ps v=true∧v111_0 vs rs ps v=ro (findP ps v) 0 (pat ps)∧v111_1 vs rs ps v=(findP ps v).isSome:=by
 have hr:runW (R111_0 v ps ps.length) (((ps.length:Int) - 0).toNat+1) 0=some (ro (findP ps v) (.inl ()) fun i => .inr (fI (ps.getD i.toNat .undef) 1,fI (ps.getD i.toNat .undef) 0,fI (ps.getD i.toNat .undef) 1)):=by
  refine runW_find (fun i=>i) ps.length _ _ _ (fun i h0 hn=>?_) ?_ ps.length _ 0 (Int.le_refl 0) (by omega) (by omega)
  ·simp only [R111_0,F111_0,G111_0,h0,hn,decide_true,Bool.and_self,cond_true]
   rw [wrap_in (a:=i+1) (by omega) (by omega)]
  ·simp only [R111_0,F111_0,G111_0,Int.lt_irrefl,decide_false,cond_false]
 unfold q111 v111_0 v111_1
 rw [hr]
 cases findP ps v <;> exact ⟨rfl,rfl,rfl⟩
theorem P142 (vs rs ps:List AV) (v:Int) (h:ps.length≤1048576):q142 vs rs ps v=true∧v142_0 vs rs ps v=(findP ps v).isSome:=⟨(P111 vs rs ps v h).1,(P111 vs rs ps v h).2.2⟩
theorem findP_none {ps:List AV} {v:Int} (h:(findP ps v).isSome=false):∀ k:Int,0≤k→k<ps.length→el ps k ≠ v:=fun k h0 h1 e=>by
 have:(findP ps v).isNone=true:=by
  cases hf:findP ps v with
  | none=>rfl
  | some j=>rw [hf] at h;cases h
 have:=(findF_isNone _ _).1 this k h0 (by omega)
 exact of_decide_eq_false this e
structure Pc (n:Int) (ps:List AV) (v a b t:Int):Prop where
 t0:0≤t
 t1:t≤ps.length
 lo:∀ k:Int,0≤k→k<t→el ps k<v
 hi:∀ k:Int,t≤k→k<ps.length→v<el ps k
 ea:a=if t=0 then 0 else pat ps (t - 1)
 eb:b=if t=ps.length then n else pat ps t
def place (ps:List AV) (v:Int):Int:=ro (findF (fun i=>decide (fI (ps.getD i.toNat .undef) 0 > v)) ps.length 0) ps.length id
theorem place_spec (ps:List AV) (v:Int):0≤place ps v∧place ps v≤ps.length∧(∀ k:Int,0≤k→k<place ps v→el ps k≤v)∧(place ps v<ps.length→v<el ps (place ps v)):=by
 unfold place
 cases hf:findF (fun i=>decide (fI (ps.getD i.toNat .undef) 0 > v)) ps.length 0 with
 | none =>
  refine ⟨by simp [ro],by simp [ro],fun k h0 h1=>?_,fun h=>?_⟩
  ·have:(findF (fun i=>decide (fI (ps.getD i.toNat .undef) 0 > v)) ps.length 0).isNone=true:=by rw [hf];rfl
   have:=(findF_isNone _ _).1 this k h0 (by simp only [ro] at h1;omega)
   have:=of_decide_eq_false this
   unfold el
   omega
  ·simp only [ro] at h
   omega
 | some j =>
  obtain ⟨h1,h2,h3⟩:=findF_some _ _ hf
  refine ⟨by simpa [ro] using h1,by simp only [ro,id];omega,fun k h0 hk=>?_,fun _=>?_⟩
  ·simp only [ro,id] at hk
   have key:∀ (m:Nat) (i:Int),findF (fun i=>decide (fI (ps.getD i.toNat .undef) 0 > v)) m i=some j→∀ k,i≤k→k<j→¬ fI (ps.getD k.toNat .undef) 0 > v:=by
    intro m
    induction m with
    | zero=>intro i h;cases h
    | succ m ih =>
     intro i h k hk1 hk2
     simp only [findF] at h
     cases hp:decide (fI (ps.getD i.toNat .undef) 0 > v) with
     | true=>rw [hp] at h;simp only [cond_true,Option.some.injEq] at h;omega
     | false =>
      rw [hp] at h
      by_cases e:k=i
      ·subst e;exact of_decide_eq_false hp
      ·exact ih (i+1) h k (by omega) hk2
   have:=key _ _ hf k h0 hk
   unfold el
   omega
  ·simp only [ro,id]
   exact of_decide_eq_true h3
theorem pc_of {vs rs ps:List AV} (h:Col vs rs ps) {v:Int} (hf:(findP ps v).isSome=false):Pc vs.length ps v (if place ps v=0 then 0 else pat ps (place ps v - 1)) (if place ps v=ps.length then (vs.length:Int) else pat ps (place ps v)) (place ps v):=by
 obtain ⟨h0,h1,h2,h3⟩:=place_spec ps v
 refine ⟨h0,h1,fun k k0 k1=>?_,fun k k0 k1=>?_,rfl,rfl⟩
 ·have:=findP_none hf k k0 (by omega)
  have:=h2 k k0 k1
  omega
 ·by_cases e:k=place ps v
  ·rw [e];exact h3 (by omega)
  ·have:=(h.lt (i:=place ps v) (j:=k) h0 (by omega) k1).1
   have:=h3 (by omega)
   omega
theorem P143 {vs rs ps:List AV} {v a b t:Int} (h:Pc vs.length ps v a b t) (hl:ps.length≤1048576):q143 vs rs ps v=true∧v143_0 vs rs ps v=a∧v143_1 vs rs ps v=b:=by
 obtain ⟨r,h1,h2⟩:=runW_ends (f:=R143_0 v (vs.length:Int) ps ps.length) (fun s:Int × Int=>0≤s.2∧s.2≤t∧s.1=if s.2=0 then 0 else pat ps (s.2 - 1))
  (fun r=>match r with | .inl x=>t=ps.length∧x=a | .inr x=>t<ps.length∧x.1=a∧x.2.1=b) (fun s=>((ps.length:Int) - s.2).toNat) (fun s hs=>by
   obtain ⟨t6,k⟩:=s
   obtain ⟨k0,k1,e⟩:=hs
   simp only at k0 k1 e
   have ht1:=h.t1
   by_cases hk:k<ps.length
   ·have d1:decide (k<(ps.length:Int))=true:=decide_eq_true hk
    have d2:decide (0≤k)=true:=decide_eq_true k0
    have wk:IntKind.i64.wrap (k+1)=k+1:=wrap_in (by omega) (by omega)
    by_cases hkt:k<t
    ·have hv:=h.lo k k0 hkt
     have d3:decide (fI (ps.getD k.toNat .undef) 0≤v)=true:=decide_eq_true (Int.le_of_lt hv)
     have d4:decide (fI (ps.getD k.toNat .undef) 0 ≥ v)=false:=decide_eq_false (by unfold el at hv;omega)
     refine .inl ⟨(pat ps k,k+1),?_,⟨by simp only;omega,by simp only;omega,?_⟩,by simp only;omega⟩
     ·simp only [R143_0,F143_0,G143_0,d1,d2,d3,d4,wk,Bool.and_self,cond_true,cond_false]
      rfl
     ·simp only
      rw [if_neg (by omega),show k+1 - 1=k by omega]
    ·have hkt':k=t:=by omega
     subst hkt'
     have hv:=h.hi k (Int.le_refl _) hk
     have d3:decide (fI (ps.getD k.toNat .undef) 0≤v)=false:=decide_eq_false (by unfold el at hv;omega)
     have d4:decide (fI (ps.getD k.toNat .undef) 0 ≥ v)=true:=decide_eq_true (Int.le_of_lt hv)
     refine .inr ⟨.inr (t6,fI (ps.getD k.toNat .undef) 1,fI (ps.getD k.toNat .undef) 0,fI (ps.getD k.toNat .undef) 1),?_,hk,?_,?_⟩
     ·simp only [R143_0,F143_0,G143_0,d1,d2,d3,d4,Bool.and_self,cond_true,cond_false]
     ·simp only;rw [e,h.ea]
     ·simp only;rw [h.eb,if_neg (by omega)];rfl
   ·have d1:decide (k<(ps.length:Int))=false:=decide_eq_false hk
    have hkt':k=t:=by omega
    subst hkt'
    refine .inr ⟨.inl t6,?_,by omega,?_⟩
    ·simp only [R143_0,F143_0,G143_0,d1,cond_false]
    ·rw [e,h.ea]) (((ps.length:Int) - 0).toNat+1) (0,0) ⟨by simp,h.t0,rfl⟩ (by simp)
 unfold q143 v143_0 v143_1
 rw [h1]
 cases r with
 | inl x =>
  obtain ⟨e1,e2⟩:=h2
  refine ⟨rfl,e2,?_⟩
  simp only [ro,sumE]
  rw [h.eb,if_pos e1]
 | inr x =>
  obtain ⟨e1,e2,e3⟩:=h2
  exact ⟨rfl,e2,e3⟩
theorem P177 {n:Nat} {ps:List AV} {v a b t:Int} (h:Pc n ps v a b t) (hl:ps.length≤1048576):q177 n ps v=true∧v177_0 n ps v=a∧v177_1 n ps v=b:=by
 have ht1:=h.t1
 have ht0:=h.t0
 obtain ⟨r,h1,h2⟩:=runW_ends (f:=R177_0 ps v (n:Int)) (fun s:Int × Int=>0≤s.2∧s.2≤ps.length∧s.1=if min s.2 t=0 then 0 else pat ps (min s.2 t - 1)) (fun r=>r=a) (fun s=>((ps.length:Int) - s.2).toNat) (fun s hs=>by
   obtain ⟨t8,k⟩:=s
   obtain ⟨k0,k1,e⟩:=hs
   simp only at k0 k1 e
   by_cases hk:k<ps.length
   ·have d1:decide (k<(ps.length:Int))=true:=decide_eq_true hk
    have d2:decide (0≤k)=true:=decide_eq_true k0
    have wk:IntKind.i64.wrap (k+1)=k+1:=wrap_in (by omega) (by omega)
    by_cases hkt:k<t
    ·have hv:=h.lo k k0 hkt
     have d3:decide (fI (ps.getD k.toNat .undef) 0≤v)=true:=decide_eq_true (Int.le_of_lt hv)
     refine .inl ⟨(pat ps k,k+1),?_,⟨by simp only;omega,by simp only;omega,?_⟩,by simp only;omega⟩
     ·simp only [R177_0,F177_0,G177_0,d1,d2,d3,wk,Bool.and_self,cond_true,cond_false]
      rfl
     ·simp only
      rw [Int.min_eq_left (by omega:k+1≤t),if_neg (by omega),show k+1 - 1=k by omega]
    ·have hv:=h.hi k (by omega) hk
     have d3:decide (fI (ps.getD k.toNat .undef) 0≤v)=false:=decide_eq_false (by unfold el at hv;omega)
     refine .inl ⟨(t8,k+1),?_,⟨by simp only;omega,by simp only;omega,?_⟩,by simp only;omega⟩
     ·simp only [R177_0,F177_0,G177_0,d1,d2,d3,wk,Bool.and_self,cond_true,cond_false]
     ·simp only
      rw [e,Int.min_eq_right (by omega:t≤k+1),Int.min_eq_right (by omega:t≤k)]
   ·have d1:decide (k<(ps.length:Int))=false:=decide_eq_false hk
    refine .inr ⟨t8,?_,?_⟩
    ·simp only [R177_0,F177_0,G177_0,d1,cond_false]
    ·rw [e,h.ea,Int.min_eq_right (by omega:t≤k)]) (((ps.length:Int) - 0).toNat+1) (0,0) ⟨by simp,by simp,by simp only;rw [Int.min_eq_left ht0];rfl⟩ (by simp)
 subst h2
 obtain ⟨r',h3,h4⟩:=runW_ends (f:=R177_2 ps v r) (fun s:Int × Int => -1≤s.2∧s.2<ps.length∧s.1=if max (s.2+1) t=ps.length then (n:Int) else pat ps (max (s.2+1) t)) (fun r=>r=b) (fun s=>(s.2+1).toNat) (fun s hs=>by
   obtain ⟨t9,k⟩:=s
   obtain ⟨k0,k1,e⟩:=hs
   simp only at k0 k1 e
   by_cases hk:k ≥ 0
   ·have d1:decide (k ≥ 0)=true:=decide_eq_true hk
    have d2:decide (0≤k)=true:=decide_eq_true hk
    have d3:decide (k<(ps.length:Int))=true:=decide_eq_true k1
    have wk:IntKind.i64.wrap (k - 1)=k - 1:=wrap_in (by omega) (by omega)
    by_cases hkt:k<t
    ·have hv:=h.lo k hk hkt
     have d4:decide (fI (ps.getD k.toNat .undef) 0 ≥ v)=false:=decide_eq_false (by unfold el at hv;omega)
     refine .inl ⟨(t9,k - 1),?_,⟨by simp only;omega,by simp only;omega,?_⟩,by simp only;omega⟩
     ·simp only [R177_2,F177_2,G177_2,d1,d2,d3,d4,wk,Bool.and_self,cond_true,cond_false]
     ·simp only
      rw [e,Int.max_eq_right (by omega:k+1≤t),Int.max_eq_right (by omega:k - 1+1≤t)]
    ·have hv:=h.hi k (by omega) k1
     have d4:decide (fI (ps.getD k.toNat .undef) 0 ≥ v)=true:=decide_eq_true (Int.le_of_lt hv)
     refine .inl ⟨(pat ps k,k - 1),?_,⟨by simp only;omega,by simp only;omega,?_⟩,by simp only;omega⟩
     ·simp only [R177_2,F177_2,G177_2,d1,d2,d3,d4,wk,Bool.and_self,cond_true,cond_false]
      rfl
     ·simp only
      rw [Int.max_eq_left (by omega:t≤k - 1+1),show k - 1+1=k by omega,if_neg (by omega)]
   ·have d1:decide (k ≥ 0)=false:=decide_eq_false hk
    refine .inr ⟨t9,?_,?_⟩
    ·simp only [R177_2,F177_2,G177_2,d1,cond_false]
    ·rw [e,h.eb,Int.max_eq_right (by omega:k+1≤t)]) (((((ps.length:Int) - 1)) - 0+1).toNat+1) ((n:Int),(ps.length:Int) - 1) ⟨by simp only;omega,by simp only;omega,by simp only;rw [Int.max_eq_left (by omega:t≤(ps.length:Int) - 1+1),if_pos (by omega)]⟩ (by simp only;omega)
 subst h4
 unfold q177 v177_0 v177_1
 rw [wrap_in (a:=(ps.length:Int) - 1) (by omega) (by omega),h1]
 simp only [ro]
 rw [h3]
 refine ⟨?_,?_,?_⟩ <;> first|rfl|trivial
structure Piece (vs ps:List AV) (v a b:Int):Prop where
 a0:0≤a
 ab:a≤b
 b1:b≤vs.length
 cut:∀ p:Int,0≤p→p<ps.length→pat ps p≤a∨b≤pat ps p
 lo:∀ k:Int,0≤k→k<a→el vs k<v
 hi:∀ k:Int,b≤k→k<vs.length→v≤el vs k
theorem piece_of {vs rs ps:List AV} (h:Col vs rs ps) {v a b t:Int} (hp:Pc vs.length ps v a b t):Piece vs ps v a b:=by
 obtain ⟨t0,t1,lo,hi,ea,eb⟩:=hp
 have fa:0≤a∧a≤vs.length∧∀ k:Int,0≤k→k<a→el vs k<v:=by
  rw [ea]
  split
  ·exact ⟨Int.le_refl 0,by omega,fun k h0 h1=>by omega⟩
  ·have:=h.pa (t - 1) (by omega) (by omega)
   refine ⟨this.1,this.2,fun k k0 k1=>?_⟩
   have h1:=(h.part (t - 1) (by omega) (by omega) k k0 (by omega)).2 k1
   have h2:=lo (t - 1) (by omega) (by omega)
   omega
 have fb:0≤b∧b≤vs.length∧∀ k:Int,b≤k→k<vs.length→v≤el vs k:=by
  rw [eb]
  split
  ·exact ⟨by omega,Int.le_refl _,fun k h0 h1=>by omega⟩
  ·have:=h.pa t (by omega) (by omega)
   refine ⟨this.1,this.2,fun k k0 k1=>?_⟩
   have h1:=h.part t (by omega) (by omega) k (by omega) k1
   have h2:=hi t (Int.le_refl _) (by omega)
   omega
 refine ⟨fa.1,?_,fb.2.1,fun p p0 p1=>?_,fa.2.2,fb.2.2⟩
 ·rw [ea,eb]
  split
  ·split
   ·omega
   ·exact (h.pa t (by omega) (by omega)).1
  ·split
   ·exact (h.pa (t - 1) (by omega) (by omega)).2
   ·exact (h.lt (i:=t - 1) (j:=t) (by omega) (by omega) (by omega)).2
 ·by_cases hpt:p<t
  ·left
   rw [ea,if_neg (by omega)]
   by_cases e:p=t - 1
   ·rw [e];exact Int.le_refl _
   ·exact (h.lt (i:=p) (j:=t - 1) p0 (by omega) (by omega)).2
  ·right
   rw [eb,if_neg (by omega)]
   by_cases e:p=t
   ·rw [e];exact Int.le_refl _
   ·exact (h.lt (i:=t) (j:=p) t0 (by omega) p1).2
end Go.Proofs.YtbmfgibbjchijaaGreat

namespace Go.Proofs.YtbmfgibbjchijaaGreat
open Go Go.Proofs.VE
set_option linter.unusedVariables false
set_option linter.unusedSimpArgs false
theorem P69 (v r p:List AV) (h1:v.length≤1048576) (h2:r.length≤1048576) (h3:p.length≤1048576):q69 v r p=true∧v69_0 v r p=v∧v69_1 v r p=r∧v69_2 v r p=p:=by
 unfold q69 v69_0 v69_1 v69_2
 simp only [List.length_nil,Nat.zero_add,List.nil_append]
 rw [decide_eq_true (by omega:v.length*8≤140737488355328),decide_eq_true (by omega:v.length≤140737488355328),decide_eq_true (by omega:r.length*8≤140737488355328),decide_eq_true (by omega:r.length≤140737488355328),decide_eq_true (by omega:p.length*16≤140737488355328),decide_eq_true (by omega:p.length≤140737488355328)]
 simp
theorem P108 (xs:List AV) (h:xs.length≤1048576):q108 xs=true∧v108_0 xs=xs:=by
 unfold q108 v108_0
 rw [decide_eq_true (by omega:xs.length*8≤140737488355328),decide_eq_true (by omega:xs.length≤140737488355328)]
 exact ⟨rfl,rfl⟩
theorem P109 (xs:List AV) (h:xs.length≤1048576):q109 xs=true∧v109_0 xs=xs:=by
 unfold q109 v109_0
 rw [decide_eq_true (by omega:xs.length*16≤140737488355328),decide_eq_true (by omega:xs.length≤140737488355328)]
 exact ⟨rfl,rfl⟩
theorem P64 (v r p:List AV) (h1:v.length≤1048576) (h2:r.length≤1048576) (h3:p.length≤1048576):q64 v r p=true∧v64_0 v r p=v∧v64_1 v r p=r∧v64_2 v r p=p:=by
 unfold q64 v64_0 v64_1 v64_2
 rw [(P108 v h1).1,(P108 r h2).1,(P109 p h3).1]
 exact ⟨rfl,rfl,rfl,rfl⟩
abbrev PS:=Int × Int × List AV
abbrev PS':=Int × Int × List AV × List AV
structure ParI (vs:List AV) (v a b:Int) (s:PS) (s':PS'):Prop where
 e1:s'.1=s.1
 e2:s'.2.1=s.2.1
 e3:s'.2.2.2=s.2.2
 el_:s'.2.2.1=appS s.2.2 vs
 i0:a≤s.1
 ij:s.1≤s.2.1+1
 j1:s.2.1<b
 ins:inS a b s.2.2
 n2:N2 s.2.2
 len:(s.2.2.length:Int)≤s.1 - a
 mid:∀ k:Int,s.1≤k→k≤s.2.1→el (appS s.2.2 vs) k=el vs k
 lo:∀ k:Int,a≤k→k<s.1→el (appS s.2.2 vs) k<v
 hi:∀ k:Int,s.2.1<k→k<b→v≤el (appS s.2.2 vs) k
 ord:∀ x ∈ s.2.2,fI x 0<fI x 1
structure Parted (vs:List AV) (v a b:Int) (ss:List AV) (at_:Int):Prop where
 i0:a≤at_
 i1:at_≤b
 ins:inS a b ss
 n2:N2 ss
 len:(ss.length:Int)≤at_ - a
 lo:∀ k:Int,a≤k→k<at_→el (appS ss vs) k<v
 hi:∀ k:Int,at_≤k→k<b→v≤el (appS ss vs) k
 ord:∀ x ∈ ss,fI x 0<fI x 1
theorem room2 (X:List AV) (a:AV) (h:X.length≤1048576):(decide ((X.length+[a].length)*16≤140737488355328) && decide (X.length+[a].length≤140737488355328))=true:=by
 simp only [List.length_singleton,Bool.and_eq_true,decide_eq_true_eq]
 omega
theorem stepPar (vs:List AV) (v a b:Int) (hn:vs.length≤1048576) (a0:0≤a) (b1:b≤vs.length) (s:PS) (s':PS') (h:ParI vs v a b s s') :
  (∃ x y,R151_0 vs v s = .next x∧R144_0 v s' = .next y∧ParI vs v a b x y∧(x.2.1+1 - x.1).toNat<(s.2.1+1 - s.1).toNat)∨∃ r r',R151_0 vs v s = .stop r∧R144_0 v s' = .stop r'∧(r'.1=r.1∧r'.2.2=r.2∧Parted vs v a b r.2 r.1):=by
 obtain ⟨i,j,ss⟩:=s
 obtain ⟨i',j',l,ss'⟩:=s'
 obtain ⟨e1,e2,e3,e4,i0,ij,j1,ins,n2,len,mid,lo,hi,ord⟩:=h
 simp only at e1 e2 e3 e4 i0 ij j1 ins n2 len mid lo hi ord
 subst e1 e2 e3 e4
 have hlen:=appS_len ss' vs
 by_cases hij:i'≤j'
 ·have d0:decide (i'≤j')=true:=decide_eq_true hij
  have c1:decide (0≤i')=true:=decide_eq_true (by omega)
  have c2:decide (i'<(vs.length:Int))=true:=decide_eq_true (by omega)
  have c3:decide (0≤j')=true:=decide_eq_true (by omega)
  have c4:decide (j'<(vs.length:Int))=true:=decide_eq_true (by omega)
  have wi:IntKind.i64.wrap (i'+1)=i'+1:=wrap_in (by omega) (by omega)
  have wj:IntKind.i64.wrap (j' - 1)=j' - 1:=wrap_in (by omega) (by omega)
  have mi:=mid i' (Int.le_refl _) hij
  have mj:=mid j' hij (Int.le_refl _)
  have fi:fI ((appS ss' vs).getD i'.toNat AV.undef) 0=el vs i':=mi
  have fj:fI ((appS ss' vs).getD j'.toNat AV.undef) 0=el vs j':=mj
  have gi:fI (vs.getD i'.toNat AV.undef) 0=el vs i':=rfl
  have gj:fI (vs.getD j'.toNat AV.undef) 0=el vs j':=rfl
  by_cases h1:el vs i'<v
  ·have d1:decide (el vs i'<v)=true:=decide_eq_true h1
   refine .inl ⟨(i'+1,j',ss'),(i'+1,j',appS ss' vs,ss'),?_,?_,⟨rfl,rfl,rfl,rfl,by simp only;omega,by simp only;omega,j1,ins,n2,by simp only;omega,fun k k0 k1=>mid k (by simp only at k0;omega) k1,fun k k0 k1=>?_,hi,ord⟩,by simp only;omega⟩
   ·simp only [R151_0,F151_0,G151_0,gi,d0,c1,c2,d1,wi,Bool.and_self,cond_true]
   ·simp only [R144_0,F144_0,G144_0,q163,v163_0,v163_1,v163_2,hlen,fi,d0,c1,c2,d1,wi,Bool.and_self,cond_true,cond_false]
   ·simp only at k1 ⊢
    by_cases e:k=i'
    ·rw [e,mi];exact h1
    ·exact lo k k0 (by omega)
  ·have d1:decide (el vs i'<v)=false:=decide_eq_false h1
   by_cases h2:el vs j' ≥ v
   ·have d2:decide (el vs j' ≥ v)=true:=decide_eq_true h2
    refine .inl ⟨(i',j' - 1,ss'),(i',j' - 1,appS ss' vs,ss'),?_,?_,⟨rfl,rfl,rfl,rfl,i0,by simp only;omega,by simp only;omega,ins,n2,len,fun k k0 k1=>mid k k0 (by simp only at k1;omega),lo,fun k k0 k1=>?_,ord⟩,by simp only;omega⟩
    ·simp only [R151_0,F151_0,G151_0,gi,gj,d0,c1,c2,c3,c4,d1,d2,wj,Bool.and_self,cond_true,cond_false]
    ·simp only [R144_0,F144_0,G144_0,q163,v163_0,v163_1,v163_2,hlen,fi,fj,d0,c1,c2,c3,c4,d1,d2,wj,Bool.and_self,cond_true,cond_false]
    ·simp only at k0 ⊢
     by_cases e:k=j'
     ·rw [e,mj];exact h2
     ·exact hi k (by omega) k1
   ·have d2:decide (el vs j' ≥ v)=false:=decide_eq_false h2
    have hne:i'<j':=by
     rcases Int.lt_or_eq_of_le hij with h|h
     ·exact h
     ·rw [h] at h1;omega
    have hr:=room2 ss' (AV.agg [AV.int .i64 i',AV.int .i64 j']) (by omega)
    have eap:appS (ss'++[AV.agg [AV.int .i64 i',AV.int .i64 j']]) vs=v122_0 i' j' (appS ss' vs):=appS_snoc _ _ _
    have ev:∀ k:Int,0≤k→el (v122_0 i' j' (appS ss' vs)) k=if k=j' then el (appS ss' vs) i' else if k=i' then el (appS ss' vs) j' else el (appS ss' vs) k:=fun k k0=>el_sw _ i' j' k (by omega) (by omega) (by omega) (by omega) k0
    refine .inl ⟨(i'+1,j' - 1,ss'++[AV.agg [AV.int .i64 i',AV.int .i64 j']]),(i'+1,j' - 1,v122_0 i' j' (appS ss' vs),ss'++[AV.agg [AV.int .i64 i',AV.int .i64 j']]),?_,?_,
     ⟨rfl,rfl,rfl,eap.symm,by simp only;omega,by simp only;omega,by simp only;omega,fun x hx=>?_,fun x hx=>?_,by simp only [List.length_append,List.length_singleton];omega,fun k k0 k1=>?_,fun k k0 k1=>?_,fun k k0 k1=>?_,fun x hx=>?_⟩,by simp only;omega⟩
    ·simp only [R151_0,F151_0,G151_0,gi,gj,d0,c1,c2,c3,c4,d1,d2,wi,wj,hr,Bool.and_self,cond_true,cond_false]
    ·simp only [R144_0,F144_0,G144_0,q163,v163_0,v163_1,v163_2,hlen,List.length_set,fi,fj,d0,c1,c2,c3,c4,d1,d2,wi,wj,hr,Bool.and_self,cond_true,cond_false]
     unfold v122_0
     rw [fi,fj]
    ·rcases List.mem_append.1 hx with hx|hx
     ·exact ins x hx
     ·rw [List.mem_singleton.1 hx]
      exact ⟨i0,by show i'<b;omega,by show a≤j';omega,j1⟩
    ·rcases List.mem_append.1 hx with hx|hx
     ·exact n2 x hx
     ·rw [List.mem_singleton.1 hx]
      rfl
    ·simp only at k0 k1
     rw [eap,ev k (by omega),if_neg (by omega),if_neg (by omega)]
     exact mid k (by omega) (by omega)
    ·simp only at k1
     rw [eap,ev k (by omega),if_neg (by omega)]
     split
     ·rw [mj];omega
     ·exact lo k k0 (by omega)
    ·simp only at k0
     rw [eap,ev k (by omega)]
     split
     ·rw [mi];omega
     ·rw [if_neg (by omega)]
      exact hi k (by omega) k1
    ·rcases List.mem_append.1 hx with hx|hx
     ·exact ord x hx
     ·rw [List.mem_singleton.1 hx]
      exact hne
 ·have d0:decide (i'≤j')=false:=decide_eq_false hij
  refine .inr ⟨(i',ss'),(i',appS ss' vs,ss'),?_,?_,rfl,rfl,⟨i0,by simp only;omega,ins,n2,len,lo,fun k k0 k1=>hi k (by simp only at k0;omega) k1,ord⟩⟩
  ·simp only [R151_0,F151_0,G151_0,d0,cond_false]
  ·simp only [R144_0,F144_0,G144_0,d0,cond_false]
theorem P151 (vs:List AV) (v a b:Int) (hn:vs.length≤1048576) (a0:0≤a) (ab:a≤b) (b1:b≤vs.length) :
  q151 vs a b v=true∧q144 vs a b v=true∧v144_0 vs a b v=v151_0 vs a b v∧v144_1 vs a b v=v151_1 vs a b v∧Parted vs v a b (v151_0 vs a b v) (v151_1 vs a b v):=by
 obtain ⟨r,r',h1,h2,h3,h4,h5⟩:=runW_pair (ParI vs v a b) (fun (r:Int × List AV) (r':Int × List AV × List AV)=>r'.1=r.1∧r'.2.2=r.2∧Parted vs v a b r.2 r.1) (fun s=>(s.2.1+1 - s.1).toNat) (stepPar vs v a b hn a0 b1) (((b - 1) - a+1).toNat+1) (((b - 1) - a+1).toNat+1) (a,b - 1,[]) (a,b - 1,vs,[])
  ⟨rfl,rfl,rfl,rfl,Int.le_refl _,by simp only;omega,by simp only;omega,fun x hx=>by simp at hx,fun x hx=>by simp at hx,by simp,fun k _ _=>rfl,fun k k0 k1=>by simp only at k1;omega,fun k k0 k1=>by simp only at k0;omega,fun x hx=>by simp at hx⟩ (by simp only;omega) (by simp only;omega)
 have wb:IntKind.i64.wrap (b - 1)=b - 1:=wrap_in (by omega) (by omega)
 have d1:decide (a<0)=false:=decide_eq_false (by omega)
 have d2:decide (a > b)=false:=decide_eq_false (by omega)
 have d3:decide (b > (vs.length:Int))=false:=decide_eq_false (by omega)
 have d4:v52_0 a 0 b=true:=by rw [v52,decide_eq_true a0,decide_eq_true ab];rfl
 obtain ⟨c1,c2⟩:=P108 vs hn
 unfold q151 q144 v144_0 v151_0 v144_1 v151_1
 rw [wb,d1,d2,d3,d4,c1,c2,h1,h2]
 exact ⟨rfl,rfl,h4,h3,h5⟩
theorem q122_in (i j:Int) (xs:List AV) (i0:0≤i) (i1:i<xs.length) (j0:0≤j) (j1:j<xs.length):q122 i j xs=true:=by
 unfold q122
 rw [List.length_set,decide_eq_true i0,decide_eq_true i1,decide_eq_true j0,decide_eq_true j1]
 rfl
theorem mem_at {xs:List AV} {k:Int} (h0:0≤k) (h1:k<xs.length):xs.getD k.toNat .undef ∈ xs:=by
 rw [List.getD_eq_getElem?_getD,List.getElem?_eq_getElem (by omega)]
 exact List.getElem_mem _
theorem P152 (vs rs ps ss:List AV) (hv:vs.length≤1048576) (hp:ps.length≤1048576) (hl:(rs.length:Int)=vs.length) (hs:ss.length≤1048576) (h:inS 0 vs.length ss) :
  q152 vs rs ps ss=true∧v152_0 vs rs ps ss=appS ss vs∧v152_1 vs rs ps ss=appS ss rs∧v152_2 vs rs ps ss=ps∧v152_3 vs rs ps ss=true:=by
 obtain ⟨c0,c1,c2,c3⟩:=P69 vs rs ps hv (by omega) hp
 obtain ⟨r,h1,h2⟩:=runW_ends (f:=R152_0 ss vs rs ps ps) (fun s:Int × List AV × List AV=>0≤s.1∧s.1≤ss.length∧s.2.1=appS (ss.take s.1.toNat) vs∧s.2.2=appS (ss.take s.1.toNat) rs) (fun r=>r = .inl (appS ss vs,appS ss rs)) (fun s=>((ss.length:Int) - s.1).toNat) (fun s hI=>by
   obtain ⟨k,X,Y⟩:=s
   obtain ⟨k0,k1,ex,ey⟩:=hI
   simp only at k0 k1 ex ey
   subst ex ey
   by_cases hk:k<ss.length
   ·have d1:decide (k<(ss.length:Int))=true:=decide_eq_true hk
    have d2:decide (0≤k)=true:=decide_eq_true k0
    have wk:IntKind.i64.wrap (k+1)=k+1:=wrap_in (by omega) (by omega)
    obtain ⟨g1,g2,g3,g4⟩:=h _ (mem_at k0 hk)
    have lx:=appS_len (ss.take k.toNat) vs
    have ly:=appS_len (ss.take k.toNat) rs
    have wl:IntKind.i64.wrap (((appS (ss.take k.toNat) vs).length:Int) - 1)=(vs.length:Int) - 1:=by rw [lx,wrap_in (by omega) (by omega)]
    have e1:v52_0 (fI (ss.getD k.toNat AV.undef) 0) 0 ((vs.length:Int) - 1)=true:=by rw [v52,decide_eq_true g1,decide_eq_true (by omega)];rfl
    have e2:v52_0 (fI (ss.getD k.toNat AV.undef) 1) 0 ((vs.length:Int) - 1)=true:=by rw [v52,decide_eq_true g3,decide_eq_true (by omega)];rfl
    refine .inl ⟨(k+1,v122_0 (fI (ss.getD k.toNat AV.undef) 0) (fI (ss.getD k.toNat AV.undef) 1) (appS (ss.take k.toNat) vs),v122_0 (fI (ss.getD k.toNat AV.undef) 0) (fI (ss.getD k.toNat AV.undef) 1) (appS (ss.take k.toNat) rs)),?_,⟨by simp only;omega,by simp only;omega,?_,?_⟩,by simp only;omega⟩
    ·simp only [R152_0,F152_0,G152_0,d1,d2,wk,wl,e1,e2,q122_in _ _ (appS (ss.take k.toNat) vs) g1 (by omega) g3 (by omega),q122_in _ _ (appS (ss.take k.toNat) rs) g1 (by omega) g3 (by omega),Bool.and_self,Bool.not_true,cond_true,cond_false]
    ·simp only
     rw [take_snoc k0 hk,appS_snoc]
    ·simp only
     rw [take_snoc k0 hk,appS_snoc]
   ·have d1:decide (k<(ss.length:Int))=false:=decide_eq_false hk
    refine .inr ⟨_,by simp only [R152_0,F152_0,G152_0,d1,cond_false];rfl,?_⟩
    rw [List.take_of_length_le (by omega)]) (((ss.length:Int) - 0).toNat+1) (0,vs,rs) ⟨by simp,by simp,rfl,rfl⟩ (by simp)
 subst h2
 unfold q152 v152_0 v152_1 v152_2 v152_3
 rw [c0,c1,c2,c3,decide_eq_true hl,h1]
 exact ⟨rfl,rfl,rfl,rfl,rfl⟩
theorem P145 (vs rs ps ss:List AV) (hv:vs.length≤1048576) (hp:ps.length≤1048576) (hl:(rs.length:Int)=vs.length) (hs:ss.length≤1048576) (h:inS 0 vs.length ss) :
  q145 vs rs ps ss=true∧v145_0 vs rs ps ss=appS ss vs∧v145_1 vs rs ps ss=appS ss rs∧v145_2 vs rs ps ss=ps∧v145_3 vs rs ps ss=true:=by
 obtain ⟨c0,c1,c2,c3⟩:=P64 vs rs ps hv (by omega) hp
 obtain ⟨r,h1,h2⟩:=runW_ends (f:=R145_0 (vs.length:Int) ss ss.length vs rs ps ps) (fun s:Int × List AV × List AV=>0≤s.1∧s.1≤ss.length∧s.2.1=appS (ss.take s.1.toNat) vs∧s.2.2=appS (ss.take s.1.toNat) rs) (fun r=>r = .inl (appS ss vs,appS ss rs)) (fun s=>((ss.length:Int) - s.1).toNat) (fun s hI=>by
   obtain ⟨k,X,Y⟩:=s
   obtain ⟨k0,k1,ex,ey⟩:=hI
   simp only at k0 k1 ex ey
   subst ex ey
   by_cases hk:k<ss.length
   ·have d1:decide (k<(ss.length:Int))=true:=decide_eq_true hk
    have d2:decide (0≤k)=true:=decide_eq_true k0
    have wk:IntKind.i64.wrap (k+1)=k+1:=wrap_in (by omega) (by omega)
    obtain ⟨g1,g2,g3,g4⟩:=h _ (mem_at k0 hk)
    have lx:=appS_len (ss.take k.toNat) vs
    have ly:=appS_len (ss.take k.toNat) rs
    have ly':((appS (ss.take k.toNat) rs).length:Int)=vs.length:=by rw [ly];exact hl
    have e1:decide (fI (ss.getD k.toNat AV.undef) 0<0)=false:=decide_eq_false (by omega)
    have e2:decide (fI (ss.getD k.toNat AV.undef) 0 ≥ (vs.length:Int))=false:=decide_eq_false (by omega)
    have e3:decide (fI (ss.getD k.toNat AV.undef) 1<0)=false:=decide_eq_false (by omega)
    have e4:decide (fI (ss.getD k.toNat AV.undef) 1 ≥ (vs.length:Int))=false:=decide_eq_false (by omega)
    have e5:decide (0≤fI (ss.getD k.toNat AV.undef) 0)=true:=decide_eq_true g1
    have e6:decide (fI (ss.getD k.toNat AV.undef) 0<(vs.length:Int))=true:=decide_eq_true g2
    have e7:decide (0≤fI (ss.getD k.toNat AV.undef) 1)=true:=decide_eq_true g3
    have e8:decide (fI (ss.getD k.toNat AV.undef) 1<(vs.length:Int))=true:=decide_eq_true g4
    refine .inl ⟨(k+1,v122_0 (fI (ss.getD k.toNat AV.undef) 0) (fI (ss.getD k.toNat AV.undef) 1) (appS (ss.take k.toNat) vs),v122_0 (fI (ss.getD k.toNat AV.undef) 0) (fI (ss.getD k.toNat AV.undef) 1) (appS (ss.take k.toNat) rs)),?_,⟨by simp only;omega,by simp only;omega,?_,?_⟩,by simp only;omega⟩
    ·simp only [R145_0,F145_0,G145_0,List.length_set,lx,ly',d1,d2,wk,e1,e2,e3,e4,e5,e6,e7,e8,Bool.and_self,cond_true,cond_false]
     rfl
    ·simp only
     rw [take_snoc k0 hk,appS_snoc]
    ·simp only
     rw [take_snoc k0 hk,appS_snoc]
   ·have d1:decide (k<(ss.length:Int))=false:=decide_eq_false hk
    refine .inr ⟨_,by simp only [R145_0,F145_0,G145_0,d1,cond_false];rfl,?_⟩
    rw [List.take_of_length_le (by omega)]) (((ss.length:Int) - 0).toNat+1) (0,vs,rs) ⟨by simp,by simp,rfl,rfl⟩ (by simp)
 subst h2
 unfold q145 v145_0 v145_1 v145_2 v145_3
 rw [c0,c1,c2,c3,decide_eq_true hl,h1]
 exact ⟨rfl,rfl,rfl,rfl,rfl⟩
def insP (ps:List AV) (v a:Int):List AV:=ps.take (place ps v).toNat++[mk2 v a]++ps.drop (place ps v).toNat
theorem insP_len (ps:List AV) (v a:Int):(insP ps v a).length=ps.length+1:=by
 have:=place_spec ps v
 unfold insP
 simp only [List.length_append,List.length_take,List.length_drop,List.length_singleton]
 omega
theorem insP_N2 {ps:List AV} (h:N2 ps) (v a:Int):N2 (insP ps v a):=fun x hx=>by
 unfold insP at hx
 rcases List.mem_append.1 hx with hx|hx
 ·rcases List.mem_append.1 hx with hx|hx
  ·exact h x (List.mem_of_mem_take hx)
  ·rw [List.mem_singleton.1 hx]
   rfl
 ·exact h x (List.mem_of_mem_drop hx)
theorem insP_at (ps:List AV) (v a:Int) (i:Int) (h0:0≤i):(insP ps v a).getD i.toNat .undef=if i<place ps v then ps.getD i.toNat .undef else if i=place ps v then mk2 v a else ps.getD (i - 1).toNat .undef:=by
 obtain ⟨p0,p1,_,_⟩:=place_spec ps v
 unfold insP
 simp only [List.getD_eq_getElem?_getD]
 have tl:(ps.take (place ps v).toNat).length=(place ps v).toNat:=by rw [List.length_take];omega
 split
 ·rw [List.append_assoc,List.getElem?_append_left (by omega),List.getElem?_take_of_lt (by omega)]
 ·split
  ·rename_i e1 e2
   rw [List.append_assoc,List.getElem?_append_right (by omega),tl,e2,Nat.sub_self]
   rfl
  ·rw [List.append_assoc,List.getElem?_append_right (by omega),tl,List.getElem?_append_right (by simp;omega),List.getElem?_drop]
   congr 2
   simp only [List.length_singleton]
   omega
theorem Col.pivot {vs rs ps:List AV} (h:Col vs rs ps) {v at_:Int} (hf:∀ k:Int,0≤k→k<ps.length→el ps k ≠ v) (hv : -1000≤v∧v≤1000) (ha:0≤at_∧at_≤vs.length) (hat:∀ k:Int,0≤k→k<vs.length→(el vs k<v ↔ k<at_))
  (hcut:∀ p:Int,0≤p→p<ps.length→(el ps p<v→pat ps p≤at_)∧(v<el ps p→at_≤pat ps p)):Col vs rs (insP ps v at_):=by
 obtain ⟨p0,p1,p2,p3⟩:=place_spec ps v
 have hlen:=insP_len ps v at_
 generalize hpl:place ps v=t at *
 have eel:∀ i:Int,0≤i→el (insP ps v at_) i=if i<t then el ps i else if i=t then v else el ps (i - 1):=fun i h0=>by
  unfold el
  rw [insP_at ps v at_ i h0,hpl]
  split
  ·rfl
  ·split <;> rfl
 have epa:∀ i:Int,0≤i→pat (insP ps v at_) i=if i<t then pat ps i else if i=t then at_ else pat ps (i - 1):=fun i h0=>by
  unfold pat
  rw [insP_at ps v at_ i h0,hpl]
  split
  ·rfl
  ·split <;> rfl
 have lo:∀ k:Int,0≤k→k<t→el ps k<v:=fun k k0 k1=>by
  have:=p2 k k0 k1
  have:=hf k k0 (by omega)
  omega
 have hi:∀ k:Int,t≤k→k<ps.length→v<el ps k:=fun k k0 k1=>by
  by_cases e:k=t
  ·rw [e];exact p3 (by omega)
  ·have:=(h.lt (i:=t) (j:=k) p0 (by omega) k1).1
   have:=p3 (by omega)
   omega
 refine ⟨h.n64,h.vals,h.len,h.rows,h.dist,fun i i0 i1=>?_,fun i i0 i1=>?_,fun i i0 i1=>?_,fun i i0 i1 k k0 k1=>?_⟩
 ·rw [eel i i0]
  split
  ·exact h.pv i i0 (by omega)
  ·split
   ·exact hv
   ·exact h.pv (i - 1) (by omega) (by omega)
 ·rw [epa i i0]
  split
  ·exact h.pa i i0 (by omega)
  ·split
   ·exact ha
   ·exact h.pa (i - 1) (by omega) (by omega)
 ·rw [eel i (by omega),eel (i - 1) (by omega),epa i (by omega),epa (i - 1) (by omega)]
  by_cases h1:i<t
  ·have q:i - 1<t:=by omega
   rw [if_pos h1,if_pos h1,if_pos q,if_pos q]
   exact h.asc i i0 (by omega)
  ·by_cases h2:i=t
   ·have q:i - 1<t:=by omega
    rw [if_neg h1,if_neg h1,if_pos h2,if_pos h2,if_pos q,if_pos q]
    have a1:=lo (i - 1) (by omega) (by omega)
    exact ⟨a1,(hcut (i - 1) (by omega) (by omega)).1 a1⟩
   ·have q:¬ i - 1<t:=by omega
    rw [if_neg h1,if_neg h1,if_neg h2,if_neg h2,if_neg q,if_neg q]
    by_cases h3:i - 1=t
    ·rw [if_pos h3,if_pos h3]
     have a1:=hi (i - 1) (by omega) (by omega)
     exact ⟨a1,(hcut (i - 1) (by omega) (by omega)).2 a1⟩
    ·rw [if_neg h3,if_neg h3]
     exact h.asc (i - 1) (by omega) (by omega)
 ·rw [eel i i0,epa i i0]
  split
  ·exact h.part i i0 (by omega) k k0 k1
  ·split
   ·exact hat k k0 k1
   ·exact h.part (i - 1) (by omega) (by omega) k k0 k1
theorem P164 (ps:List AV) (v a:Int) (h:ps.length≤1048576):q164 ps (AV.agg [AV.int .i64 v,AV.int .i64 a])=true∧v164_0 ps (AV.agg [AV.int .i64 v,AV.int .i64 a])=ro (findF (fun i=>decide (fI (ps.getD i.toNat .undef) 0 > v)) ps.length 0) (-1) id:=by
 have hr:runW (R164_0 ps (AV.agg [AV.int .i64 v,AV.int .i64 a]) ps.length) (((ps.length:Int) - 0).toNat+1) 0=some (ro (findF (fun i=>decide (fI (ps.getD i.toNat .undef) 0 > v)) ps.length 0) (.inl ()) fun i => .inr i):=by
  refine runW_find (fun i=>i) ps.length _ _ _ (fun i h0 hn=>?_) ?_ ps.length _ 0 (Int.le_refl 0) (by omega) (by omega)
  ·simp only [R164_0,F164_0,G164_0,h0,hn,decide_true,Bool.and_self,cond_true,v165_0]
   rw [wrap_in (a:=i+1) (by omega) (by omega)]
   rfl
  ·simp only [R164_0,F164_0,G164_0,Int.lt_irrefl,decide_false,cond_false]
 unfold q164 v164_0
 rw [hr]
 cases findF (fun i=>decide (fI (ps.getD i.toNat .undef) 0 > v)) ps.length 0 <;> exact ⟨rfl,rfl⟩
theorem P146 (vs rs ps:List AV) (v a:Int) (h1:vs.length≤1048576) (h2:rs.length≤1048576) (h3:ps.length≤1048576):q146 vs rs ps v a=true∧v146_0 vs rs ps v a=vs∧v146_1 vs rs ps v a=rs∧v146_2 vs rs ps v a=insP ps v a:=by
 obtain ⟨c0,c1,c2,c3⟩:=P64 vs rs ps h1 h2 h3
 obtain ⟨d0,d1⟩:=P164 ps v a h3
 have hp:=place_spec ps v
 unfold q146 v146_0 v146_1 v146_2 insP
 unfold place at hp ⊢
 rw [c0,c1,c2,c3,d0,d1]
 have hroom:decide ((ps.length+1)*16≤140737488355328)=true:=decide_eq_true (by omega)
 cases hf:findF (fun i=>decide (fI (ps.getD i.toNat .undef) 0 > v)) ps.length 0 with
 | none =>
  have e1:decide (ro (none:Option Int) (-1) id<0)=true:=rfl
  have e2:decide (0≤(ps.length:Int))=true:=decide_eq_true (by omega)
  have e3:decide ((ps.length:Int)≤(ps.length:Int))=true:=decide_eq_true (Int.le_refl _)
  rw [e1,e2,e3,hroom]
  exact ⟨rfl,rfl,rfl,rfl⟩
 | some j =>
  rw [hf] at hp
  simp only [ro,id] at hp
  have e1:decide (ro (some j) (-1) id<0)=false:=decide_eq_false (by simp only [ro,id];omega)
  have e2:decide (0≤ro (some j) (-1) id)=true:=decide_eq_true (by simp only [ro,id];omega)
  have e3:decide (ro (some j) (-1) id≤(ps.length:Int))=true:=decide_eq_true (by simp only [ro,id];omega)
  rw [e1,e2,e3,hroom]
  exact ⟨rfl,rfl,rfl,rfl⟩
theorem drop_snoc {xs:List AV} {t k:Int} (h0:0≤t) (ht:t≤k) (h1:k<xs.length):(xs.take (k+1).toNat).drop t.toNat=(xs.take k.toNat).drop t.toNat++[xs.getD k.toNat .undef]:=by
 rw [take_snoc (by omega) h1,List.drop_append_of_le_length (by rw [List.length_take];omega)]
theorem run153 (a1 a2 vs rs ps:List AV) (v a:Int) (h3:ps.length≤1048576) (hN:N2 ps):∃ r:Bool × List AV,runW (R153_0 a1 a2 vs rs ps v a) (((ps.length:Int) - 0).toNat+1) (false,0,[])=some r∧(r.2.length≤1048577∧(r.1=false→r.2++[mk2 v a]=insP ps v a∧r.2.length≤1048576)∧(r.1=true→r.2=insP ps v a)):=by
 obtain ⟨p0,p1,p2,p3⟩:=place_spec ps v
 have hins:insP ps v a=ps.take (place ps v).toNat++[mk2 v a]++ps.drop (place ps v).toNat:=rfl
 have hlen:=insP_len ps v a
 generalize hpl:place ps v=t at *
 obtain ⟨r,h1,h2⟩:=runW_ends (f:=R153_0 a1 a2 vs rs ps v a) (fun s:Bool × Int × List AV=>0≤s.2.1∧s.2.1≤ps.length∧((s.1=false∧s.2.1≤t∧s.2.2=ps.take s.2.1.toNat)∨(s.1=true∧t<s.2.1∧s.2.2=ps.take t.toNat++[mk2 v a]++(ps.take s.2.1.toNat).drop t.toNat)))
  (fun r=>(r.1=false∧t=ps.length∧r.2=ps)∨(r.1=true∧t<ps.length∧r.2=ps.take t.toNat++[mk2 v a]++ps.drop t.toNat)) (fun s=>((ps.length:Int) - s.2.1).toNat) (fun s hI=>by
   obtain ⟨b,k,acc⟩:=s
   obtain ⟨k0,k1,hI⟩:=hI
   simp only at k0 k1 hI
   by_cases hk:k<ps.length
   ·have d1:decide (k<(ps.length:Int))=true:=decide_eq_true hk
    have d2:decide (0≤k)=true:=decide_eq_true k0
    have wk:IntKind.i64.wrap (k+1)=k+1:=wrap_in (by omega) (by omega)
    have en:AV.agg [AV.int .i64 (fI (ps.getD k.toNat AV.undef) 0),AV.int .i64 (fI (ps.getD k.toNat AV.undef) 1)]=ps.getD k.toNat .undef:=hN.at k0 hk
    rcases hI with ⟨rfl,kt,rfl⟩|⟨rfl,kt,rfl⟩
    ·have hl:(ps.take k.toNat).length≤1048576:=by rw [List.length_take];omega
     by_cases hkt:k<t
     ·have d3:decide (fI (ps.getD k.toNat AV.undef) 0 > v)=false:=decide_eq_false (by have:=p2 k k0 hkt;unfold el at this;omega)
      refine .inl ⟨(false,k+1,ps.take (k+1).toNat),?_,⟨by simp only;omega,by simp only;omega,.inl ⟨rfl,by simp only;omega,rfl⟩⟩,by simp only;omega⟩
      simp only [R153_0,F153_0,G153_0,d1,d2,d3,wk,en,room2 _ _ hl,Bool.and_self,Bool.not_false,cond_true,cond_false]
      rw [take_snoc k0 hk]
     ·have hkt':k=t:=by omega
      have d3:decide (fI (ps.getD k.toNat AV.undef) 0 > v)=true:=decide_eq_true (by have:=p3 (by omega);rw [← hkt'] at this;exact this)
      have hl2:(ps.take k.toNat++[AV.agg [AV.int .i64 v,AV.int .i64 a]]).length≤1048576:=by rw [List.length_append,List.length_take,List.length_singleton];omega
      refine .inl ⟨(true,k+1,ps.take t.toNat++[mk2 v a]++(ps.take (k+1).toNat).drop t.toNat),?_,⟨by simp only;omega,by simp only;omega,.inr ⟨rfl,by simp only;omega,rfl⟩⟩,by simp only;omega⟩
      simp only [R153_0,F153_0,G153_0,d1,d2,d3,wk,en,room2 _ _ hl,room2 _ _ hl2,Bool.and_self,Bool.not_false,cond_true,cond_false]
      rw [drop_snoc p0 (by omega) hk,List.drop_eq_nil_of_le (show (ps.take k.toNat).length≤t.toNat by rw [List.length_take];omega),← hkt']
      rfl
    ·have hl:(ps.take t.toNat++[mk2 v a]++(ps.take k.toNat).drop t.toNat).length≤1048576:=by
      simp only [List.length_append,List.length_take,List.length_drop,List.length_singleton]
      omega
     refine .inl ⟨(true,k+1,ps.take t.toNat++[mk2 v a]++(ps.take (k+1).toNat).drop t.toNat),?_,⟨by simp only;omega,by simp only;omega,.inr ⟨rfl,by simp only;omega,rfl⟩⟩,by simp only;omega⟩
     simp only [R153_0,F153_0,G153_0,d1,d2,wk,en,room2 _ _ hl,Bool.and_self,Bool.not_true,cond_true,cond_false]
     rw [drop_snoc p0 (by omega) hk,List.append_assoc _ _ [ps.getD k.toNat AV.undef]]
   ·have d1:decide (k<(ps.length:Int))=false:=decide_eq_false hk
    rcases hI with ⟨rfl,kt,rfl⟩|⟨rfl,kt,rfl⟩
    ·refine .inr ⟨(false,ps.take k.toNat),by simp only [R153_0,F153_0,G153_0,d1,cond_false],.inl ⟨rfl,by omega,?_⟩⟩
     exact List.take_of_length_le (by omega)
    ·refine .inr ⟨(true,ps.take t.toNat++[mk2 v a]++(ps.take k.toNat).drop t.toNat),by simp only [R153_0,F153_0,G153_0,d1,cond_false],.inr ⟨rfl,by omega,?_⟩⟩
     rw [List.take_of_length_le (l:=ps) (i:=k.toNat) (by omega)]) (((ps.length:Int) - 0).toNat+1) (false,0,[]) ⟨by simp,by simp,.inl ⟨rfl,p0,rfl⟩⟩ (by simp)
 refine ⟨r,h1,?_⟩
 obtain ⟨b,acc⟩:=r
 rcases h2 with ⟨e1,e2,e3⟩|⟨e1,e2,e3⟩
 ·simp only at e1 e3
  subst e1 e3
  refine ⟨by simp only;omega,fun _=>⟨?_,h3⟩,fun h=>by cases h⟩
  rw [hins,e2]
  simp
 ·simp only at e1 e3
  subst e1 e3
  refine ⟨?_,⟨fun h=>(by cases h),fun _=>hins.symm⟩⟩
  simp only
  rw [← hins,hlen]
  omega
theorem P153 (vs rs ps:List AV) (v a:Int) (h1:vs.length≤1048576) (h2:rs.length≤1048576) (h3:ps.length≤1048575) (hN:N2 ps) :
  q153 vs rs ps v a=true∧v153_0 vs rs ps v a=vs∧v153_1 vs rs ps v a=rs∧v153_2 vs rs ps v a=(bif isC vs rs ps && isC vs rs (insP ps v a) then insP ps v a else ps)∧v153_3 vs rs ps v a=(isC vs rs ps && isC vs rs (insP ps v a)):=by
 obtain ⟨c0,c1,c2,c3⟩:=P69 vs rs ps h1 h2 (by omega)
 obtain ⟨r,g1,g2,g3,g4⟩:=run153 vs rs vs rs ps v a (by omega) hN
 have hl:=insP_len ps v a
 have k1:=P68 vs rs ps h1 h2 (by omega)
 have k2:=P68 vs rs (insP ps v a) h1 h2 (by omega)
 unfold q153 v153_0 v153_1 v153_2 v153_3
 rw [c0,c1,c2,c3,k1.1,k1.2,g1]
 obtain ⟨b,acc⟩:=r
 cases b with
 | false =>
  obtain ⟨e1,e2⟩:=g3 rfl
  simp only at e1 e2
  have e1':acc++[AV.agg [AV.int .i64 v,AV.int .i64 a]]=insP ps v a:=e1
  simp only [ro,Bool.not_false,cond_true,room2 _ _ e2,e1',k2.1,k2.2]
  cases isC vs rs ps <;> cases isC vs rs (insP ps v a) <;> (refine ⟨?_,?_,?_,?_,?_⟩ <;> first|rfl|trivial)
 | true =>
  have e1:=g4 rfl
  simp only at e1
  subst e1
  simp only [ro,Bool.not_true,cond_false,k2.1,k2.2]
  cases isC vs rs ps <;> cases isC vs rs (insP ps v a) <;> (refine ⟨?_,?_,?_,?_,?_⟩ <;> first|rfl|trivial)
end Go.Proofs.YtbmfgibbjchijaaGreat

namespace Go.Proofs.YtbmfgibbjchijaaGreat
open Go Go.Proofs.VE
set_option linter.unusedVariables false
set_option linter.unusedSimpArgs false
theorem col_few {vs rs ps:List AV} (h:Col vs rs ps):ps.length≤2001:=by
 have hl:=h.n64
 have hc:=(isC_iff vs rs ps (by omega)).2 h
 unfold isC at hc
 simp only [Bool.and_eq_true] at hc
 exact few vs ps hc.2.2.2.2
theorem appS_out {a b:Int} (a0:0≤a):∀ (ss vs:List AV),b≤vs.length→inS a b ss→∀ k:Int,0≤k→(k<a∨b≤k)→el (appS ss vs) k=el vs k
 | [],vs,_,_,k,_,_=>rfl
 | s :: ss,vs,hb,hs,k,k0,hk=>by
  obtain ⟨h1,h2,h3,h4⟩:=hs s List.mem_cons_self
  rw [appS_cons,appS_out a0 ss _ (by rw [sw_len];exact hb) (fun x hx=>hs x (List.mem_cons_of_mem _ hx)) k k0 hk,el_sw vs _ _ k (by omega) (by omega) (by omega) (by omega) k0,if_neg (by omega),if_neg (by omega)]
theorem Pc.cut {vs rs ps:List AV} (h:Col vs rs ps) {v a b t:Int} (hp:Pc vs.length ps v a b t) {p:Int} (p0:0≤p) (p1:p<ps.length):(el ps p<v→pat ps p≤a)∧(v<el ps p→b≤pat ps p):=by
 obtain ⟨t0,t1,lo,hi,ea,eb⟩:=hp
 constructor
 ·intro hl
  have hpt:p<t:=by
   rcases Int.lt_or_le p t with h1|h1
   ·exact h1
   ·have:=hi p h1 p1;omega
  rw [ea,if_neg (by omega)]
  by_cases e:p=t - 1
  ·rw [e];exact Int.le_refl _
  ·exact (h.lt (i:=p) (j:=t - 1) p0 (by omega) (by omega)).2
 ·intro hl
  have hpt:t≤p:=by
   rcases Int.lt_or_le p t with h1|h1
   ·have:=lo p p0 h1;omega
   ·exact h1
  rw [eb,if_neg (by omega)]
  by_cases e:p=t
  ·rw [e];exact Int.le_refl _
  ·exact (h.lt (i:=t) (j:=p) t0 (by omega) p1).2
structure Cr (vs rs ps:List AV) (v a b at_:Int) (ss:List AV):Prop where
 pc:q150 vs rs ps v=true∧v150_0 vs rs ps v=a∧v150_1 vs rs ps v=b
 pc':q143 vs rs ps v=true∧v143_0 vs rs ps v=a∧v143_1 vs rs ps v=b
 c:q118 vs rs ps v=true∧v118_0 vs rs ps v=appS ss vs∧v118_1 vs rs ps v=appS ss rs∧v118_2 vs rs ps v=insP ps v at_∧v118_3 vs rs ps v=ss∧v118_4 vs rs ps v=true
 c':q110 vs rs ps v=true∧v110_0 vs rs ps v=appS ss vs∧v110_1 vs rs ps v=appS ss rs∧v110_2 vs rs ps v=insP ps v at_∧v110_3 vs rs ps v=ss
 ok:Col (appS ss vs) (appS ss rs) (insP ps v at_)
 n2:N2 (insP ps v at_)
 pi:Piece vs ps v a b
 par:Parted vs v a b ss at_
 s64:ss.length≤64
 sw:v151_0 vs a b v=ss∧v151_1 vs a b v=at_
theorem bound_of {v:Int} (hv : -1000≤v∧v≤1000):v52_0 v (-1000) 1000=true:=by
 rw [v52,decide_eq_true hv.1,decide_eq_true hv.2]
 rfl
theorem P150 {vs rs ps:List AV} (h:Col vs rs ps) {v a b t:Int} (hv : -1000≤v∧v≤1000) (hp:Pc vs.length ps v a b t):q150 vs rs ps v=true∧v150_0 vs rs ps v=a∧v150_1 vs rs ps v=b:=by
 have hl:=h.n64
 have hlen:=h.len
 have hf:=col_few h
 have hc:=(isC_iff vs rs ps (by omega)).2 h
 obtain ⟨g1,g2⟩:=P68 vs rs ps (by omega) (by omega) (by omega)
 obtain ⟨k1,k2,k3⟩:=P177 hp (by omega)
 unfold q150 v150_0 v150_1
 rw [g1,g2,hc,bound_of hv,k1,k2,k3]
 exact ⟨rfl,rfl,rfl⟩
theorem crack_new {vs rs ps:List AV} (h:Col vs rs ps) (hN:N2 ps) {v:Int} (hv : -1000≤v∧v≤1000) (hf:(findP ps v).isSome=false):∃ (a b at_:Int) (ss:List AV),Cr vs rs ps v a b at_ ss:=by
 have hl:=h.n64
 have hlen:=h.len
 have hfew:=col_few h
 have hp:=pc_of h hf
 have hpi:=piece_of h hp
 generalize (if place ps v=0 then 0 else pat ps (place ps v - 1))=a at hp hpi
 generalize (if place ps v=ps.length then (vs.length:Int) else pat ps (place ps v))=b at hp hpi
 have a0:=hpi.a0
 have ab:=hpi.ab
 have b1:=hpi.b1
 have k97:=P150 h hv hp
 have k146:=P143 (rs:=rs) hp (by omega)
 obtain ⟨d1,d2,d3,d4,par⟩:=P151 vs v a b (by omega) a0 ab b1
 generalize hss:v151_0 vs a b v=ss at d3 par
 generalize hat:v151_1 vs a b v=at_ at d4 par
 have i0:=par.i0
 have i1:=par.i1
 have hs64:ss.length≤64:=by have:=par.len;omega
 have hin:inS 0 vs.length ss:=fun s hs=>by obtain ⟨x1,x2,x3,x4⟩:=par.ins s hs;exact ⟨by omega,by omega,by omega,by omega⟩
 have hcol1:=Col.swaps (ps:=ps) a0 hpi.cut ss vs rs h b1 par.ins
 have la:=appS_len ss vs
 have lr:=appS_len ss rs
 have hout:=appS_out a0 ss vs b1 par.ins
 have hcol2:Col (appS ss vs) (appS ss rs) (insP ps v at_):=by
  refine hcol1.pivot (findP_none hf) hv ⟨by omega,by omega⟩ (fun k k0 k1=>?_) (fun p p0 p1=>?_)
  ·rw [la] at k1
   constructor
   ·intro hk
    rcases Int.lt_or_le k at_ with q|q
    ·exact q
    ·exfalso
     rcases Int.lt_or_le k b with q2|q2
     ·have:=par.hi k q q2;omega
     ·have:=hpi.hi k q2 k1
      rw [← hout k k0 (.inr q2)] at this
      omega
   ·intro hk
    rcases Int.lt_or_le k a with q|q
    ·rw [hout k k0 (.inl q)];exact hpi.lo k k0 q
    ·exact par.lo k q hk
  ·obtain ⟨x1,x2⟩:=Pc.cut h hp p0 p1
   exact ⟨fun q=>by have:=x1 q;omega,fun q=>by have:=x2 q;omega⟩
 have hc0:=(isC_iff vs rs ps (by omega)).2 h
 have hc1:=(isC_iff (appS ss vs) (appS ss rs) ps (by omega)).2 hcol1
 have hc2:=(isC_iff (appS ss vs) (appS ss rs) (insP ps v at_) (by omega)).2 hcol2
 obtain ⟨e1,e2,e3,e4,e5⟩:=P152 vs rs ps ss (by omega) (by omega) hlen (by omega) hin
 obtain ⟨f1,f2,f3,f4,f5⟩:=P145 vs rs ps ss (by omega) (by omega) hlen (by omega) hin
 obtain ⟨g1,g2,g3,g4,g5⟩:=P153 (appS ss vs) (appS ss rs) ps v at_ (by omega) (by omega) (by omega) hN
 obtain ⟨l1,l2,l3,l4⟩:=P146 (appS ss vs) (appS ss rs) ps v at_ (by omega) (by omega) (by omega)
 rw [hc1,hc2] at g4
 obtain ⟨m1,m2⟩:=P68 vs rs ps (by omega) (by omega) (by omega)
 obtain ⟨n1,n2,n3⟩:=P119 vs rs ps v (by omega)
 obtain ⟨o1,o2⟩:=P142 vs rs ps v (by omega)
 obtain ⟨k1,k2,k3⟩:=k97
 obtain ⟨k1',k2',k3'⟩:=k146
 refine ⟨a,b,at_,ss,⟨k1,k2,k3⟩,⟨k1',k2',k3'⟩,?_,?_,hcol2,insP_N2 hN v at_,hpi,par,hs64,hss,hat⟩
 ·unfold q118 v118_0 v118_1 v118_2 v118_3 v118_4
  rw [m1,m2,hc0,bound_of hv,n1,n3,hf,k1,k2,k3,d1,hss,hat,e1,e2,e3,e4,g1,g2,g3,g4]
  exact ⟨rfl,rfl,rfl,rfl,rfl,rfl⟩
 ·unfold q110 v110_0 v110_1 v110_2 v110_3
  rw [o1,o2,hf,k1',k2',k3',d2,d3,d4,f1,f2,f3,f4,l1,l2,l3,l4]
  exact ⟨rfl,rfl,rfl,rfl,rfl⟩
theorem crack_old {vs rs ps:List AV} (h:Col vs rs ps) {v:Int} (hv : -1000≤v∧v≤1000) (hf:(findP ps v).isSome=true) :
  (q118 vs rs ps v=true∧v118_0 vs rs ps v=vs∧v118_1 vs rs ps v=rs∧v118_2 vs rs ps v=ps∧v118_3 vs rs ps v=[]∧v118_4 vs rs ps v=true) ∧
  (q110 vs rs ps v=true∧v110_0 vs rs ps v=vs∧v110_1 vs rs ps v=rs∧v110_2 vs rs ps v=ps∧v110_3 vs rs ps v=[]):=by
 have hl:=h.n64
 have hlen:=h.len
 have hfew:=col_few h
 have hc0:=(isC_iff vs rs ps (by omega)).2 h
 obtain ⟨m1,m2⟩:=P68 vs rs ps (by omega) (by omega) (by omega)
 obtain ⟨n1,n2,n3⟩:=P119 vs rs ps v (by omega)
 obtain ⟨o1,o2⟩:=P142 vs rs ps v (by omega)
 obtain ⟨c0,c1,c2,c3⟩:=P69 vs rs ps (by omega) (by omega) (by omega)
 obtain ⟨d0,d1,d2,d3⟩:=P64 vs rs ps (by omega) (by omega) (by omega)
 constructor
 ·unfold q118 v118_0 v118_1 v118_2 v118_3 v118_4
  rw [m1,m2,hc0,bound_of hv,n1,n3,hf,c0,c1,c2,c3]
  exact ⟨rfl,rfl,rfl,rfl,rfl,rfl⟩
 ·unfold q110 v110_0 v110_1 v110_2 v110_3
  rw [o1,o2,hf,d0,d1,d2,d3]
  exact ⟨rfl,rfl,rfl,rfl,rfl⟩
end Go.Proofs.YtbmfgibbjchijaaGreat

namespace Go.Proofs.YtbmfgibbjchijaaGreat
open Go Go.Proofs.VE
set_option linter.unusedVariables false
set_option linter.unusedSimpArgs false
def dI (i:Int):AV := .int .i64 i
def E125 (xs vs:List AV) (i:Int):List AV→Int ⊕ (Int × List AV)
 | [] => .inl i
 | y :: ys => .inr (i,y :: ys)
def K125 (xs vs:List AV):List AV→Unit ⊕ List AV
 | [] => .inl ()
 | y :: ys => .inr (y :: ys)
theorem run125 (xs vs:List AV) (h:xs.length≤1048576):runW (R125_0 xs vs) (((xs.length:Int) - 0).toNat+1) (E125 xs vs 0 [])=some (K125 xs vs (appF allT dI xs.length 0 [])):=by
 refine runW_appK (E125 xs vs) (K125 xs vs) xs.length allT dI (fun i ys h0 hn hl=>?_) (fun ys=>?_)
 ·have d1:decide (i<(xs.length:Int))=true:=decide_eq_true hn
  have d2:decide (0≤i)=true:=decide_eq_true h0
  cases ys with
  | nil =>
   have c1:decide ((([dI i]:List AV).length)*8≤140737488355328)=true:=by simp
   have c2:decide ((([dI i]:List AV).length)≤140737488355328)=true:=by simp
   simp only [dI] at c1 c2
   simp only [E125,R125_0,sumE,F125_0_s0,G125_0_s0,d1,d2,c1,c2,Bool.and_self,cond_true,allT,List.nil_append]
   rw [wrap_in (a:=i+1) (by omega) (by omega)]
   try rfl
  | cons y ys =>
   have hl':(y :: ys).length≤1048576:=by omega
   have c1:decide (((y :: ys).length+[dI i].length)*8≤140737488355328)=true:=decide_eq_true (by simp only [List.length_singleton];omega)
   have c2:decide ((y :: ys).length+[dI i].length≤140737488355328)=true:=decide_eq_true (by simp only [List.length_singleton];omega)
   simp only [dI] at c1 c2
   simp only [E125,R125_0,sumE,F125_0_s1,G125_0_s1,d1,d2,c1,c2,Bool.and_self,cond_true,allT,List.cons_append]
   rw [wrap_in (a:=i+1) (by omega) (by omega)]
   try rfl
 ·cases ys <;> simp only [E125,K125,R125_0,sumE,F125_0_s0,G125_0_s0,F125_0_s1,G125_0_s1,Int.lt_irrefl,decide_false,cond_false]
def E157 (xs vs:List AV) (i:Int):List AV→Int ⊕ (Int × List AV)
 | [] => .inl i
 | y :: ys => .inr (i,y :: ys)
def K157 (xs vs:List AV):List AV→Unit ⊕ List AV
 | [] => .inl ()
 | y :: ys => .inr (y :: ys)
theorem run157 (xs vs:List AV) (h:xs.length≤1048576):runW (R157_0 xs.length vs) (((xs.length:Int) - 0).toNat+1) (E157 xs vs 0 [])=some (K157 xs vs (appF allT dI xs.length 0 [])):=by
 refine runW_appK (E157 xs vs) (K157 xs vs) xs.length allT dI (fun i ys h0 hn hl=>?_) (fun ys=>?_)
 ·have d1:decide (i<(xs.length:Int))=true:=decide_eq_true hn
  have d2:decide (0≤i)=true:=decide_eq_true h0
  cases ys with
  | nil =>
   have c1:decide ((([dI i]:List AV).length)*8≤140737488355328)=true:=by simp
   have c2:decide ((([dI i]:List AV).length)≤140737488355328)=true:=by simp
   simp only [dI] at c1 c2
   simp only [E157,R157_0,sumE,F157_0_s0,G157_0_s0,d1,d2,c1,c2,Bool.and_self,cond_true,allT,List.nil_append]
   rw [wrap_in (a:=i+1) (by omega) (by omega)]
   try rfl
  | cons y ys =>
   have hl':(y :: ys).length≤1048576:=by omega
   have c1:decide (((y :: ys).length+[dI i].length)*8≤140737488355328)=true:=decide_eq_true (by simp only [List.length_singleton];omega)
   have c2:decide ((y :: ys).length+[dI i].length≤140737488355328)=true:=decide_eq_true (by simp only [List.length_singleton];omega)
   simp only [dI] at c1 c2
   simp only [E157,R157_0,sumE,F157_0_s1,G157_0_s1,d1,d2,c1,c2,Bool.and_self,cond_true,allT,List.cons_append]
   rw [wrap_in (a:=i+1) (by omega) (by omega)]
   try rfl
 ·cases ys <;> simp only [E157,K157,R157_0,sumE,F157_0_s0,G157_0_s0,F157_0_s1,G157_0_s1,Int.lt_irrefl,decide_false,cond_false]
theorem appF_all (c:Int→AV):∀ (m:Nat) (i:Int) (ys:List AV),appF allT c m i ys=ys++(List.range m).map fun j:Nat=>c (i+j)
 | 0,i,ys=>by simp [appF,foldF]
 | m+1,i,ys=>by
  have e:appF allT c (m+1) i ys=appF allT c m (i+1) (ys++[c i]):=rfl
  rw [e,appF_all c m,List.range_succ_eq_map,List.map_cons,List.map_map,List.append_assoc]
  congr 1
  simp only [Int.natCast_zero,Int.add_zero,List.singleton_append,List.cons.injEq,true_and]
  refine List.map_congr_left fun j _=>?_
  simp only [Function.comp]
  congr 1
  omega
def rows (xs:List AV):List AV:=appF allT dI xs.length 0 []
theorem rows_len (xs:List AV):(rows xs).length=xs.length:=by
 unfold rows
 rw [appF_all]
 simp
theorem rows_el (xs:List AV) (k:Int) (h0:0≤k) (h1:k<xs.length):el (rows xs) k=k:=by
 unfold el rows
 rw [appF_all,List.nil_append,List.getD_eq_getElem?_getD,List.getElem?_map,List.getElem?_range (by omega)]
 simp only [Option.map_some,Option.getD_some]
 show (0:Int)+(k.toNat:Nat)=k
 omega
theorem P125 (xs:List AV) (h:xs.length≤1048576):q125 xs=true∧v125_0 xs=(bif v116_0 xs then xs else [])∧v125_1 xs=(bif v116_0 xs then rows xs else [])∧v125_2 xs=[]:=by
 unfold q125 v125_0 v125_1 v125_2
 have hr:=run125 xs ([]++xs) h
 have c1:decide ((([]:List AV).length+xs.length)*8≤140737488355328)=true:=decide_eq_true (by simp;omega)
 have c2:decide (([]:List AV).length+xs.length≤140737488355328)=true:=decide_eq_true (by simp;omega)
 rw [(P116 xs h).1,show (.inl 0:Int ⊕ (Int × List AV))=E125 xs ([]++xs) 0 [] from rfl,hr,c1,c2]
 change _∧_∧_=(bif v116_0 xs then (appF allT dI xs.length 0 []) else [])∧_
 generalize appF allT dI xs.length 0 []=ys
 cases v116_0 xs
 ·exact ⟨rfl,rfl,rfl,rfl⟩
 ·cases ys <;> exact ⟨rfl,rfl,rfl,rfl⟩
theorem P157 (xs:List AV) (h:xs.length≤1048576):q157 xs=true∧v157_0 xs=(bif v116_0 xs then xs else [])∧v157_1 xs=(bif v116_0 xs then rows xs else [])∧v157_2 xs=[]:=by
 unfold q157 v157_0 v157_1 v157_2
 have hr:=run157 xs xs h
 rw [(P79 xs h).1,(P79 xs h).2,(P108 xs h).1,(P108 xs h).2,show (.inl 0:Int ⊕ (Int × List AV))=E157 xs xs 0 [] from rfl,hr]
 change _∧_∧_=(bif v116_0 xs then (appF allT dI xs.length 0 []) else [])∧_
 generalize appF allT dI xs.length 0 []=ys
 cases v116_0 xs
 ·exact ⟨rfl,rfl,rfl,rfl⟩
 ·cases ys <;> exact ⟨rfl,rfl,rfl,rfl⟩
theorem Col_new (xs:List AV) (hl:xs.length≤1048576) (h:v116_0 xs=true):Col xs (rows xs) []:=by
 rw [(P116 xs hl).2,Bool.and_eq_true,findF_isNone,decide_eq_true_eq] at h
 obtain ⟨h1,h2⟩:=h
 have hr:=rows_len xs
 refine ⟨h2,fun k k0 k1=>?_,by omega,fun k k0 k1=>?_,fun j k j0 jk k1=>?_,fun i i0 i1=>?_,fun i i0 i1=>?_,fun i i0 i1=>?_,fun i i0 i1=>?_⟩
 ·have:=h1 k k0 (by omega)
  simp only [v52,Bool.not_eq_false',Bool.and_eq_true,decide_eq_true_eq] at this
  exact this
 ·rw [rows_el xs k k0 (by omega)]
  omega
 ·rw [rows_el xs k (by omega) (by omega),rows_el xs j j0 (by omega)]
  omega
 all_goals (exfalso;simp only [List.length_nil] at i1;omega)
theorem N2_nil:N2 []:=fun x hx=>by simp at hx
end Go.Proofs.YtbmfgibbjchijaaGreat

namespace Go.Proofs.YtbmfgibbjchijaaGreat
open Go Go.Proofs.VE
set_option linter.unusedVariables false
set_option linter.unusedSimpArgs false
def ints (xs:List AV):List Int:=xs.map fun x=>fI x 0
theorem ints_len (xs:List AV):(ints xs).length=xs.length:=List.length_map _
theorem ints_el (xs:List AV) (k:Int) (h0:0≤k) (h1:k<xs.length):(ints xs)[k.toNat]?=some (el xs k):=by
 unfold ints el
 rw [List.getElem?_map,List.getD_eq_getElem?_getD,List.getElem?_eq_getElem (by omega)]
 rfl
theorem ints_get (xs:List AV) (k:Nat) (h:k<(ints xs).length):(ints xs)[k]=el xs k:=by
 rw [ints_len] at h
 have:=ints_el xs k (by omega) (by omega)
 rw [show ((k:Int)).toNat=k by omega,List.getElem?_eq_getElem (by rw [ints_len];exact h)] at this
 exact Option.some.inj this
def srt (xs:List AV):List Int:=(ints xs).mergeSort fun x y=>decide (x≤y)
def asc (xs:List AV) (n:Int):Prop:=∀ a b:Int,0≤a→a<b→b<n→el xs a≤el xs b
theorem srt_pair (xs:List AV):(srt xs).Pairwise fun x y=>decide (x≤y)=true :=
 List.pairwise_mergeSort (le:=fun x y=>decide (x≤y)) (fun a b c h1 h2=>by simp only [decide_eq_true_eq] at *;omega) (fun a b=>by simp only [Bool.or_eq_true,decide_eq_true_eq];omega) _
theorem srt_of {xs ys:List AV} (hp:(ints ys).Perm (ints xs)) (ha:asc ys ys.length):ints ys=srt xs:=by
 refine List.Perm.eq_of_pairwise (le:=fun x y=>decide (x≤y)=true) (fun a b _ _ h1 h2=>by simp only [decide_eq_true_eq] at h1 h2;omega) ?_ (srt_pair xs) (hp.trans (List.mergeSort_perm _ _).symm)
 rw [List.pairwise_iff_getElem]
 intro i j hi hj hij
 rw [ints_len] at hi hj
 rw [ints_get ys i (by rw [ints_len];exact hi),ints_get ys j (by rw [ints_len];exact hj),decide_eq_true_eq]
 exact ha i j (by omega) (by omega) (by omega)
theorem asc_of {xs ys:List AV} (h:ints ys=srt xs):asc ys ys.length:=fun a b a0 ab hb=>by
 have:=srt_pair xs
 rw [← h,List.pairwise_iff_getElem] at this
 have:=this a.toNat b.toNat (by rw [ints_len];omega) (by rw [ints_len];omega) (by omega)
 rw [ints_get,ints_get,decide_eq_true_eq] at this
 rw [show ((a.toNat:Nat):Int)=a by omega,show ((b.toNat:Nat):Int)=b by omega] at this
 exact this
theorem ints_sw (i j:Int) (xs:List AV) (i0:0≤i) (i1:i<xs.length) (j0:0≤j) (j1:j<xs.length):(ints (v122_0 i j xs)).Perm (ints xs):=by
 have e:ints (v122_0 i j xs)=((ints xs).set i.toNat ((ints xs)[j.toNat]'(by rw [ints_len];omega))).set j.toNat ((ints xs)[i.toNat]'(by rw [ints_len];omega)):=by
  rw [ints_get xs j.toNat,ints_get xs i.toNat,show ((i.toNat:Nat):Int)=i by omega,show ((j.toNat:Nat):Int)=j by omega]
  unfold v122_0 ints
  rw [List.map_set,List.map_set]
  rfl
 rw [e]
 exact List.set_set_perm _ _
theorem run77i (t i:Int) (h:List AV) (hn:h.length≤1048576) (i0:0≤i) (i1:i<h.length) (ha:asc h i) :
  ∃ r,runW (R77_2 t) ((i - 0).toNat+1) (i,h)=some r∧r.length=h.length∧(ints r).Perm (ints h)∧asc r (i+1):=by
 refine runW_ends (f:=R77_2 t) (fun s:Int × List AV=>0≤s.1∧s.1≤i∧s.2.length=h.length∧(ints s.2).Perm (ints h)∧∀ a b:Int,0≤a→a<b→b≤i→b ≠ s.1→el s.2 a≤el s.2 b) (fun r=>r.length=h.length∧(ints r).Perm (ints h)∧asc r (i+1)) (fun s=>s.1.toNat) (fun s hI=>?_) _ (i,h)
  ⟨i0,Int.le_refl _,rfl,List.Perm.refl _,fun a b a0 ab bi bn=>ha a b a0 ab (by simp only at bn;omega)⟩ (by simp only;omega)
 obtain ⟨k,x⟩:=s
 obtain ⟨k0,k1,hl,hp,hI⟩:=hI
 simp only at k0 k1 hl hp hI
 by_cases hk:k > 0
 ·have d1:decide (k > 0)=true:=decide_eq_true hk
  have wk:IntKind.i64.wrap (k - 1)=k - 1:=wrap_in (by omega) (by omega)
  have d2:decide (0≤k - 1)=true:=decide_eq_true (by omega)
  have d3:decide (k - 1<(x.length:Int))=true:=decide_eq_true (by omega)
  have d4:decide (0≤k)=true:=decide_eq_true k0
  have d5:decide (k<(x.length:Int))=true:=decide_eq_true (by omega)
  have f1:fI (x.getD (k - 1).toNat AV.undef) 0=el x (k - 1):=rfl
  have f2:fI (x.getD k.toNat AV.undef) 0=el x k:=rfl
  by_cases hs:el x (k - 1) > el x k
  ·have d6:decide (el x (k - 1) > el x k)=true:=decide_eq_true hs
   have q1:=q122_in (k - 1) k x (by omega) (by omega) k0 (by omega)
   have ev:∀ c:Int,0≤c→el (v122_0 (k - 1) k x) c=if c=k then el x (k - 1) else if c=k - 1 then el x k else el x c:=fun c c0=>el_sw x (k - 1) k c (by omega) (by omega) k0 (by omega) c0
   refine .inl ⟨(k - 1,v122_0 (k - 1) k x),?_,⟨by simp only;omega,by simp only;omega,by simp only;rw [sw_len];exact hl,(ints_sw (k - 1) k x (by omega) (by omega) k0 (by omega)).trans hp,fun a b a0 ab bi bn=>?_⟩,by simp only;omega⟩
   ·simp only [R77_2,F77_2,G77_2,d1,d2,d3,d4,d5,f1,f2,d6,q1,wk,Bool.and_self,cond_true]
   ·simp only at bn ⊢
    rw [ev a a0,ev b (by omega)]
    by_cases e1:b=k
    ·rw [if_pos e1]
     by_cases e2:a=k - 1
     ·rw [if_neg (by omega),if_pos e2];omega
     ·rw [if_neg (by omega),if_neg e2]
      exact hI a (k - 1) a0 (by omega) (by omega) (by omega)
    ·rw [if_neg e1,if_neg bn]
     by_cases e2:a=k
     ·rw [if_pos e2]
      exact hI (k - 1) b (by omega) (by omega) bi e1
     ·rw [if_neg e2]
      by_cases e3:a=k - 1
      ·rw [if_pos e3]
       exact hI k b k0 (by omega) bi e1
      ·rw [if_neg e3]
       exact hI a b a0 ab bi e1
  ·have d6:decide (el x (k - 1) > el x k)=false:=decide_eq_false hs
   refine .inr ⟨x,by simp only [R77_2,F77_2,G77_2,d1,d2,d3,d4,d5,f1,f2,d6,wk,Bool.and_self,cond_true,cond_false],hl,hp,fun a b a0 ab bi=>?_⟩
   by_cases e1:b=k
   ·subst e1
    by_cases e2:a=b - 1
    ·subst e2;omega
    ·have:=hI a (b - 1) a0 (by omega) (by omega) (by omega)
     omega
   ·exact hI a b a0 ab (by omega) e1
 ·have d1:decide (k > 0)=false:=decide_eq_false hk
  exact .inr ⟨x,by simp only [R77_2,F77_2,G77_2,d1,cond_false],hl,hp,fun a b a0 ab bi=>hI a b a0 ab (by omega) (by omega)⟩
theorem P77 (xs:List AV) (h:xs.length≤1048576):q77 xs=true∧(v77_0 xs).length=xs.length∧ints (v77_0 xs)=srt xs:=by
 obtain ⟨r,h1,h2,h3,h4⟩:=runW_ends (f:=R77_0) (fun s:Int × List AV=>1≤s.1∧(s.1≤xs.length∨s.1=1)∧s.2.length=xs.length∧(ints s.2).Perm (ints xs)∧asc s.2 s.1) (fun r=>r.length=xs.length∧(ints r).Perm (ints xs)∧asc r xs.length) (fun s=>((xs.length:Int) - s.1).toNat) (fun s hI=>by
   obtain ⟨i,x⟩:=s
   obtain ⟨i0,i1,hl,hp,ha⟩:=hI
   simp only at i0 i1 hl hp ha
   by_cases hi:i<xs.length
   ·have d1:decide (i<(x.length:Int))=true:=decide_eq_true (by omega)
    have wi:IntKind.i64.wrap (i+1)=i+1:=wrap_in (by omega) (by omega)
    obtain ⟨r,k1,k2,k3,k4⟩:=run77i i i x (by omega) (by omega) (by omega) ha
    refine .inl ⟨(i+1,r),?_,⟨by simp only;omega,by simp only;omega,by simp only;omega,k3.trans hp,k4⟩,by simp only;omega⟩
    simp only [R77_0,F77_0,G77_0,d1,k1,ro,wi,cond_true]
   ·have d1:decide (i<(x.length:Int))=false:=decide_eq_false (by omega)
    exact .inr ⟨x,by simp only [R77_0,F77_0,G77_0,d1,cond_false],hl,hp,fun a b a0 ab hb=>ha a b a0 ab (by omega)⟩) ((((xs.length:Int) - 1).toNat+1)) (1,xs) ⟨Int.le_refl _,.inr rfl,rfl,List.Perm.refl _,fun a b a0 ab hb=>by simp only at hb;omega⟩ (by simp only;omega)
 unfold q77 v77_0
 simp only [List.length_nil,Nat.zero_add,List.nil_append]
 rw [h1,decide_eq_true (by omega:xs.length*8≤140737488355328),decide_eq_true (by omega:xs.length≤140737488355328)]
 exact ⟨rfl,h2,srt_of h3 (by simp only [ro];rw [h2];exact h4)⟩
theorem P82 (xs:List AV) (h:xs.length≤1048576):q82 xs=true∧(v82_0 xs).length=xs.length∧ints (v82_0 xs)=srt xs:=by
 unfold q82 v82_0
 rw [(P108 xs h).1,(P108 xs h).2]
 unfold q128 v128_0
 refine ⟨by rw [decide_eq_true (by omega:xs.length*8≤140737488355328)];rfl,sortL_len xs,?_⟩
 unfold ints sortL srt ints
 rw [List.map_map]
 exact (List.map_congr_left (g:=id) fun x _=>rfl).trans (List.map_id _)
theorem el_ints {xs ys:List AV} (h:ints xs=ints ys) (k:Int) (h0:0≤k) (h1:k<xs.length):el xs k=el ys k:=by
 have hl:xs.length=ys.length:=by rw [← ints_len xs,← ints_len ys,h]
 have a:=ints_el xs k h0 h1
 have b:=ints_el ys k h0 (by omega)
 rw [h,b] at a
 exact (Option.some.inj a).symm
theorem srt_in {xs ys:List AV} (h:ints ys=srt xs):(∀ k:Int,0≤k→k<ys.length→∃ j:Int,0≤j∧j<xs.length∧el xs j=el ys k)∧∀ j:Int,0≤j→j<xs.length→∃ k:Int,0≤k∧k<ys.length∧el ys k=el xs j:=by
 have hp:(ints ys).Perm (ints xs):=by rw [h];exact List.mergeSort_perm _ _
 constructor
 ·intro k k0 k1
  have:el ys k ∈ ints ys:=List.mem_of_getElem? (ints_el ys k k0 k1)
  obtain ⟨j,hj,e⟩:=List.getElem_of_mem (hp.mem_iff.1 this)
  rw [ints_get xs j hj] at e
  rw [ints_len] at hj
  exact ⟨j,by omega,by omega,e⟩
 ·intro j j0 j1
  have:el xs j ∈ ints xs:=List.mem_of_getElem? (ints_el xs j j0 j1)
  obtain ⟨k,hk,e⟩:=List.getElem_of_mem (hp.mem_iff.2 this)
  rw [ints_get ys k hk] at e
  rw [ints_len] at hk
  exact ⟨k,by omega,by omega,e⟩
end Go.Proofs.YtbmfgibbjchijaaGreat

namespace Go.Proofs.YtbmfgibbjchijaaGreat
open Go Go.Proofs.VE
set_option linter.unusedVariables false
set_option linter.unusedSimpArgs false
theorem q177_ok (n:Int) (ps:List AV) (v:Int) (h:ps.length≤1048576):q177 n ps v=true:=by
 obtain ⟨r,h1,_⟩:=runW_ends (f:=R177_0 ps v n) (fun s:Int × Int=>0≤s.2∧s.2≤ps.length) (fun _=>True) (fun s=>((ps.length:Int) - s.2).toNat) (fun s hI=>by
  obtain ⟨t,k⟩:=s
  obtain ⟨k0,k1⟩:=hI
  simp only at k0 k1
  by_cases hk:k<ps.length
  ·have d1:decide (k<(ps.length:Int))=true:=decide_eq_true hk
   have d2:decide (0≤k)=true:=decide_eq_true k0
   have wk:IntKind.i64.wrap (k+1)=k+1:=wrap_in (by omega) (by omega)
   cases h3:decide (fI (ps.getD k.toNat .undef) 0≤v)
   ·exact .inl ⟨(t,k+1),by simp only [R177_0,F177_0,G177_0,d1,d2,wk,h3,Bool.and_self,cond_true,cond_false],⟨by simp only;omega,by simp only;omega⟩,by simp only;omega⟩
   ·exact .inl ⟨(fI (ps.getD k.toNat .undef) 1,k+1),by simp only [R177_0,F177_0,G177_0,d1,d2,wk,h3,Bool.and_self,cond_true],⟨by simp only;omega,by simp only;omega⟩,by simp only;omega⟩
  ·have d1:decide (k<(ps.length:Int))=false:=decide_eq_false hk
   exact .inr ⟨t,by simp only [R177_0,F177_0,G177_0,d1,cond_false],trivial⟩) (((ps.length:Int) - 0:Int).toNat+1) (0,0) ⟨Int.le_refl _,by simp⟩ (by simp only;omega)
 obtain ⟨r',h2,_⟩:=runW_ends (f:=R177_2 ps v r) (fun s:Int × Int => -1≤s.2∧s.2<ps.length) (fun _=>True) (fun s=>(s.2+1).toNat) (fun s hI=>by
  obtain ⟨t,k⟩:=s
  obtain ⟨k0,k1⟩:=hI
  simp only at k0 k1
  by_cases hk:k ≥ 0
  ·have d1:decide (k ≥ 0)=true:=decide_eq_true hk
   have d2:decide (0≤k)=true:=decide_eq_true hk
   have d4:decide (k<(ps.length:Int))=true:=decide_eq_true k1
   have wk:IntKind.i64.wrap (k - 1)=k - 1:=wrap_in (by omega) (by omega)
   cases h3:decide (fI (ps.getD k.toNat .undef) 0 ≥ v)
   ·exact .inl ⟨(t,k - 1),by simp only [R177_2,F177_2,G177_2,d1,d2,d4,wk,h3,Bool.and_self,cond_true,cond_false],⟨by simp only;omega,by simp only;omega⟩,by simp only;omega⟩
   ·exact .inl ⟨(fI (ps.getD k.toNat .undef) 1,k - 1),by simp only [R177_2,F177_2,G177_2,d1,d2,d4,wk,h3,Bool.and_self,cond_true],⟨by simp only;omega,by simp only;omega⟩,by simp only;omega⟩
  ·have d1:decide (k ≥ 0)=false:=decide_eq_false hk
   exact .inr ⟨t,by simp only [R177_2,F177_2,G177_2,d1,cond_false],trivial⟩) ((((ps.length:Int) - 1) - 0+1:Int).toNat+1) (n,(ps.length:Int) - 1) ⟨by simp only;omega,by simp only;omega⟩ (by simp only;omega)
 unfold q177
 rw [h1]
 simp only [ro]
 rw [wrap_in (a:=(ps.length:Int) - 1) (by omega) (by omega),h2]
theorem q150_ok {vs rs ps:List AV} (h:Col vs rs ps) (v:Int):q150 vs rs ps v=true:=by
 have hl:=h.n64
 have hlen:=h.len
 have hf:=col_few h
 obtain ⟨g1,g2⟩:=P68 vs rs ps (by omega) (by omega) (by omega)
 unfold q150
 rw [g1,g2,q177_ok _ _ _ (by omega)]
 cases isC vs rs ps <;> cases v52_0 v (-1000) 1000 <;> rfl
def tot (L:List AV):Int:=(L.map fun x=>fI x 4).sum
theorem tot_snoc (L:List AV) (x:AV):tot (L++[x])=tot L+fI x 4:=by
 unfold tot
 rw [List.map_append,List.sum_append]
 simp
structure One (vs rs ps:List AV) (v:Int) (vs' rs' ps':List AV) (n:Int):Prop where
 ok:Col vs' rs' ps'
 n2:N2 ps'
 n0:0≤n
 n1:n≤64
 grow:ps.length≤ps'.length
 nn:n≤64*((ps'.length:Int) - ps.length)
 new:(findP ps v).isSome=false→ps'.length=ps.length+1
 i0:q142 vs rs ps v=true∧v142_0 vs rs ps v=(findP ps v).isSome
 i1:(findP ps v).isSome=false→q143 vs rs ps v=true∧q110 vs rs ps v=true∧v110_0 vs rs ps v=vs'∧v110_1 vs rs ps v=rs'∧v110_2 vs rs ps v=ps'∧((v110_3 vs rs ps v).length:Int)=n
 i2:(findP ps v).isSome=true→vs'=vs∧rs'=rs∧ps'=ps∧n=0
theorem one_div {vs rs ps:List AV} (h:Col vs rs ps) (hN:N2 ps) {v:Int} (hv : -1000≤v∧v≤1000) (q:Int) (L:List AV) (hL:L.length≤100000000) :
  ∃ (vs' rs' ps':List AV) (n:Int) (L':List AV),One vs rs ps v vs' rs' ps' n∧q204 v q vs rs ps L=true∧v204_0 v q vs rs ps L=vs'∧v204_1 v q vs rs ps L=rs'∧v204_2 v q vs rs ps L=ps'∧v204_6 v q vs rs ps L=L'∧tot L'=tot L+n∧(L'.length:Int)≤L.length+((ps'.length:Int) - ps.length):=by
 have hl:=h.n64
 have hlen:=h.len
 have hf:=col_few h
 obtain ⟨f1,f2,f3⟩:=P119 vs rs ps v (by omega)
 obtain ⟨i1,i2⟩:=P142 vs rs ps v (by omega)
 have pc:=q150_ok h v
 cases hfd:(findP ps v).isSome with
 | true =>
  obtain ⟨⟨c1,c2,c3,c4,c5,c6⟩,d1,d2,d3,d4,d5⟩:=crack_old h hv hfd
  refine ⟨vs,rs,ps,0,L,⟨h,hN,Int.le_refl _,by omega,Nat.le_refl _,by omega,(fun e=>by rw [hfd] at e;cases e),⟨i1,i2⟩,(fun e=>by rw [hfd] at e;cases e),fun _=>⟨rfl,rfl,rfl,rfl⟩⟩,?_,c2,c3,c4,?_,by omega,by omega⟩
  ·unfold q204
   rw [pc,f1,f3,hfd,c1,c6]
   rfl
  ·unfold v204_6
   rw [f3,hfd,c6]
   rfl
 | false =>
  obtain ⟨a,b,at_,ss,C⟩:=crack_new h hN hv hfd
  obtain ⟨c1,c2,c3,c4,c5,c6⟩:=C.c
  obtain ⟨d1,d2,d3,d4,d5⟩:=C.c'
  have s64:=C.s64
  refine ⟨_,_,_,(ss.length:Int),_,⟨C.ok,C.n2,by omega,by omega,by rw [insP_len];omega,by rw [insP_len];omega,fun _=>insP_len ..,⟨i1,i2⟩,fun _=>⟨C.pc'.1,d1,d2,d3,d4,by rw [d5]⟩,(fun e=>by rw [hfd] at e;cases e)⟩,?_,c2,c3,c4,rfl,?_,?_⟩
  ·unfold q204
   rw [pc,f1,f3,hfd,c1,c6]
   simp only [Bool.true_and,Bool.not_false,cond_true,List.length_singleton,Bool.and_eq_true,decide_eq_true_eq]
   omega
  ·unfold v204_6
   rw [f3,hfd,c6,c5]
   simp only [Bool.not_false,cond_true]
   rw [tot_snoc]
   rfl
  ·unfold v204_6
   rw [f3,hfd,c6]
   simp only [Bool.not_false,cond_true,List.length_append,List.length_singleton]
   rw [insP_len]
   omega
theorem seed_both (s:Int) (h0:0≤s) (h1:s≤10006):q210 s=true∧q208 s=true∧v208_0 s=v210_0 s∧0≤v210_0 s∧v210_0 s≤10006:=by
 have e1:Int.tmod s 10007=s:=by rw [Int.tmod_eq_emod_of_nonneg h0];omega
 have e2:Int.tmod (s+10007) 10007=s:=by rw [Int.tmod_eq_emod_of_nonneg (by omega)];omega
 have w1:IntKind.i64.wrap (s+10007)=s+10007:=wrap_in (by omega) (by omega)
 have w2:IntKind.i64.wrap (s*1103)=s*1103:=wrap_in (by omega) (by omega)
 have w3:IntKind.i64.wrap (s*1103+2345)=s*1103+2345:=wrap_in (by omega) (by omega)
 have e3:v210_0 s=Int.tmod (s*1103+2345) 10007:=by
  unfold v210_0
  rw [e1,w1,e2,w2,w3]
 refine ⟨by unfold q210;decide,by unfold q208;rw [e1];simp,?_,?_,?_⟩
 ·rw [e3]
  unfold v208_0
  rw [e1]
  simp only [decide_eq_false (by omega:¬ s<0),cond_false,w2,w3]
 ·rw [e3,Int.tmod_eq_emod_of_nonneg (by omega)]
  omega
 ·rw [e3,Int.tmod_eq_emod_of_nonneg (by omega)]
  omega
theorem med_both (l:List AV) (h0:0<l.length) (h1:l.length≤64):q211 l=true∧q209 l=true∧v209_0 l=v211_0 l∧∃ j:Int,0≤j∧j<l.length∧v211_0 l=el l j:=by
 obtain ⟨a1,a2,a3⟩:=P77 l (by omega)
 obtain ⟨b1,b2,b3⟩:=P82 l (by omega)
 have w1:IntKind.i64.wrap ((l.length:Int) - 1)=(l.length:Int) - 1:=wrap_in (by omega) (by omega)
 have e1:Int.tdiv ((l.length:Int) - 1) 2=((l.length:Int) - 1) / 2:=Int.tdiv_eq_ediv_of_nonneg (by omega)
 have w2:IntKind.i64.wrap (((l.length:Int) - 1) / 2)=((l.length:Int) - 1) / 2:=wrap_in (by omega) (by omega)
 obtain ⟨i,hi⟩:∃ i,i=((l.length:Int) - 1) / 2:=⟨_,rfl⟩
 have i0:0≤i:=by omega
 have i1:i<l.length:=by omega
 have d1:decide ((l.length:Int)=0)=false:=decide_eq_false (by omega)
 have d2:decide ((l.length:Int) > 64)=false:=decide_eq_false (by omega)
 have d3:decide (0≤i)=true:=decide_eq_true i0
 have d4:decide (i<((v77_0 l).length:Int))=true:=decide_eq_true (by omega)
 have d5:decide (i<((v82_0 l).length:Int))=true:=decide_eq_true (by omega)
 have ev:v211_0 l=el (v77_0 l) i:=by
  unfold v211_0
  rw [d1,d2,w1,e1,w2,← hi]
  rfl
 have ev':v209_0 l=el (v82_0 l) i:=by
  unfold v209_0
  rw [d1,d2,w1,e1,w2,← hi]
  rfl
 refine ⟨?_,?_,?_,?_⟩
 ·unfold q211
  rw [d1,d2,w1,e1,w2,← hi,d3,d4,a1]
  rfl
 ·unfold q209
  rw [d1,d2,w1,e1,w2,← hi,d3,d5,b1]
  rfl
 ·rw [ev,ev']
  exact el_ints (b3.trans a3.symm) i i0 (by omega)
 ·obtain ⟨j,j0,j1,e⟩:=(srt_in a3).1 i i0 (by omega)
  exact ⟨j,j0,j1,by rw [ev,e]⟩
theorem el_sub (vs:List AV) (a b j:Int) (a0:0≤a) (b1:b≤vs.length) (j0:0≤j) (j1:j<b - a):el ((vs.take (Int.toNat b)).drop (Int.toNat a)) j=el vs (a+j):=by
 unfold el
 rw [List.getD_eq_getElem?_getD,List.getD_eq_getElem?_getD,List.getElem?_drop,List.getElem?_take_of_lt (by omega),show a.toNat+j.toNat=(a+j).toNat by omega]
structure Sett (pol thr seed:Int):Prop where
 p0:0≤pol
 p1:pol≤2
 t0:1≤thr
 t1:thr≤64
 s0:0≤seed
 s1:seed≤10006
theorem sett_both (pol thr seed:Int):v133_0 pol thr seed=v130_0 pol thr seed∧(v133_0 pol thr seed=true ↔ Sett pol thr seed):=by
 unfold v133_0 v130_0
 simp only [v52]
 constructor
 ·by_cases h1:0≤pol <;> by_cases h2:pol≤2 <;> by_cases h3:1≤thr <;> by_cases h4:thr≤64 <;> by_cases h5:0≤seed <;> by_cases h6:seed≤10006 <;> simp [h1,h2,h3,h4,h5,h6]
 ·constructor
  ·intro h
   by_cases h1:0≤pol <;> by_cases h2:pol≤2 <;> by_cases h3:1≤thr <;> by_cases h4:thr≤64 <;> by_cases h5:0≤seed <;> by_cases h6:seed≤10006 <;> simp [h1,h2,h3,h4,h5,h6] at h
   exact ⟨h1,h2,h3,h4,h5,h6⟩
  ·rintro ⟨h1,h2,h3,h4,h5,h6⟩
   simp [h1,h2,h3,h4,h5,h6]
theorem choose_both {vs rs ps:List AV} (h:Col vs rs ps) {pol thr seed a b:Int} (hS:Sett pol thr seed) (a0:0≤a) (ab:a<b) (b1:b≤vs.length) :
  q203 vs rs ps pol thr seed a b=true∧q202 vs rs ps pol thr seed a b=true∧v202_0 vs rs ps pol thr seed a b=v203_0 vs rs ps pol thr seed a b∧v202_3 vs rs ps pol thr seed a b=v203_3 vs rs ps pol thr seed a b ∧
  0≤v203_3 vs rs ps pol thr seed a b∧v203_3 vs rs ps pol thr seed a b≤10006∧∃ k:Int,a≤k∧k<b∧v203_0 vs rs ps pol thr seed a b=el vs k:=by
 have hl:=h.n64
 have hlen:=h.len
 have hf:=col_few h
 have hc:=(isC_iff vs rs ps (by omega)).2 h
 obtain ⟨g1,g2⟩:=P68 vs rs ps (by omega) (by omega) (by omega)
 obtain ⟨g3,g4⟩:=P61 vs rs ps (by omega) (by omega) (by omega)
 obtain ⟨e1,e2⟩:=sett_both pol thr seed
 have e2:=e2.2 hS
 have e3:v130_0 pol thr seed=true:=by rw [← e1];exact e2
 have d1:decide (a<0)=false:=decide_eq_false (by omega)
 have d2:decide (a ≥ b)=false:=decide_eq_false (by omega)
 have d3:decide (b > (vs.length:Int))=false:=decide_eq_false (by omega)
 obtain ⟨n1,n2,n3,n4,n5⟩:=seed_both seed hS.s0 hS.s1
 have w1:IntKind.i64.wrap (b - a)=b - a:=wrap_in (by omega) (by omega)
 unfold q203 q202 v203_0 v202_0 v203_3 v202_3
 rw [g1,g2,g3,g4,hc,e2,e3,d1,d2,d3]
 simp only [Bool.not_true,cond_false,Bool.true_and]
 by_cases hp:pol=2
 ·have d4:decide (pol=2)=true:=decide_eq_true hp
  obtain ⟨t,ht⟩:∃ t,t=Int.tmod (v210_0 seed) (b - a):=⟨_,rfl⟩
  have t0:0≤t∧t<b - a:=by
   rw [ht,Int.tmod_eq_emod_of_nonneg n4]
   exact ⟨Int.emod_nonneg _ (by omega),Int.emod_lt_of_pos _ (by omega)⟩
  have w2:IntKind.i64.wrap (a+t)=a+t:=wrap_in (by omega) (by omega)
  have d5:decide (b - a=0)=false:=decide_eq_false (by omega)
  have d6:decide (0≤a+t)=true:=decide_eq_true (by omega)
  have d7:decide (a+t<(vs.length:Int))=true:=decide_eq_true (by omega)
  simp only [d4,cond_true,n1,n2,n3,w1,← ht,w2,d5,d6,d7,Bool.not_false,Bool.and_self]
  refine ⟨trivial,trivial,trivial,trivial,n4,n5,a+t,by omega,by omega,rfl⟩
 ·have d4:decide (pol=2)=false:=decide_eq_false hp
  have d5:decide (0≤a)=true:=decide_eq_true a0
  have d6:decide (a≤b)=true:=decide_eq_true (by omega)
  have d7:decide (b≤(vs.length:Int))=true:=decide_eq_true b1
  have hlenS:((vs.take (Int.toNat b)).drop (Int.toNat a)).length=(b - a).toNat:=by rw [List.length_drop,List.length_take];omega
  obtain ⟨m1,m2,m3,j,j0,j1,m4⟩:=med_both ((vs.take (Int.toNat b)).drop (Int.toNat a)) (by omega) (by omega)
  simp only [d4,cond_false,d5,d6,d7,m1,m2,m3,Bool.and_self]
  refine ⟨trivial,trivial,trivial,trivial,hS.s0,hS.s1,a+j,by omega,by omega,?_⟩
  rw [m4,el_sub vs a b j a0 b1 j0 (by omega)]
structure VS where
 vs:List AV
 rs:List AV
 ps:List AV
 pol:Int
 thr:Int
 seed:Int
 L:List AV
abbrev SA:=Int × Int × Int × Int × Int × Int × List AV × List AV × List AV × List AV
abbrev SB:=List AV × List AV × List AV × List AV × Int × Int × Int × Int × Int × Int × List AV × List AV × List AV
def viewS:SA ⊕ SB→VS
 | .inl (p,t,s,_,_,_,v,r,ps,L)=>⟨v,r,ps,p,t,s,L⟩
 | .inr (v,r,ps,L,p,t,s,_,_,_,_,_,_)=>⟨v,r,ps,p,t,s,L⟩
theorem stop72 {v q:Int} (s:SA ⊕ SB) {vs rs ps L:List AV} {pol thr seed:Int} (hv:viewS s=⟨vs,rs,ps,pol,thr,seed,L⟩) (h83:q150 vs rs ps v=true) (h58:q119 vs rs ps v=true)
  (hs:pol=0∨v119_1 vs rs ps v=true∨IntKind.i64.wrap (v150_1 vs rs ps v - v150_0 vs rs ps v)≤thr):∃ r:SA ⊕ SB,R188_0 v q s = .stop r∧viewS r=viewS s:=by
 refine ⟨s,?_,rfl⟩
 rcases s with ⟨p,t,s,x1,x2,x3,v0,r0,p0,L0⟩|⟨v0,r0,p0,L0,p,t,s,x1,x2,x3,x4,x5,x6⟩
 all_goals
  simp only [viewS,VS.mk.injEq] at hv
  obtain ⟨rfl,rfl,rfl,rfl,rfl,rfl,rfl⟩:=hv
  simp only [R188_0,sumE,F188_0_s0,G188_0_s0,F188_0_s1,G188_0_s1]
  rcases hs with hs|hs|hs
  ·rw [decide_eq_true hs];rfl
  ·rw [h83,h58,hs];cases decide (p=0) <;> rfl
  ·rw [h83,h58,decide_eq_true hs];cases decide (p=0) <;> cases v119_1 v0 r0 p0 v <;> rfl
theorem next72 {v q:Int} (s:SA ⊕ SB) {vs rs ps L:List AV} {pol thr seed:Int} (hv:viewS s=⟨vs,rs,ps,pol,thr,seed,L⟩) (h83:q150 vs rs ps v=true) (h58:q119 vs rs ps v=true)
  (hp:pol ≠ 0) (hf:v119_1 vs rs ps v=false) (ht:¬ IntKind.i64.wrap (v150_1 vs rs ps v - v150_0 vs rs ps v)≤thr)
  {m sd:Int} (h84:q203 vs rs ps pol thr seed (v150_0 vs rs ps v) (v150_1 vs rs ps v)=true) (hm:v203_0 vs rs ps pol thr seed (v150_0 vs rs ps v) (v150_1 vs rs ps v)=m) (hsd:v203_3 vs rs ps pol thr seed (v150_0 vs rs ps v) (v150_1 vs rs ps v)=sd)
  (wm:IntKind.i64.wrap (m+1)=m+1) {vs1 rs1 ps1 L1 vs2 rs2 ps2 L2:List AV}
  (a:q204 m q vs rs ps L=true) (a0:v204_0 m q vs rs ps L=vs1) (a1:v204_1 m q vs rs ps L=rs1) (a2:v204_2 m q vs rs ps L=ps1) (a6:v204_6 m q vs rs ps L=L1)
  (b:q204 (m+1) q vs1 rs1 ps1 L1=true) (b0:v204_0 (m+1) q vs1 rs1 ps1 L1=vs2) (b1:v204_1 (m+1) q vs1 rs1 ps1 L1=rs2) (b2:v204_2 (m+1) q vs1 rs1 ps1 L1=ps2) (b6:v204_6 (m+1) q vs1 rs1 ps1 L1=L2) :
  ∃ s2:SA ⊕ SB,R188_0 v q s = .next s2∧viewS s2=⟨vs2,rs2,ps2,pol,thr,sd,L2⟩:=by
 have e1:∀ a b:Int,v203_1 vs rs ps pol thr seed a b=pol:=fun _ _=>rfl
 have e2:∀ a b:Int,v203_2 vs rs ps pol thr seed a b=thr:=fun _ _=>rfl
 rcases s with ⟨p,t,s,x1,x2,x3,v0,r0,p0,L0⟩|⟨v0,r0,p0,L0,p,t,s,x1,x2,x3,x4,x5,x6⟩
 all_goals
  simp only [viewS,VS.mk.injEq] at hv
  obtain ⟨rfl,rfl,rfl,rfl,rfl,rfl,rfl⟩:=hv
  simp only [R188_0,sumE,F188_0_s0,G188_0_s0,F188_0_s1,G188_0_s1,decide_eq_false hp,h83,h58,hf,decide_eq_false ht,h84,hm,hsd,wm,a,a0,a1,a2,a6,b,b0,b1,b2,b6,e1,e2,Bool.not_false,cond_true,cond_false]
  exact ⟨_,rfl,rfl⟩
structure VI where
 vs:List AV
 rs:List AV
 ps:List AV
 pol:Int
 thr:Int
 seed:Int
 tl:Int
abbrev IA:=Int × Int × Int × Int × Int × Int × Int × List AV × List AV × List AV × Int
abbrev IB:=List AV × List AV × List AV × Int × Int × Int × Int × Int × Int × Int × List AV × List AV × List AV × Int
def viewI:IA ⊕ IB→VI
 | .inl (p,t,s,_,_,_,tl,v,r,ps,_)=>⟨v,r,ps,p,t,s,tl⟩
 | .inr (v,r,ps,p,t,s,_,_,_,tl,_,_,_,_)=>⟨v,r,ps,p,t,s,tl⟩
theorem stop79 {v:Int} (s:IA ⊕ IB) {vs rs ps:List AV} {pol thr seed tl:Int} (hv:viewI s=⟨vs,rs,ps,pol,thr,seed,tl⟩) (h89:q142 vs rs ps v=true)
  (hs:pol=0∨v142_0 vs rs ps v=true∨(q143 vs rs ps v=true∧IntKind.i64.wrap (v143_1 vs rs ps v - v143_0 vs rs ps v)≤thr)):∃ r:IA ⊕ IB,R187_0 v s = .stop r∧viewI r=viewI s:=by
 refine ⟨s,?_,rfl⟩
 rcases s with ⟨p,t,s,x1,x2,x3,t0,v0,r0,p0,x4⟩|⟨v0,r0,p0,p,t,s,x1,x2,x3,t0,x4,x5,x6,x7⟩
 all_goals
  simp only [viewI,VI.mk.injEq] at hv
  obtain ⟨rfl,rfl,rfl,rfl,rfl,rfl,rfl⟩:=hv
  simp only [R187_0,sumE,F187_0_s0,G187_0_s0,F187_0_s1,G187_0_s1]
  rcases hs with hs|hs|⟨hq,hs⟩
  ·rw [decide_eq_true hs];rfl
  ·rw [h89,hs];cases decide (p=0) <;> rfl
  ·rw [h89,hq,decide_eq_true hs];cases decide (p=0) <;> cases v142_0 v0 r0 p0 v <;> rfl
theorem next79 {v:Int} (s:IA ⊕ IB) {vs rs ps:List AV} {pol thr seed tl:Int} (hv:viewI s=⟨vs,rs,ps,pol,thr,seed,tl⟩) (h89:q142 vs rs ps v=true) (h90:q143 vs rs ps v=true)
  (hp:pol ≠ 0) (hf:v142_0 vs rs ps v=false) (ht:¬ IntKind.i64.wrap (v143_1 vs rs ps v - v143_0 vs rs ps v)≤thr)
  {m sd:Int} (h92:q202 vs rs ps pol thr seed (v143_0 vs rs ps v) (v143_1 vs rs ps v)=true) (hm:v202_0 vs rs ps pol thr seed (v143_0 vs rs ps v) (v143_1 vs rs ps v)=m) (hsd:v202_3 vs rs ps pol thr seed (v143_0 vs rs ps v) (v143_1 vs rs ps v)=sd)
  (wm:IntKind.i64.wrap (m+1)=m+1) {vs1 rs1 ps1 vs2 rs2 ps2:List AV} {n1 n2:Int} (O1:One vs rs ps m vs1 rs1 ps1 n1) (O2:One vs1 rs1 ps1 (m+1) vs2 rs2 ps2 n2)
  (hnew:(findP ps m).isSome=true→(findP ps1 (m+1)).isSome=false) (w1:IntKind.i64.wrap (tl+n1)=tl+n1) (w2:IntKind.i64.wrap (tl+n1+n2)=tl+n1+n2) (w3:IntKind.i64.wrap (tl+n2)=tl+n2) :
  ∃ s2:IA ⊕ IB,R187_0 v s = .next s2∧viewI s2=⟨vs2,rs2,ps2,pol,thr,sd,tl+n1+n2⟩:=by
 have e1:∀ a b:Int,v202_1 vs rs ps pol thr seed a b=pol:=fun _ _=>rfl
 have e2:∀ a b:Int,v202_2 vs rs ps pol thr seed a b=thr:=fun _ _=>rfl
 obtain ⟨k1,k2⟩:=O1.i0
 obtain ⟨l1,l2⟩:=O2.i0
 cases f1:(findP ps m).isSome with
 | true =>
  obtain ⟨rfl,rfl,rfl,rfl⟩:=O1.i2 f1
  have f2:=hnew f1
  obtain ⟨c1,c2,c3,c4,c5,c6⟩:=O2.i1 f2
  rw [f1] at k2
  rw [f2] at l2
  rw [Int.add_zero]
  rcases s with ⟨p,t,s,x1,x2,x3,t0,v0,r0,p0,x4⟩|⟨v0,r0,p0,p,t,s,x1,x2,x3,t0,x4,x5,x6,x7⟩
  all_goals
   simp only [viewI,VI.mk.injEq] at hv
   obtain ⟨rfl,rfl,rfl,rfl,rfl,rfl,rfl⟩:=hv
   simp only [R187_0,sumE,F187_0_s0,G187_0_s0,F187_0_s1,G187_0_s1,decide_eq_false hp,h89,hf,h90,decide_eq_false ht,h92,hm,hsd,wm,k1,k2,l1,l2,c1,c2,c3,c4,c5,c6,w3,e1,e2,Bool.not_false,cond_true,cond_false]
   exact ⟨_,rfl,rfl⟩
 | false =>
  obtain ⟨c1,c2,c3,c4,c5,c6⟩:=O1.i1 f1
  rw [f1] at k2
  cases f2:(findP ps1 (m+1)).isSome with
  | true =>
   obtain ⟨rfl,rfl,rfl,rfl⟩:=O2.i2 f2
   rw [f2] at l2
   rw [Int.add_zero]
   rcases s with ⟨p,t,s,x1,x2,x3,t0,v0,r0,p0,x4⟩|⟨v0,r0,p0,p,t,s,x1,x2,x3,t0,x4,x5,x6,x7⟩
   all_goals
    simp only [viewI,VI.mk.injEq] at hv
    obtain ⟨rfl,rfl,rfl,rfl,rfl,rfl,rfl⟩:=hv
    simp only [R187_0,sumE,F187_0_s0,G187_0_s0,F187_0_s1,G187_0_s1,decide_eq_false hp,h89,hf,h90,decide_eq_false ht,h92,hm,hsd,wm,k1,k2,c1,c2,c3,c4,c5,c6,l1,l2,w1,e1,e2,Bool.not_false,cond_true,cond_false]
    exact ⟨_,rfl,rfl⟩
  | false =>
   obtain ⟨g1,g2,g3,g4,g5,g6⟩:=O2.i1 f2
   rw [f2] at l2
   rcases s with ⟨p,t,s,x1,x2,x3,t0,v0,r0,p0,x4⟩|⟨v0,r0,p0,p,t,s,x1,x2,x3,t0,x4,x5,x6,x7⟩
   all_goals
    simp only [viewI,VI.mk.injEq] at hv
    obtain ⟨rfl,rfl,rfl,rfl,rfl,rfl,rfl⟩:=hv
    simp only [R187_0,sumE,F187_0_s0,G187_0_s0,F187_0_s1,G187_0_s1,decide_eq_false hp,h89,hf,h90,decide_eq_false ht,h92,hm,hsd,wm,k1,k2,c1,c2,c3,c4,c5,c6,l1,l2,g1,g2,g3,g4,g5,g6,w1,w2,e1,e2,Bool.not_false,cond_true,cond_false]
    exact ⟨_,rfl,rfl⟩
theorem findP_at {ps:List AV} {v:Int} (h:(findP ps v).isSome=true):∃ i:Int,0≤i∧i<ps.length∧el ps i=v:=by
 obtain ⟨j,hj⟩:=Option.isSome_iff_exists.1 h
 obtain ⟨h1,h2,h3⟩:=findF_some _ _ hj
 exact ⟨j,h1,by omega,of_decide_eq_true h3⟩
theorem newm {vs rs ps:List AV} (h:Col vs rs ps) {v a b t k:Int} (hp:Pc vs.length ps v a b t) (a0:0≤a) (ka:a≤k) (kb:k<b) (b1:b≤vs.length)
  (h1:(findP ps (el vs k)).isSome=true) (h2:(findP ps (el vs k+1)).isSome=true):False:=by
 obtain ⟨i,i0,i1,ei⟩:=findP_at h1
 obtain ⟨j,j0,j1,ej⟩:=findP_at h2
 have t0:=hp.t0
 have t1:=hp.t1
 have ea:=hp.ea
 have eb:=hp.eb
 have hi:i<t:=by
  rcases Int.lt_or_le i t with h|hit
  ·exact h
  ·have htl:t<ps.length:=by omega
   rw [if_neg (by omega)] at eb
   have:=(h.part t t0 htl k (by omega) (by omega)).2 (by omega)
   rcases Int.lt_or_le t i with h'|h'
   ·have:=(h.lt t0 h' i1).1
    omega
   ·have:i=t:=by omega
    subst this
    omega
 have hlo:=hp.lo i i0 hi
 have hj:t≤j:=by
  rcases Int.lt_or_le j t with hjt|h
  ·rw [if_neg (by omega)] at ea
   have hn:¬ el vs k<el ps (t - 1):=fun e=>by
    have:=(h.part (t - 1) (by omega) (by omega) k (by omega) (by omega)).1 e
    omega
   rcases Int.lt_or_le j (t - 1) with h'|h'
   ·have:=(h.lt j0 h' (by omega:t - 1<ps.length)).1
    omega
   ·have:j=t - 1:=by omega
    subst this
    omega
  ·exact h
 have hhi:=hp.hi j hj j1
 omega
def InvP (pol thr T c:Int) (s:SA ⊕ SB) (s':IA ⊕ IB):Prop:=∃ (vs rs ps:List AV) (seed:Int) (L:List AV) (tl:Int),viewS s=⟨vs,rs,ps,pol,thr,seed,L⟩∧viewI s'=⟨vs,rs,ps,pol,thr,seed,tl⟩ ∧
 Col vs rs ps∧N2 ps∧Sett pol thr seed∧tot L=T+tl∧0≤tl∧tl≤64*ps.length∧(L.length:Int)≤c+ps.length
theorem loop_both {pol thr T c v q:Int} (hv : -1000≤v∧v≤1000) (hc:c≤10000000) (s:SA ⊕ SB) (s':IA ⊕ IB) (hI:InvP pol thr T c s s') :
  ∃ r r',runW (R188_0 v q) 2100 s=some r∧runW (R187_0 v) 2100 s'=some r'∧InvP pol thr T c r r':=by
 refine runW_pair (f:=R188_0 v q) (g:=R187_0 v) (InvP pol thr T c) (InvP pol thr T c) (fun s=>2050 - (viewS s).ps.length) (fun s s' hI=>?_) 2100 2100 s s' hI (by omega) (by omega)
 obtain ⟨vs,rs,ps,seed,L,tl,e1,e2,hC,hN,hS,hT,t0,t1,hL⟩:=hI
 have hl:=hC.n64
 have hlen:=hC.len
 have hf:=col_few hC
 obtain ⟨f1,f2,f3⟩:=P119 vs rs ps v (by omega)
 obtain ⟨i1,i2⟩:=P142 vs rs ps v (by omega)
 have h83:=q150_ok hC v
 have stop:∀ {r:SA ⊕ SB} {r':IA ⊕ IB},viewS r=viewS s→viewI r'=viewI s'→InvP pol thr T c r r':=fun h h'=>⟨vs,rs,ps,seed,L,tl,h.trans e1,h'.trans e2,hC,hN,hS,hT,t0,t1,hL⟩
 by_cases hp:pol=0
 ·obtain ⟨r,k1,k2⟩:=stop72 (v:=v) (q:=q) s e1 h83 f1 (.inl hp)
  obtain ⟨r',l1,l2⟩:=stop79 (v:=v) s' e2 i1 (.inl hp)
  exact .inr ⟨r,r',k1,l1,stop k2 l2⟩
 cases hfd:(findP ps v).isSome with
 | true =>
  obtain ⟨r,k1,k2⟩:=stop72 (v:=v) (q:=q) s e1 h83 f1 (.inr (.inl (by rw [f3,hfd])))
  obtain ⟨r',l1,l2⟩:=stop79 (v:=v) s' e2 i1 (.inr (.inl (by rw [i2,hfd])))
  exact .inr ⟨r,r',k1,l1,stop k2 l2⟩
 | false =>
  have hpc:=pc_of hC hfd
  have hpi:=piece_of hC hpc
  generalize (if place ps v=0 then 0 else pat ps (place ps v - 1))=a at hpc hpi
  generalize (if place ps v=ps.length then (vs.length:Int) else pat ps (place ps v))=b at hpc hpi
  have a0:=hpi.a0
  have ab:=hpi.ab
  have b1:=hpi.b1
  obtain ⟨p1,p2,p3⟩:=P150 hC hv hpc
  obtain ⟨p4,p5,p6⟩:=P143 (rs:=rs) hpc (by omega)
  have wb:IntKind.i64.wrap (b - a)=b - a:=wrap_in (by omega) (by omega)
  by_cases ht:b - a≤thr
  ·obtain ⟨r,k1,k2⟩:=stop72 (v:=v) (q:=q) s e1 h83 f1 (.inr (.inr (by rw [p2,p3,wb];exact ht)))
   obtain ⟨r',l1,l2⟩:=stop79 (v:=v) s' e2 i1 (.inr (.inr ⟨p4,by rw [p5,p6,wb];exact ht⟩))
   exact .inr ⟨r,r',k1,l1,stop k2 l2⟩
  ·have ht0:=hS.t0
   obtain ⟨c1,c2,c3,c4,c5,c6,k,ka,kb,c7⟩:=choose_both hC hS a0 (by omega:a<b) b1
   obtain ⟨m0,m1⟩:=hC.vals k (by omega) (by omega)
   obtain ⟨vs1,rs1,ps1,n1,L1,O1,x1,x2,x3,x4,x5,x6,x7⟩:=one_div hC hN (v:=el vs k) (by omega) q L (by omega)
   have hf1:=col_few O1.ok
   have g1:=O1.grow
   have nn1:=O1.nn
   have n10:=O1.n0
   obtain ⟨vs2,rs2,ps2,n2,L2,O2,y1,y2,y3,y4,y5,y6,y7⟩:=one_div O1.ok O1.n2 (v:=el vs k+1) (by omega) q L1 (by omega)
   have hf2:=col_few O2.ok
   have g2:=O2.grow
   have nn2:=O2.nn
   have n20:=O2.n0
   have hnew:(findP ps (el vs k)).isSome=true→(findP ps1 (el vs k+1)).isSome=false:=fun e=>by
    obtain ⟨_,_,rfl,_⟩:=O1.i2 e
    cases e':(findP ps1 (el vs k+1)).isSome with
    | false=>rfl
    | true=>exact (newm hC hpc a0 ka kb b1 e e').elim
   have hgrow:ps.length<ps2.length:=by
    cases e:(findP ps (el vs k)).isSome with
    | false=>have:=O1.new e;omega
    | true=>have:=O2.new (hnew e);omega
   have wm:IntKind.i64.wrap (el vs k+1)=el vs k+1:=wrap_in (by omega) (by omega)
   obtain ⟨s2,z1,z2⟩:=next72 (v:=v) (q:=q) (sd:=v203_3 vs rs ps pol thr seed a b) s e1 h83 f1 hp (by rw [f3,hfd]) (by rw [p2,p3,wb];exact ht) (by rw [p2,p3];exact c1) (by rw [p2,p3];exact c7) (by rw [p2,p3]) wm x1 x2 x3 x4 x5 y1 y2 y3 y4 y5
   obtain ⟨s2',z3,z4⟩:=next79 (v:=v) (sd:=v203_3 vs rs ps pol thr seed a b) s' e2 i1 p4 hp (by rw [i2,hfd]) (by rw [p5,p6,wb];exact ht) (by rw [p5,p6];exact c2) (by rw [p5,p6];exact c3.trans c7) (by rw [p5,p6];exact c4) wm O1 O2 hnew (wrap_in (by omega) (by omega)) (wrap_in (by omega) (by omega)) (wrap_in (by omega) (by omega))
   refine .inl ⟨s2,s2',z1,z3,⟨vs2,rs2,ps2,v203_3 vs rs ps pol thr seed a b,L2,tl+n1+n2,z2,z4,O2.ok,O2.n2,⟨hS.p0,hS.p1,hS.t0,hS.t1,c5,c6⟩,by omega,by omega,by omega,by omega⟩,?_⟩
   rw [z2,e1]
   simp only
   omega
structure Wit (vs rs ps:List AV) (pol thr seed v q:Int) (L:List AV) (x:Int) (vs' rs' ps':List AV) (seed' tl:Int):Prop where
 ok:Col vs' rs' ps'
 n2:N2 ps'
 st:Sett pol thr seed'
 t0:0≤tl
 t1:tl≤200000
 spec:q188 pol thr seed v q vs rs ps L=true∧v188_0 pol thr seed v q vs rs ps L=vs'∧v188_1 pol thr seed v q vs rs ps L=rs'∧v188_2 pol thr seed v q vs rs ps L=ps' ∧
  v188_3 pol thr seed v q vs rs ps L=pol∧v188_4 pol thr seed v q vs rs ps L=thr∧v188_5 pol thr seed v q vs rs ps L=seed'∧tot (v188_9 pol thr seed v q vs rs ps L)=tot L+tl∧(v188_9 pol thr seed v q vs rs ps L).length≤L.length+2002
 imp:q187 pol thr seed v vs rs ps x=true∧v187_0 pol thr seed v vs rs ps x=vs'∧v187_1 pol thr seed v vs rs ps x=rs'∧v187_2 pol thr seed v vs rs ps x=ps' ∧
  v187_3 pol thr seed v vs rs ps x=pol∧v187_4 pol thr seed v vs rs ps x=thr∧v187_5 pol thr seed v vs rs ps x=seed'∧v187_6 pol thr seed v vs rs ps x=tl
theorem with_both {vs rs ps:List AV} (h:Col vs rs ps) (hN:N2 ps) {pol thr seed v:Int} (hS:Sett pol thr seed) (hv : -1000≤v∧v≤1000) (q:Int) (L:List AV) (hL:L.length≤1000000) (x:Int) :
  ∃ (vs' rs' ps':List AV) (seed' tl:Int),Wit vs rs ps pol thr seed v q L x vs' rs' ps' seed' tl:=by
 obtain ⟨r,r',k1,k2,⟨vs1,rs1,ps1,sd1,L1,tl1,e1,e2,C1,N1,S1,hT,t0,t1,hL1⟩⟩:=loop_both (pol:=pol) (thr:=thr) (T:=tot L) (c:=L.length) (v:=v) (q:=q) hv (by omega) (.inl (pol,thr,seed,0,0,0,vs,rs,ps,L)) (.inl (pol,thr,seed,0,0,0,0,vs,rs,ps,x))
  ⟨vs,rs,ps,seed,L,0,rfl,rfl,h,hN,hS,by omega,Int.le_refl _,by omega,by omega⟩
 have hf1:=col_few C1
 obtain ⟨vs2,rs2,ps2,n2,L2,O2,y1,y2,y3,y4,y5,y6,y7⟩:=one_div C1 N1 (v:=v) hv q L1 (by omega)
 have hf2:=col_few O2.ok
 have n20:=O2.n0
 have n21:=O2.n1
 have w1:IntKind.i64.wrap (tl1+n2)=tl1+n2:=wrap_in (by omega) (by omega)
 obtain ⟨i1,i2⟩:=O2.i0
 refine ⟨vs2,rs2,ps2,sd1,tl1+n2,O2.ok,O2.n2,S1,by omega,by omega,?_,?_⟩
 ·unfold q188 v188_0 v188_1 v188_2 v188_3 v188_4 v188_5 v188_9
  rw [k1]
  rcases r with ⟨p,t,s,x1,x2,x3,v0,r0,p0,L0⟩|⟨v0,r0,p0,L0,p,t,s,x1,x2,x3,x4,x5,x6⟩
  all_goals
   simp only [viewS,VS.mk.injEq] at e1
   obtain ⟨rfl,rfl,rfl,rfl,rfl,rfl,rfl⟩:=e1
   simp only [ro,sumE,y1,y2,y3,y4,y5]
   refine ⟨trivial,trivial,trivial,trivial,?_,?_,?_,by omega,by omega⟩ <;> trivial
 ·unfold q187 v187_0 v187_1 v187_2 v187_3 v187_4 v187_5 v187_6
  rw [k2]
  cases hfd:(findP ps1 v).isSome with
  | true =>
   obtain ⟨g1,g2,g3,g4⟩:=O2.i2 hfd
   rw [hfd] at i2
   rcases r' with ⟨p,t,s,x1,x2,x3,t0',v0,r0,p0,x4⟩|⟨v0,r0,p0,p,t,s,x1,x2,x3,t0',x4,x5,x6,x7⟩
   all_goals
    simp only [viewI,VI.mk.injEq] at e2
    obtain ⟨rfl,rfl,rfl,rfl,rfl,rfl,rfl⟩:=e2
    subst g1 g2 g3 g4
    simp only [ro,sumE,i1,i2,cond_true,Bool.and_self,Int.add_zero]
    refine ⟨trivial,trivial,trivial,trivial,?_,?_,?_,?_⟩ <;> trivial
  | false =>
   obtain ⟨g1,g2,g3,g4,g5,g6⟩:=O2.i1 hfd
   rw [hfd] at i2
   rcases r' with ⟨p,t,s,x1,x2,x3,t0',v0,r0,p0,x4⟩|⟨v0,r0,p0,p,t,s,x1,x2,x3,t0',x4,x5,x6,x7⟩
   all_goals
    simp only [viewI,VI.mk.injEq] at e2
    obtain ⟨rfl,rfl,rfl,rfl,rfl,rfl,rfl⟩:=e2
    simp only [ro,sumE,i1,i2,cond_false,g1,g2,g3,g4,g5,g6,w1,Bool.and_self]
    refine ⟨trivial,trivial,trivial,trivial,?_,?_,?_,?_⟩ <;> trivial
end Go.Proofs.YtbmfgibbjchijaaGreat

namespace Go.Proofs.YtbmfgibbjchijaaGreat
open Go Go.Proofs.VE
set_option linter.unusedVariables false
set_option linter.unusedSimpArgs false
theorem wadd (a b:Int):IntKind.i64.wrap (IntKind.i64.wrap a+b)=IntKind.i64.wrap (a+b):=by
 rw [IntKind.wrap_i64,IntKind.wrap_i64,IntKind.wrap_i64]
 omega
theorem tot_take (L:List AV) (k:Int) (h0:0≤k) (h1:k<L.length):tot (L.take (k+1).toNat)=tot (L.take k.toNat)+fI (L.getD k.toNat .undef) 4:=by
 rw [take_snoc h0 h1,tot_snoc]
theorem P189 (L:List AV) (h:L.length≤1048576):q189 L=true∧v189_0 L=IntKind.i64.wrap (tot L):=by
 obtain ⟨r,h1,h2⟩:=runW_ends (f:=R189_0 L) (fun s:Int × Int=>0≤s.2∧s.2≤L.length∧s.1=IntKind.i64.wrap (tot (L.take s.2.toNat))) (fun r=>r=IntKind.i64.wrap (tot L)) (fun s=>((L.length:Int) - s.2).toNat) (fun s hI=>by
  obtain ⟨t,k⟩:=s
  obtain ⟨k0,k1,e⟩:=hI
  simp only at k0 k1 e
  by_cases hk:k<L.length
  ·have d1:decide (k<(L.length:Int))=true:=decide_eq_true hk
   have d2:decide (0≤k)=true:=decide_eq_true k0
   have wk:IntKind.i64.wrap (k+1)=k+1:=wrap_in (by omega) (by omega)
   refine .inl ⟨(IntKind.i64.wrap (t+fI (L.getD k.toNat AV.undef) 4),k+1),by simp only [R189_0,F189_0,G189_0,d1,d2,wk,Bool.and_self,cond_true],⟨by simp only;omega,by simp only;omega,?_⟩,by simp only;omega⟩
   simp only
   rw [e,wadd,tot_take L k k0 hk]
  ·have d1:decide (k<(L.length:Int))=false:=decide_eq_false hk
   have ek:k.toNat=L.length:=by omega
   exact .inr ⟨t,by simp only [R189_0,F189_0,G189_0,d1,cond_false],by rw [e,ek,List.take_length]⟩) (((L.length:Int) - 0:Int).toNat+1) (0,0) ⟨Int.le_refl _,by simp,by rfl⟩ (by simp only;omega)
 unfold q189 v189_0
 rw [h1]
 exact ⟨rfl,h2⟩
theorem P91 (xs:List AV) (h:xs.length≤1048576):q91 xs=true:=by
 obtain ⟨r,h1,h2⟩:=runW_ends (f:=R91_0 xs) (fun s:Int × Int=>0≤s.2∧s.2≤xs.length) (fun r=>True) (fun s=>((xs.length:Int) - s.2).toNat) (fun s hI=>by
  obtain ⟨t,k⟩:=s
  obtain ⟨k0,k1⟩:=hI
  simp only at k0 k1
  by_cases hk:k<xs.length
  ·have d1:decide (k<(xs.length:Int))=true:=decide_eq_true hk
   have d2:decide (0≤k)=true:=decide_eq_true k0
   have wk:IntKind.i64.wrap (k+1)=k+1:=wrap_in (by omega) (by omega)
   exact .inl ⟨(IntKind.i64.wrap (t+fI (xs.getD k.toNat AV.undef) 0),k+1),by simp only [R91_0,F91_0,G91_0,d1,d2,wk,Bool.and_self,cond_true],⟨by simp only;omega,by simp only;omega⟩,by simp only;omega⟩
  ·have d1:decide (k<(xs.length:Int))=false:=decide_eq_false hk
   exact .inr ⟨t,by simp only [R91_0,F91_0,G91_0,d1,cond_false],trivial⟩) (((xs.length:Int) - 0:Int).toNat+1) (0,0) ⟨Int.le_refl _,by simp⟩ (by simp only;omega)
 unfold q91
 rw [h1]
 rfl
theorem P89 (xs:List AV) (h:xs.length≤1048576):q89 xs=true∧v89_0 xs=v91_0 xs:=⟨P91 xs h,rfl⟩
theorem isR_eq (a b:Int):v45_0 a b=v51_0 a b:=by
 unfold v45_0 v51_0
 rw [v52,v52]
 by_cases h1 : -1000≤a <;> by_cases h2:a≤b <;> by_cases h3:b≤1000 <;> simp [h1,h2,h3] <;> omega
theorem run129 (xs:List AV) (h:xs.length≤1048576):runW (R129_0 xs) (((xs.length:Int) - 0).toNat+1) 0=some (ro (findF (fun i => !v51_0 (fI (xs.getD i.toNat .undef) 0) (fI (xs.getD i.toNat .undef) 1)) xs.length 0) (.inl ()) fun _ => .inr ()):=by
 refine runW_find (fun i=>i) xs.length _ _ _ (fun i h0 hn=>?_) ?_ xs.length _ 0 (Int.le_refl 0) (by omega) (by omega)
 ·simp only [R129_0,F129_0,G129_0,h0,hn,decide_true,Bool.and_self,cond_true]
  rw [wrap_in (a:=i+1) (by omega) (by omega)]
 ·simp only [R129_0,F129_0,G129_0,Int.lt_irrefl,decide_false,cond_false]
theorem run155 (xs:List AV) (h:xs.length≤1048576):runW (R155_0 xs xs.length) (((xs.length:Int) - 0).toNat+1) 0=some (ro (findF (fun i=>v127_0 (fI (xs.getD i.toNat .undef) 0) (fI (xs.getD i.toNat .undef) 1)) xs.length 0) (.inl ()) fun i => .inr i):=by
 refine runW_find (fun i=>i) xs.length _ _ _ (fun i h0 hn=>?_) ?_ xs.length _ 0 (Int.le_refl 0) (by omega) (by omega)
 ·simp only [R155_0,F155_0,G155_0,h0,hn,decide_true,Bool.and_self,cond_true]
  rw [wrap_in (a:=i+1) (by omega) (by omega)]
 ·simp only [R155_0,F155_0,G155_0,Int.lt_irrefl,decide_false,cond_false]
theorem P129 (xs:List AV) (h:xs.length≤1048576):q129 xs=true∧v129_0 xs=((findF (fun i => !v51_0 (fI (xs.getD i.toNat .undef) 0) (fI (xs.getD i.toNat .undef) 1)) xs.length 0).isNone && decide (xs.length≤30)):=by
 unfold q129 v129_0
 rw [run129 xs h]
 cases findF (fun i => !v51_0 (fI (xs.getD i.toNat .undef) 0) (fI (xs.getD i.toNat .undef) 1)) xs.length 0 with
 | none=>refine ⟨rfl,?_⟩;simp only [ro,sumE,Option.isNone_none,Bool.true_and];congr 1;simp only [eq_iff_iff];omega
 | some j=>exact ⟨rfl,rfl⟩
theorem P80 (xs:List AV) (h:xs.length≤1048576):q80 xs=true∧v80_0 xs=v129_0 xs:=by
 rw [(P129 xs h).2]
 unfold q80 v80_0 v126_0 q126 q155 v155_0
 rw [run155 xs h]
 have e:(fun i:Int=>v127_0 (fI (xs.getD i.toNat .undef) 0) (fI (xs.getD i.toNat .undef) 1))=fun i => !v51_0 (fI (xs.getD i.toNat .undef) 0) (fI (xs.getD i.toNat .undef) 1):=by
  funext i
  unfold v127_0
  rw [isR_eq]
 rw [e]
 have e30:decide ((xs.length:Int)≤30)=decide (xs.length≤30):=by congr 1;simp only [eq_iff_iff];omega
 rw [e30]
 cases hf:findF (fun i => !v51_0 (fI (xs.getD i.toNat .undef) 0) (fI (xs.getD i.toNat .undef) 1)) xs.length 0 with
 | none=>cases decide (xs.length≤30) <;> exact ⟨rfl,rfl⟩
 | some j =>
  have:=(findF_some _ _ hf).1
  cases decide (xs.length≤30)
  ·exact ⟨rfl,rfl⟩
  ·refine ⟨rfl,?_⟩
   simp [ro,sumE]
   omega
theorem rng_ok {xs:List AV} (h:xs.length≤1048576) (hv:v129_0 xs=true):xs.length≤30∧∀ k:Int,0≤k→k<xs.length→(-1000≤fI (xs.getD k.toNat .undef) 0∧fI (xs.getD k.toNat .undef) 0≤1000)∧(-1000≤fI (xs.getD k.toNat .undef) 1∧fI (xs.getD k.toNat .undef) 1≤1000)∧v51_0 (fI (xs.getD k.toNat .undef) 0) (fI (xs.getD k.toNat .undef) 1)=true:=by
 rw [(P129 xs h).2,Bool.and_eq_true,decide_eq_true_eq] at hv
 obtain ⟨h1,h2⟩:=hv
 refine ⟨h2,fun k k0 k1=>?_⟩
 have:=findF_isNone _ _ |>.1 h1 k k0 (by omega)
 simp only [Bool.not_eq_false'] at this
 have t:=this
 unfold v51_0 at this
 rw [v52,v52] at this
 simp only [Bool.cond_eq_ite,Bool.and_eq_true,decide_eq_true_eq] at this
 split at this
 ·simp only [Bool.and_eq_true,decide_eq_true_eq] at this
  exact ⟨by omega,by omega,t⟩
 ·cases this
theorem P87 (vs:List AV) (p t s:Int) (qs:List AV) (h:vs.length≤1048576) (h':qs.length≤1048576):q87 vs p t s qs=true∧v87_0 vs p t s qs=(v116_0 vs && (v133_0 p t s && v129_0 qs)):=by
 obtain ⟨a1,a2⟩:=P79 vs h
 obtain ⟨b1,b2⟩:=P80 qs h'
 obtain ⟨c1,c2⟩:=sett_both p t s
 unfold q87 v87_0
 rw [a1,a2,b1,b2,← c1]
 cases v116_0 vs <;> cases v133_0 p t s <;> exact ⟨rfl,rfl⟩
theorem P160 {vs rs ps:List AV} {pol thr seed v x:Int} {vs' rs' ps':List AV} {seed' tl:Int} (W:Wit vs rs ps pol thr seed v 0 [] x vs' rs' ps' seed' tl) (h:Col vs rs ps) (hS:Sett pol thr seed) (hv : -1000≤v∧v≤1000) :
  q160 vs rs ps pol thr seed v=true∧v160_0 vs rs ps pol thr seed v=vs'∧v160_1 vs rs ps pol thr seed v=rs'∧v160_2 vs rs ps pol thr seed v=ps'∧v160_3 vs rs ps pol thr seed v=pol∧v160_4 vs rs ps pol thr seed v=thr∧v160_5 vs rs ps pol thr seed v=seed'∧v160_6 vs rs ps pol thr seed v=tl:=by
 have h64:=h.n64
 have hlen:=h.len
 have hf:=col_few h
 obtain ⟨a1,a2⟩:=P68 vs rs ps (by omega) (by omega) (by omega)
 rw [(isC_iff vs rs ps (by omega)).2 h] at a2
 have b:=(sett_both pol thr seed).2.2 hS
 have c:=bound_of hv
 obtain ⟨d1,d2,d3,d4⟩:=P69 vs rs ps (by omega) (by omega) (by omega)
 obtain ⟨s0,s1,s2,s3,s4,s5,s6,s7,s8⟩:=W.spec
 have t0:=W.t0
 have t1:=W.t1
 unfold q160 v160_0 v160_1 v160_2 v160_3 v160_4 v160_5 v160_6
 rw [a1,a2,b,c,d1,d2,d3,d4,s0,s1,s2,s3,s4,s5,s6]
 generalize v188_9 pol thr seed v 0 vs rs ps []=L at s7 s8
 obtain ⟨e1,e2⟩:=P189 L (by simp at s8;omega)
 rw [e1,e2,s7,show tot []+tl=tl by show (0:Int)+tl=tl;omega,wrap_in (a:=tl) (by omega) (by omega)]
 exact ⟨rfl,rfl,rfl,rfl,rfl,rfl,rfl,rfl⟩
theorem q102_ok {vs rs ps:List AV} (h:Col vs rs ps) (a b:Int):q102 vs rs ps a b=true:=by
 have h64:=h.n64
 have hlen:=h.len
 have hf:=col_few h
 obtain ⟨a1,a2⟩:=P68 vs rs ps (by omega) (by omega) (by omega)
 rw [(isC_iff vs rs ps (by omega)).2 h] at a2
 unfold q102
 rw [a1,a2,v52]
 cases c1:decide (0≤a) with
 | false=>rfl
 | true =>
  cases c2:decide (a≤b) with
  | false=>rfl
  | true =>
   by_cases c3:b > (rs.length:Int)
   ·rw [decide_eq_true c3]
    rfl
   ·rw [decide_eq_false c3,decide_eq_true (by omega:b≤(rs.length:Int)),(P77 _ (by simp only [List.length_drop,List.length_take];omega)).1]
    rfl
theorem q100_ok {vs rs ps:List AV} (h:Col vs rs ps) (a b:Int):q100 vs rs ps a b=true:=by
 have h64:=h.n64
 have hlen:=h.len
 have hf:=col_few h
 obtain ⟨a1,a2⟩:=P61 vs rs ps (by omega) (by omega) (by omega)
 rw [(isC_iff vs rs ps (by omega)).2 h] at a2
 unfold q100
 rw [a1,a2]
 by_cases c1:a<0
 ·rw [decide_eq_true c1]
  rfl
 by_cases c2:a > b
 ·rw [decide_eq_false c1,decide_eq_true c2]
  rfl
 by_cases c3:b > (rs.length:Int)
 ·rw [decide_eq_false c1,decide_eq_false c2,decide_eq_true c3]
  rfl
 rw [decide_eq_false c1,decide_eq_false c2,decide_eq_false c3,decide_eq_true (by omega:0≤a),decide_eq_true (by omega:a≤b),decide_eq_true (by omega:b≤(rs.length:Int)),(P82 _ (by simp only [List.length_drop,List.length_take];omega)).1]
 rfl
structure Sel (vs rs ps:List AV) (pol thr seed lo hi x:Int) (vs' rs' ps':List AV) (seed' c:Int):Prop where
 ok:Col vs' rs' ps'
 n2:N2 ps'
 st:Sett pol thr seed'
 c0:0≤c
 c1:c≤400000
 spec:q134 vs rs ps pol thr seed lo hi=true∧v134_0 vs rs ps pol thr seed lo hi=vs'∧v134_1 vs rs ps pol thr seed lo hi=rs'∧v134_2 vs rs ps pol thr seed lo hi=ps' ∧
  v134_3 vs rs ps pol thr seed lo hi=pol∧v134_4 vs rs ps pol thr seed lo hi=thr∧v134_5 vs rs ps pol thr seed lo hi=seed'∧v134_7 vs rs ps pol thr seed lo hi=c
 imp:q158 pol thr seed lo hi vs rs ps x=true∧v158_0 pol thr seed lo hi vs rs ps x=vs'∧v158_1 pol thr seed lo hi vs rs ps x=rs'∧v158_2 pol thr seed lo hi vs rs ps x=ps' ∧
  v158_3 pol thr seed lo hi vs rs ps x=pol∧v158_4 pol thr seed lo hi vs rs ps x=thr∧v158_5 pol thr seed lo hi vs rs ps x=seed'∧v158_7 pol thr seed lo hi vs rs ps x=c
theorem sel_both {vs rs ps:List AV} (h:Col vs rs ps) (hN:N2 ps) {pol thr seed lo hi:Int} (hS:Sett pol thr seed) (hlo : -1000≤lo∧lo≤1000) (hhi : -1000≤hi∧hi≤1000) (hr:v51_0 lo hi=true) (x:Int) :
  ∃ (vs' rs' ps':List AV) (seed' c:Int),Sel vs rs ps pol thr seed lo hi x vs' rs' ps' seed' c:=by
 obtain ⟨vs1,rs1,ps1,sd1,t1,W1⟩:=with_both h hN hS hlo 0 [] (by simp) x
 obtain ⟨vs2,rs2,ps2,sd2,t2,W2⟩:=with_both W1.ok W1.n2 W1.st hhi 0 [] (by simp) (v187_7 pol thr seed lo vs rs ps x)
 have h64:=h.n64
 have hlen:=h.len
 have hf:=col_few h
 have hf2:=col_few W2.ok
 obtain ⟨a1,a2⟩:=P68 vs rs ps (by omega) (by omega) (by omega)
 rw [(isC_iff vs rs ps (by omega)).2 h] at a2
 have b:=(sett_both pol thr seed).2.2 hS
 obtain ⟨s0,s1,s2,s3,s4,s5,s6,s7⟩:=P160 W1 h hS hlo
 obtain ⟨u0,u1,u2,u3,u4,u5,u6,u7⟩:=P160 W2 W1.ok W1.st hhi
 obtain ⟨i0,i1,i2,i3,i4,i5,i6,i7⟩:=W1.imp
 obtain ⟨j0,j1,j2,j3,j4,j5,j6,j7⟩:=W2.imp
 have f1:=(P119 vs2 rs2 ps2 lo (by omega)).1
 have f2:=(P119 vs2 rs2 ps2 hi (by omega)).1
 have g1:=(P111 vs2 rs2 ps2 lo (by omega)).1
 have g2:=(P111 vs2 rs2 ps2 hi (by omega)).1
 have c10:=W1.t0
 have c11:=W1.t1
 have c20:=W2.t0
 have c21:=W2.t1
 have wc:IntKind.i64.wrap (t1+t2)=t1+t2:=wrap_in (by omega) (by omega)
 refine ⟨vs2,rs2,ps2,sd2,t1+t2,W2.ok,W2.n2,W2.st,by omega,by omega,?_,?_⟩
 ·unfold q134 v134_0 v134_1 v134_2 v134_3 v134_4 v134_5 v134_7
  rw [a1,a2,b,hr,s0,s1,s2,s3,s4,s5,s6,s7,u0,u1,u2,u3,u4,u5,u6,u7,f1,f2,q102_ok W2.ok,wc]
  exact ⟨rfl,rfl,rfl,rfl,rfl,rfl,rfl,rfl⟩
 ·unfold q158 v158_0 v158_1 v158_2 v158_3 v158_4 v158_5 v158_7
  rw [i0,i1,i2,i3,i4,i5,i6,i7,j0,j1,j2,j3,j4,j5,j6,j7,g1,g2,q100_ok W2.ok,wc]
  exact ⟨rfl,rfl,rfl,rfl,rfl,rfl,rfl,rfl⟩
abbrev QS:=Int × List AV × List AV × List AV × List AV × List AV × Int × Int × Int
abbrev QI:=Int × List AV × List AV × List AV × Int × Int × Int × List AV × List AV
structure QInv (qs:List AV) (pol thr:Int) (s:QS) (s':QI):Prop where
 k0:0≤s.1
 k1:s.1≤qs.length
 ek:s'.1=s.1
 e0:s'.2.1=s.2.1
 e1:s'.2.2.1=s.2.2.1
 e2:s'.2.2.2.1=s.2.2.2.1
 e3:s'.2.2.2.2.1=pol∧s.2.2.2.2.2.2.1=pol
 e4:s'.2.2.2.2.2.1=thr∧s.2.2.2.2.2.2.2.1=thr
 e5:s'.2.2.2.2.2.2.1=s.2.2.2.2.2.2.2.2
 e6:s'.2.2.2.2.2.2.2.2=s.2.2.2.2.2.1
 l5:(s.2.2.2.2.1.length:Int)=s.1
 l6:(s.2.2.2.2.2.1.length:Int)=s.1
 l7:(s'.2.2.2.2.2.2.2.1.length:Int)=s.1
 c:Col s.2.1 s.2.2.1 s.2.2.2.1
 n:N2 s.2.2.2.1
 st:Sett pol thr s.2.2.2.2.2.2.2.2
structure QEnd (r:List AV × List AV × List AV × List AV × List AV × Int × Int × Int) (r':List AV × List AV × List AV × Int × Int × Int × List AV × List AV):Prop where
 e0:r'.1=r.1
 e1:r'.2.1=r.2.1
 e2:r'.2.2.1=r.2.2.1
 e4:r'.2.2.2.2.2.2.2=r.2.2.2.2.1
 l:r.2.2.2.2.1.length≤30
 c:Col r.1 r.2.1 r.2.2.1
theorem room24 (n:Nat) (y:AV) (h:n≤1048576):(decide ((n+[y].length)*24≤140737488355328) && decide (n+[y].length≤140737488355328))=true:=by
 simp only [List.length_singleton,Bool.and_eq_true,decide_eq_true_eq];omega
theorem room8 (n:Nat) (y:AV) (h:n≤1048576):(decide ((n+[y].length)*8≤140737488355328) && decide (n+[y].length≤140737488355328))=true:=by
 simp only [List.length_singleton,Bool.and_eq_true,decide_eq_true_eq];omega
theorem run_both {qs:List AV} (h30:qs.length≤30) (hq:∀ k:Int,0≤k→k<qs.length→(-1000≤fI (qs.getD k.toNat .undef) 0∧fI (qs.getD k.toNat .undef) 0≤1000)∧(-1000≤fI (qs.getD k.toNat .undef) 1∧fI (qs.getD k.toNat .undef) 1≤1000)∧v51_0 (fI (qs.getD k.toNat .undef) 0) (fI (qs.getD k.toNat .undef) 1)=true)
  {vs rs ps:List AV} (h:Col vs rs ps) (hN:N2 ps) {pol thr seed:Int} (hS:Sett pol thr seed) :
  ∃ r r',runW (R90_0 qs) (((qs.length:Int) - 0).toNat+1) (0,vs,rs,ps,[],[],pol,thr,seed)=some r∧runW (R131_0 qs qs.length) (((qs.length:Int) - 0).toNat+1) (0,vs,rs,ps,pol,thr,seed,[],[])=some r'∧QEnd r r':=by
 refine runW_pair (f:=R90_0 qs) (g:=R131_0 qs qs.length) (QInv qs pol thr) QEnd (fun s=>((qs.length:Int) - s.1).toNat) (fun s s' hI=>?_) _ _ _ _ ⟨Int.le_refl _,by simp,rfl,rfl,rfl,rfl,⟨rfl,rfl⟩,⟨rfl,rfl⟩,rfl,rfl,rfl,rfl,rfl,h,hN,hS⟩ (by simp only;omega) (by simp only;omega)
 obtain ⟨k,a0,a1,a2,h5,h6,p,t,sd⟩:=s
 obtain ⟨k',b0,b1,b2,p',t',sd',h7,h8⟩:=s'
 obtain ⟨k0,k1,ek,e0,e1,e2,⟨e3,e3'⟩,⟨e4,e4'⟩,e5,e6,l5,l6,l7,c,n,st⟩:=hI
 simp only at k0 k1 ek e0 e1 e2 e3 e3' e4 e4' e5 e6 l5 l6 l7 c n st
 subst ek e0 e1 e2 e3 e4 e5 e6 e3' e4'
 by_cases hk:k'<qs.length
 ·have d1:decide (k'<(qs.length:Int))=true:=decide_eq_true hk
  have d2:decide (0≤k')=true:=decide_eq_true k0
  have wk:IntKind.i64.wrap (k'+1)=k'+1:=wrap_in (by omega) (by omega)
  obtain ⟨r0,r1,r2⟩:=hq k' k0 hk
  obtain ⟨vs1,rs1,ps1,sd1,cst,S⟩:=sel_both c n st r0 r1 r2 k'
  obtain ⟨u0,u1,u2,u3,u4,u5,u6,u7⟩:=S.spec
  obtain ⟨w0,w1,w2,w3,w4,w5,w6,w7⟩:=S.imp
  refine .inl ⟨(k'+1,vs1,rs1,ps1,h5++[AV.sl [.int .i64] (v134_6 b0 b1 b2 p t sd' (fI (qs.getD k'.toNat AV.undef) 0) (fI (qs.getD k'.toNat AV.undef) 1))],h8++[AV.int .i64 cst],p,t,sd1),
   (k'+1,vs1,rs1,ps1,p,t,sd1,h7++[AV.sl [.int .i64] (v158_6 p t sd' (fI (qs.getD k'.toNat AV.undef) 0) (fI (qs.getD k'.toNat AV.undef) 1) b0 b1 b2 k')],h8++[AV.int .i64 cst]),?_,?_,?_,?_⟩
  ·simp only [R90_0,F90_0,G90_0,d1,d2,u0,u1,u2,u3,u4,u5,u6,u7,wk,Bool.and_self,cond_true,room24 h5.length _ (by omega),room8 h8.length _ (by omega)]
  ·simp only [R131_0,F131_0,G131_0,d1,d2,w0,w1,w2,w3,w4,w5,w6,w7,wk,Bool.and_self,cond_true,room24 h7.length _ (by omega),room8 h8.length _ (by omega)]
  ·exact ⟨by simp only;omega,by simp only;omega,rfl,rfl,rfl,rfl,⟨rfl,rfl⟩,⟨rfl,rfl⟩,rfl,rfl,by simp only [List.length_append,List.length_singleton];omega,by simp only [List.length_append,List.length_singleton];omega,by simp only [List.length_append,List.length_singleton];omega,S.ok,S.n2,S.st⟩
  ·simp only;omega
 ·have d1:decide (k'<(qs.length:Int))=false:=decide_eq_false hk
  refine .inr ⟨(b0,b1,b2,h5,h8,p,t,sd'),(b0,b1,b2,p,t,sd',h7,h8),?_,?_,rfl,rfl,rfl,rfl,by simp only;omega,c⟩
  ·simp only [R90_0,F90_0,G90_0,d1,cond_false]
  ·simp only [R131_0,F131_0,G131_0,d1,cond_false]
structure Rq (vs:List AV) (pol thr seed:Int) (qs vs' rs' ps' cs:List AV):Prop where
 ok:Col vs' rs' ps'
 l:cs.length≤30
 spec:q90 vs pol thr seed qs=true∧v90_0 vs pol thr seed qs=vs'∧v90_1 vs pol thr seed qs=rs'∧v90_2 vs pol thr seed qs=ps'∧v90_4 vs pol thr seed qs=cs
 imp:q88 vs pol thr seed qs=true∧v88_0 vs pol thr seed qs=vs'∧v88_1 vs pol thr seed qs=rs'∧v88_2 vs pol thr seed qs=ps'∧v88_4 vs pol thr seed qs=cs
theorem rq_both {vs qs:List AV} {pol thr seed:Int} (hl:vs.length≤1048576) (hq:qs.length≤1048576) (h1:v116_0 vs=true) (h2:v133_0 pol thr seed=true) (h3:v129_0 qs=true) :
  ∃ vs' rs' ps' cs,Rq vs pol thr seed qs vs' rs' ps' cs:=by
 obtain ⟨m0,m1⟩:=rng_ok hq h3
 obtain ⟨r,r',k1,k2,k3⟩:=run_both m0 m1 (Col_new vs hl h1) N2_nil ((sett_both pol thr seed).2.1 h2)
 obtain ⟨a0,a1,a2,a3⟩:=P125 vs hl
 obtain ⟨b0,b1,b2,b3⟩:=P157 vs hl
 obtain ⟨c0,c1⟩:=P87 vs pol thr seed qs hl hq
 obtain ⟨d0,d1⟩:=P116 vs hl
 obtain ⟨f0,f1⟩:=P129 qs hq
 rw [h1] at a1 a2 b1 b2
 simp only [cond_true] at a1 a2 b1 b2
 refine ⟨r.1,r.2.1,r.2.2.1,r.2.2.2.2.1,k3.c,k3.l,?_,?_⟩
 ·unfold q90 v90_0 v90_1 v90_2 v90_4
  rw [a0,a1,a2,a3,d0,f0,h1,h2,h3,k1]
  exact ⟨rfl,rfl,rfl,rfl,rfl⟩
 ·unfold q88 v88_0 v88_1 v88_2 v88_4 q131 v131_0 v131_1 v131_2 v131_4
  rw [b0,b1,b2,b3,c0,c1,h1,h2,h3,k2]
  exact ⟨rfl,k3.e0,k3.e1,k3.e2,k3.e4⟩
def cE (x:AV):AV := .int .i64 (fI x 1)
theorem step39 {vs qs:List AV} {seed:Int} (hl:vs.length≤1048576) (hq:qs.length≤1048576) (h1:v116_0 vs=true) (h2:v52_0 seed 0 10006=true) (h3:v129_0 qs=true) (b l t:Int) (t1:1≤t) (t2:t≤64) :
  ∃ b' l',R39_0 vs seed qs (b,l,t) = .next (b',l',t*2)∧R38_0 vs seed qs (b,l,t) = .next (b',l',t*2):=by
 have hs:v133_0 1 t seed=true:=by
  unfold v133_0
  rw [h2,show v52_0 1 0 2=true from rfl]
  unfold v52_0
  rw [decide_eq_true (by omega:t ≥ 1),decide_eq_true t2]
  rfl
 obtain ⟨vs',rs',ps',cs,W⟩:=rq_both hl hq h1 hs h3
 obtain ⟨s0,s1,s2,s3,s4⟩:=W.spec
 obtain ⟨i0,i1,i2,i3,i4⟩:=W.imp
 have lc:=W.l
 obtain ⟨x1,x2⟩:=P89 cs (by omega)
 have q84:q84 vs qs=true:=by
  unfold q84
  rw [(P116 vs hl).1,(P129 qs hq).1,h1]
  rfl
 have v84:v84_0 vs qs=true:=by
  unfold v84_0
  rw [h1,h3]
  rfl
 have w:IntKind.i64.wrap (t*2)=t*2:=wrap_in (by omega) (by omega)
 show ∃ b' l',F39_0 vs seed qs b l t=_∧F38_0 vs seed qs b l t=_
 unfold F39_0 G39_0 F38_0 G38_0
 rw [q84,v84,h2,s0,s4,i0,i4,P91 cs (by omega),x1,x2,decide_eq_true t2,w]
 simp only [cond_true]
 cases decide (b=0) with
 | true=>exact ⟨_,_,rfl,rfl⟩
 | false =>
  cases decide (v91_0 cs<l) with
  | true=>exact ⟨_,_,rfl,rfl⟩
  | false=>exact ⟨_,_,rfl,rfl⟩
theorem run39 {vs qs:List AV} {seed:Int} (hl:vs.length≤1048576) (hq:qs.length≤1048576) (h1:v116_0 vs=true) (h2:v52_0 seed 0 10006=true) (h3:v129_0 qs=true):∀ (n:Nat) (b l t:Int),1≤t→64<t*2 ^ n →
  ∃ p,runW (R39_0 vs seed qs) (n+1) (b,l,t)=some p∧runW (R38_0 vs seed qs) (n+1) (b,l,t)=some p:=by
 intro n
 induction n with
 | zero =>
  intro b l t t1 t2
  refine ⟨b,?_,?_⟩
  ·show (F39_0 vs seed qs b l t).el none _ some=_
   unfold F39_0 G39_0
   rw [decide_eq_false (by omega:¬ t≤64)]
   rfl
  ·show (F38_0 vs seed qs b l t).el none _ some=_
   unfold F38_0 G38_0
   rw [decide_eq_false (by omega:¬ t≤64)]
   rfl
 | succ n ih =>
  intro b l t t1 t2
  by_cases c:t≤64
  ·obtain ⟨b',l',e1,e2⟩:=step39 hl hq h1 h2 h3 b l t t1 c
   obtain ⟨p,p1,p2⟩:=ih b' l' (t*2) (by omega) (by rw [Int.mul_assoc,← Int.pow_succ'];exact t2)
   refine ⟨p,?_,?_⟩
   ·show (R39_0 vs seed qs (b,l,t)).el none (fun s=>runW (R39_0 vs seed qs) (n+1) s) some=_
    rw [e1]
    exact p1
   ·show (R38_0 vs seed qs (b,l,t)).el none (fun s=>runW (R38_0 vs seed qs) (n+1) s) some=_
    rw [e2]
    exact p2
  ·refine ⟨b,?_,?_⟩
   ·show (F39_0 vs seed qs b l t).el none _ some=_
    unfold F39_0 G39_0
    rw [decide_eq_false c]
    rfl
   ·show (F38_0 vs seed qs b l t).el none _ some=_
    unfold F38_0 G38_0
    rw [decide_eq_false c]
    rfl
theorem adv_both (vs qs:List AV) (seed:Int) (hl:vs.length≤1048576) (hq:qs.length≤1048576):q39 vs seed qs=true∧q38 vs seed qs=true∧v38_0 vs seed qs=v39_0 vs seed qs:=by
 obtain ⟨c0,c1⟩:=P87 vs 1 1 seed qs hl hq
 have hs:v133_0 1 1 seed=v52_0 seed 0 10006:=rfl
 rw [hs] at c1
 have no:(v84_0 vs qs=false∨v84_0 vs qs=true∧v52_0 seed 0 10006=false)→v87_0 vs 1 1 seed qs=false→q39 vs seed qs=true∧q38 vs seed qs=true∧v38_0 vs seed qs=v39_0 vs seed qs:=by
  intro h c
  have q84:q84 vs qs=true:=by
   unfold q84
   rw [(P116 vs hl).1,(P129 qs hq).1]
   cases v116_0 vs <;> rfl
  have e:runW (R39_0 vs seed qs) ((64 - 1+1:Int).toNat+1) (0,0,1)=some 0:=by
   show (F39_0 vs seed qs 0 0 1).el none _ some=_
   unfold F39_0 G39_0
   rw [q84]
   rcases h with h|⟨h,h'⟩
   ·rw [h]
    rfl
   ·rw [h,h']
    rfl
  unfold q39 v39_0 q38 v38_0
  rw [e,c0,c]
  exact ⟨rfl,rfl,rfl⟩
 cases h1:v116_0 vs with
 | false=>exact no (.inl (by unfold v84_0;rw [h1];rfl)) (by rw [c1,h1];rfl)
 | true =>
  cases h3:v129_0 qs with
  | false=>exact no (.inl (by unfold v84_0;rw [h1,h3];rfl)) (by rw [c1,h1,h3];simp)
  | true =>
   cases h2:v52_0 seed 0 10006 with
   | false=>exact no (.inr ⟨by unfold v84_0;rw [h1,h3];rfl,h2⟩) (by rw [c1,h2];simp)
   | true =>
    obtain ⟨p,p1,p2⟩:=run39 hl hq h1 h2 h3 64 0 0 1 (by omega) (by decide)
    rw [h1,h2,h3] at c1
    have f:(64 - 1+1:Int).toNat+1=64+1:=rfl
    unfold q39 v39_0 q38 v38_0
    rw [f,p1,p2,c0,c1]
    exact ⟨rfl,rfl,rfl⟩
end Go.Proofs.YtbmfgibbjchijaaGreat

namespace Go.Proofs.YtbmfgibbjchijaaGreat
open Go Go.Proofs.VE
set_option linter.unusedVariables false
set_option linter.unusedSimpArgs false
def pQ (xs:List AV) (v:Int) (i:Int):Bool:=v86_0 (fI (xs.getD i.toNat .undef) 0) (fI (xs.getD i.toNat .undef) 1) v
def dQ (i:Int):AV := .int .i64 i
theorem inR (a b v:Int):v34_0 a b v=v86_0 a b v:=by
 unfold v34_0 v86_0
 rw [isR_eq]
 unfold v51_0
 rw [v52,v52,v52]
 by_cases h1 : -1000≤a <;> by_cases h2:a≤1000 <;> by_cases h3:a≤b <;> by_cases h4:b≤1000 <;> simp [h1,h2,h3,h4]
 rw [wrap_in (a:=b - 1) (by omega) (by omega)]
 by_cases h5:a≤v <;> simp [h5]
 omega
theorem run85 (xs:List AV) (v:Int) (h:xs.length≤1048576) (hv:v129_0 xs=true):runW (R85_0 xs v) (((xs.length:Nat):Int) - 0).toNat.succ ((fun i ys=>(i,ys)) 0 [])=some (appF (pQ xs v) (dQ) xs.length 0 []) :=
 runW_app (f:=R85_0 xs v) (fun i ys=>(i,ys)) xs.length (pQ xs v) (dQ) (fun i ys h0 hn hl=>by
  have c1:(ys.length+[(dQ) i].length)*8≤140737488355328:=by simp only [List.length_singleton];omega
  have c2:ys.length+[(dQ) i].length≤140737488355328:=by simp only [List.length_singleton];omega
  simp only [dQ] at c1 c2
  simp only [R85_0,F85_0,G85_0,h0,hn,decide_true,Bool.and_self,cond_true,c1,c2,(P129 xs h).1,hv,inR]
  rw [wrap_in (a:=i+1) (by omega) (by omega)]
  rfl) (fun ys=>by simp only [R85_0,F85_0,G85_0,Int.lt_irrefl,decide_false,cond_false,(P129 xs h).1,hv,inR])
theorem run35 (xs:List AV) (v:Int) (h:xs.length≤1048576):runW (R35_0 v xs xs.length) (((xs.length:Nat):Int) - 0).toNat.succ ((fun i ys=>(i,ys)) 0 [])=some (appF (pQ xs v) (dQ) xs.length 0 []) :=
 runW_app (f:=R35_0 v xs xs.length) (fun i ys=>(i,ys)) xs.length (pQ xs v) (dQ) (fun i ys h0 hn hl=>by
  have c1:(ys.length+[(dQ) i].length)*8≤140737488355328:=by simp only [List.length_singleton];omega
  have c2:ys.length+[(dQ) i].length≤140737488355328:=by simp only [List.length_singleton];omega
  simp only [dQ] at c1 c2
  simp only [R35_0,F35_0,G35_0,h0,hn,decide_true,Bool.and_self,cond_true,c1,c2]
  rw [wrap_in (a:=i+1) (by omega) (by omega)]
  rfl) (fun ys=>by simp only [R35_0,F35_0,G35_0,Int.lt_irrefl,decide_false,cond_false])
theorem P85 (xs:List AV) (v:Int) (h:xs.length≤1048576):q85 xs v=true∧v85_0 xs v=bif v129_0 xs then appF (pQ xs v) dQ xs.length 0 [] else []:=by
 unfold q85 v85_0
 cases hv:v129_0 xs with
 | true =>
  have hr:=run85 xs v h hv
  rw [show ((xs.length:Int) - 0).toNat+1=((xs.length:Int) - 0).toNat.succ from rfl,hr]
  exact ⟨rfl,rfl⟩
 | false =>
  have hn:0<xs.length:=by
   cases xs with
   | nil=>rw [(P129 [] h).2] at hv;simp [findF] at hv
   | cons x xs=>simp
  have hr:∀ m,runW (R85_0 xs v) (m+1) (0,[])=some []:=fun m=>by
   have c:decide ((0:Int)<xs.length)=true:=decide_eq_true (by omega)
   show (R85_0 xs v (0,[])).el none _ some=_
   simp only [R85_0,F85_0,G85_0,c,(P129 xs h).1,hv,cond_true,cond_false]
   rfl
  rw [hr]
  exact ⟨rfl,rfl⟩
theorem P35 (xs:List AV) (v:Int) (h:xs.length≤1048576):q35 xs v=true∧v35_0 xs v=bif v129_0 xs then appF (pQ xs v) dQ xs.length 0 [] else []:=by
 unfold q35 v35_0
 have hr:=run35 xs v h
 rw [(P80 xs h).1,(P80 xs h).2,show ((xs.length:Int) - 0).toNat+1=((xs.length:Int) - 0).toNat.succ from rfl,hr]
 cases v129_0 xs <;> exact ⟨rfl,rfl⟩
theorem same85 (rs:List AV) (v:Int) (h:rs.length≤1048576):q85 rs v=true∧q35 rs v=true∧v35_0 rs v=v85_0 rs v∧(v85_0 rs v).length≤1048576:=by
 obtain ⟨b1,b2⟩:=P85 rs v h
 obtain ⟨c1,c2⟩:=P35 rs v h
 refine ⟨b1,c1,c2.trans b2.symm,?_⟩
 rw [b2]
 cases v129_0 rs
 ·simp
 ·exact Nat.le_trans (appF_len _ _ _) (by simpa using h)
def hN (rs:List AV) (v:Int):Int:=((v85_0 rs v).length:Int)
def dH (xs rs:List AV) (i:Int):AV := .int .i64 ((v85_0 rs (fI (xs.getD i.toNat .undef) 0)).length:Int)
theorem rmH8 (X:List AV) (a:AV) (h:X.length≤1048577):(decide ((X.length+[a].length)*8≤140737488355328) && decide (X.length+[a].length≤140737488355328))=true:=by
 simp only [List.length_singleton,Bool.and_eq_true,decide_eq_true_eq]
 omega
theorem run28 (xs rs:List AV) (h:xs.length≤1048576) (h':rs.length≤1048576):runW (R28_0 rs xs xs.length) (((xs.length:Int) - 0).toNat+1) (0,[])=some (appF allT (dH xs rs) xs.length 0 []):=by
 refine runW_appK (fun i ys=>(i,ys)) (fun ys=>ys) xs.length allT (dH xs rs) (fun i ys h0 hn hl=>?_) (fun ys=>?_)
 ·have d1:decide (i<(xs.length:Int))=true:=decide_eq_true hn
  have d2:decide (0≤i)=true:=decide_eq_true h0
  simp only [R28_0,F28_0,G28_0,d1,d2,(same85 rs _ h').2.1,(same85 rs _ h').2.2.1,rmH8 ys _ (by omega),Bool.and_self,cond_true,allT]
  rw [wrap_in (a:=i+1) (by omega) (by omega)]
  rfl
 ·simp only [R28_0,F28_0,G28_0,Int.lt_irrefl,decide_false,cond_false]
def heat (xs rs:List AV):List AV:=appF allT (dH xs rs) xs.length 0 []
theorem heat_len (xs rs:List AV):(heat xs rs).length=xs.length:=by unfold heat;rw [appF_all];simp
theorem heat_el (xs rs:List AV) (k:Int) (h0:0≤k) (h1:k<xs.length):el (heat xs rs) k=hN rs (el xs k):=by
 unfold el heat
 rw [appF_all,List.nil_append,List.getD_eq_getElem?_getD,List.getElem?_map,List.getElem?_range (by omega)]
 simp only [Option.map_some,Option.getD_some]
 unfold dH
 show ((v85_0 rs (fI (xs.getD (0+(k.toNat:Int)).toNat .undef) 0)).length:Int)=_
 rw [show (0+(k.toNat:Int)).toNat=k.toNat by omega]
 rfl
theorem P28 (xs rs:List AV) (h:xs.length≤1048576) (h':rs.length≤1048576):q28 xs rs=true∧v28_0 xs rs=bif v116_0 xs && v129_0 rs then heat xs rs else []:=by
 unfold q28 v28_0
 rw [(P79 xs h).1,(P79 xs h).2,(P80 rs h').1,(P80 rs h').2,run28 xs rs h h']
 unfold heat
 cases v116_0 xs <;> cases v129_0 rs <;> exact ⟨rfl,rfl⟩
theorem P84 (xs rs:List AV) (h:xs.length≤1048576) (h':rs.length≤1048576):q84 xs rs=true∧v84_0 xs rs=(v116_0 xs && v129_0 rs):=by
 unfold q84 v84_0
 rw [(P116 xs h).1,(P129 rs h').1]
 cases v116_0 xs <;> simp
theorem PMxH (xs:List AV) (h:xs.length≤1048576) (hn:0<xs.length):q81 xs=true∧(∀ k:Int,0≤k→k<xs.length→el xs k≤v81_0 xs)∧∃ k:Int,0≤k∧k<xs.length∧el xs k=v81_0 xs:=by
 obtain ⟨r,h1,h2,h3⟩:=runW_ends (f:=R81_0 xs) (fun s:Int × Int=>1≤s.2∧s.2≤xs.length∧(∀ k:Int,0≤k→k<s.2→el xs k≤s.1)∧∃ k:Int,0≤k∧k<xs.length∧el xs k=s.1) (fun r=>(∀ k:Int,0≤k→k<xs.length→el xs k≤r)∧∃ k:Int,0≤k∧k<xs.length∧el xs k=r) (fun s=>((xs.length:Int) - s.2).toNat) (fun s hI=>by
   obtain ⟨m,i⟩:=s
   obtain ⟨i0,i1,hm,he⟩:=hI
   simp only at i0 i1 hm he
   by_cases hi:i<xs.length
   ·have d1:decide (i<(xs.length:Int))=true:=decide_eq_true hi
    have d2:decide (0≤i)=true:=decide_eq_true (by omega)
    have wi:IntKind.i64.wrap (i+1)=i+1:=wrap_in (by omega) (by omega)
    have f1:fI (xs.getD i.toNat AV.undef) 0=el xs i:=rfl
    refine .inl ⟨(if el xs i > m then el xs i else m,i+1),by simp only [R81_0,F81_0,G81_0,d1,d2,f1,wi,Bool.and_self,cond_true],⟨by simp only;omega,by simp only;omega,fun k k0 k1=>?_,?_⟩,by simp only;omega⟩
    ·simp only at k1 ⊢
     by_cases e:k=i
     ·subst e;split <;> omega
     ·have:=hm k k0 (by omega)
      split <;> omega
    ·simp only
     split
     ·exact ⟨i,by omega,hi,rfl⟩
     ·exact he
   ·have d1:decide (i<(xs.length:Int))=false:=decide_eq_false hi
    exact .inr ⟨m,by simp only [R81_0,F81_0,G81_0,d1,cond_false],fun k k0 k1=>hm k k0 (by omega),he⟩) (((xs.length:Int) - 1).toNat+1) (el xs 0,1) ⟨Int.le_refl _,by simp only;omega,fun k k0 k1=>by simp only at k1 ⊢;rw [show k=0 by omega];exact Int.le_refl _,0,Int.le_refl _,by omega,rfl⟩ (by simp only;omega)
 have e0:fI (xs.getD (0:Int).toNat AV.undef) 0=el xs 0:=rfl
 unfold q81 v81_0
 rw [e0,h1,decide_eq_false (show ¬ (xs.length:Int)<1 by omega),decide_eq_true (show (0:Int)<xs.length by omega)]
 exact ⟨rfl,h2,h3⟩
theorem PIxH (xs:List AV) (v:Int) (h:xs.length≤1048576) (hv:∃ j:Int,0≤j∧j<xs.length∧el xs j=v):q83 xs v=true∧0≤v83_0 xs v∧v83_0 xs v<xs.length∧el xs (v83_0 xs v)=v:=by
 have hr:runW (R83_0 xs v xs.length) (((xs.length:Int) - 0).toNat+1) 0=some (ro (findF (fun i=>decide (v=fI (xs.getD i.toNat .undef) 0)) xs.length 0) (.inl ()) fun i => .inr i):=by
  refine runW_find (fun i=>i) xs.length _ _ _ (fun i h0 hn=>?_) ?_ xs.length _ 0 (Int.le_refl 0) (by omega) (by omega)
  ·simp only [R83_0,F83_0,G83_0,h0,hn,decide_true,Bool.and_self,cond_true]
   rw [wrap_in (a:=i+1) (by omega) (by omega)]
  ·simp only [R83_0,F83_0,G83_0,Int.lt_irrefl,decide_false,cond_false]
 unfold q83 v83_0
 rw [hr]
 cases hf:findF (fun i=>decide (v=fI (xs.getD i.toNat .undef) 0)) xs.length 0 with
 | none =>
  exfalso
  obtain ⟨j,j0,j1,e⟩:=hv
  have:(findF (fun i=>decide (v=fI (xs.getD i.toNat .undef) 0)) xs.length 0).isNone=true:=by rw [hf];rfl
  have:=(findF_isNone _ _).1 this j j0 (by omega)
  exact of_decide_eq_false this e.symm
 | some j =>
  obtain ⟨a,b,c⟩:=findF_some _ _ hf
  exact ⟨rfl,a,by simp only [ro,sumE];omega,(of_decide_eq_true c).symm⟩
theorem run30 (ls rs:List AV) (h:ls.length≤1048576) (h':rs.length≤1048576) (hn:0<ls.length) (x y:Int):∃ r:Int × Int,runW (R30_0 rs x y ls) (((ls.length:Int) - 0).toNat+1) (0,-1,0)=some r ∧
  (0≤r.1∧r.1<ls.length∧r.2=hN rs (el ls r.1))∧(∀ k:Int,0≤k→k<ls.length→hN rs (el ls k)≤r.2)∧∀ k:Int,0≤k→k<r.1→hN rs (el ls k)<r.2:=by
 refine runW_ends (f:=R30_0 rs x y ls) (fun s:Int × Int × Int=>0≤s.2.2∧s.2.2≤ls.length∧((s.2.2=0∧s.1=0∧s.2.1 = -1)∨(0≤s.1∧s.1<s.2.2∧s.2.1=hN rs (el ls s.1)))∧(∀ k:Int,0≤k→k<s.2.2→hN rs (el ls k)≤s.2.1)∧∀ k:Int,0≤k→k<s.1→hN rs (el ls k)<s.2.1) _ (fun s=>((ls.length:Int) - s.2.2).toNat) (fun s hI=>?_) _ (0,-1,0)
  ⟨Int.le_refl _,by simp,.inl ⟨rfl,rfl,rfl⟩,fun k k0 k1=>by simp only at k1;omega,fun k k0 k1=>by simp only at k1;omega⟩ (by simp)
 obtain ⟨f,m,i⟩:=s
 obtain ⟨i0,i1,hf,hm,hl⟩:=hI
 simp only at i0 i1 hf hm hl
 by_cases hi:i<ls.length
 ·have d1:decide (i<(ls.length:Int))=true:=decide_eq_true hi
  have d2:decide (0≤i)=true:=decide_eq_true i0
  have wi:IntKind.i64.wrap (i+1)=i+1:=wrap_in (by omega) (by omega)
  have f1:fI (ls.getD i.toNat AV.undef) 0=el ls i:=rfl
  have f2:((v85_0 rs (el ls i)).length:Int)=hN rs (el ls i):=rfl
  by_cases hg:hN rs (el ls i) > m
  ·have d3:decide (hN rs (el ls i) > m)=true:=decide_eq_true hg
   refine .inl ⟨(i,hN rs (el ls i),i+1),by simp only [R30_0,F30_0,G30_0,d1,d2,f1,f2,d3,wi,(same85 rs _ h').1,Bool.and_self,cond_true],⟨by simp only;omega,by simp only;omega,.inr ⟨i0,by simp only;omega,rfl⟩,fun k k0 k1=>?_,fun k k0 k1=>?_⟩,by simp only;omega⟩
   ·simp only at k1 ⊢
    by_cases e:k=i
    ·rw [e];exact Int.le_refl _
    ·have:=hm k k0 (by omega);omega
   ·simp only at k1 ⊢
    have:=hm k k0 (by omega)
    omega
  ·have d3:decide (hN rs (el ls i) > m)=false:=decide_eq_false hg
   refine .inl ⟨(f,m,i+1),by simp only [R30_0,F30_0,G30_0,d1,d2,f1,f2,d3,wi,(same85 rs _ h').1,Bool.and_self,cond_true,cond_false],⟨by simp only;omega,by simp only;omega,?_,fun k k0 k1=>?_,hl⟩,by simp only;omega⟩
   ·rcases hf with ⟨e1,e2,e3⟩|⟨e1,e2,e3⟩
    ·exfalso
     have:(0:Int)≤hN rs (el ls i):=by unfold hN;omega
     omega
    ·exact .inr ⟨e1,by simp only;omega,e3⟩
   ·simp only at k1 ⊢
    by_cases e:k=i
    ·rw [e];omega
    ·exact hm k k0 (by omega)
 ·have d1:decide (i<(ls.length:Int))=false:=decide_eq_false hi
  refine .inr ⟨(f,m),by simp only [R30_0,F30_0,G30_0,d1,cond_false],?_,fun k k0 k1=>hm k k0 (by omega),hl⟩
  rcases hf with ⟨e1,e2,e3⟩|⟨e1,e2,e3⟩
  ·omega
  ·exact ⟨e1,by simp only;omega,e3⟩
theorem run30l (ls rs:List AV) (h:ls.length≤1048576) (h':rs.length≤1048576) (f m x y:Int) (f0:0≤f) (f1:f<ls.length) (hm:m=hN rs (el ls f)):∃ r:(Int × List AV) ⊕ Int,runW (R30_2 rs f m x y ls) (((ls.length:Int) - (f+1)).toNat+1) f=some r ∧
  ∃ l:Int,(f≤l∧l<ls.length)∧(∀ k:Int,f≤k→k≤l→hN rs (el ls k)=m)∧(l+1<ls.length→hN rs (el ls (l+1)) ≠ m)∧((∃ z,r = .inl (l,z))∨r = .inr l):=by
 refine runW_ends (f:=R30_2 rs f m x y ls) (fun s:Int=>f≤s∧s<ls.length∧∀ k:Int,f≤k→k≤s→hN rs (el ls k)=m) _ (fun s=>((ls.length:Int) - (s+1)).toNat) (fun i hI=>?_) _ f ⟨Int.le_refl _,f1,fun k k0 k1=>by rw [show k=f by omega];exact hm.symm⟩ (by omega)
 obtain ⟨i0,i1,hk⟩:=hI
 have wi:IntKind.i64.wrap (i+1)=i+1:=wrap_in (by omega) (by omega)
 by_cases hi:i+1<ls.length
 ·have d1:decide (i+1<(ls.length:Int))=true:=decide_eq_true hi
  have d2:decide (0≤i+1)=true:=decide_eq_true (by omega)
  have g1:fI (ls.getD (i+1).toNat AV.undef) 0=el ls (i+1):=rfl
  have g2:((v85_0 rs (el ls (i+1))).length:Int)=hN rs (el ls (i+1)):=rfl
  by_cases hg:hN rs (el ls (i+1))=m
  ·have d3:decide (hN rs (el ls (i+1))=m)=true:=decide_eq_true hg
   refine .inl ⟨i+1,by simp only [R30_2,F30_2,G30_2,wi,d1,d2,g1,g2,d3,(same85 rs _ h').1,Bool.and_self,cond_true],⟨by omega,by omega,fun k k0 k1=>?_⟩,by omega⟩
   by_cases e:k=i+1
   ·rw [e];exact hg
   ·exact hk k k0 (by omega)
  ·have d3:decide (hN rs (el ls (i+1))=m)=false:=decide_eq_false hg
   exact .inr ⟨_,by simp only [R30_2,F30_2,G30_2,wi,d1,d2,g1,g2,d3,(same85 rs _ h').1,Bool.and_self,cond_true,cond_false] <;> rfl,i,⟨i0,i1⟩,hk,fun _=>hg,.inl ⟨_,rfl⟩⟩
 ·have d1:decide (i+1<(ls.length:Int))=false:=decide_eq_false hi
  exact .inr ⟨_,by simp only [R30_2,F30_2,G30_2,wi,d1,cond_false] <;> rfl,i,⟨i0,i1⟩,hk,fun e=>absurd e hi,.inr rfl⟩
theorem run29 (xs rs:List AV) (h:xs.length≤1048576) (hv:∀ k:Int,0≤k→k<xs.length→el xs k≤999) (hot x y:Int) (he:∃ k:Int,0≤k∧k<xs.length∧hN rs (el xs k)=hot):∃ low:Int,runW (R29_0 xs hot xs xs.length x y (heat xs rs)) (((xs.length:Int) - 0).toNat+1) (1000,0)=some low ∧
  (∀ k:Int,0≤k→k<xs.length→hN rs (el xs k)=hot→low≤el xs k)∧∃ k:Int,0≤k∧k<xs.length∧hN rs (el xs k)=hot∧el xs k=low:=by
 have hl:=heat_len xs rs
 obtain ⟨r,h1,h2,h3⟩:=runW_ends (f:=R29_0 xs hot xs xs.length x y (heat xs rs)) (fun s:Int × Int=>0≤s.2∧s.2≤xs.length∧(∀ k:Int,0≤k→k<s.2→hN rs (el xs k)=hot→s.1≤el xs k)∧(s.1=1000∨∃ k:Int,0≤k∧k<xs.length∧hN rs (el xs k)=hot∧el xs k=s.1)) (fun r=>(∀ k:Int,0≤k→k<xs.length→hN rs (el xs k)=hot→r≤el xs k)∧(r=1000∨∃ k:Int,0≤k∧k<xs.length∧hN rs (el xs k)=hot∧el xs k=r)) (fun s=>((xs.length:Int) - s.2).toNat) (fun s hI=>by
   obtain ⟨m,i⟩:=s
   obtain ⟨i0,i1,hm,hx⟩:=hI
   simp only at i0 i1 hm hx
   by_cases hi:i<xs.length
   ·have d1:decide (i<(xs.length:Int))=true:=decide_eq_true hi
    have d2:decide (0≤i)=true:=decide_eq_true i0
    have d3:decide (i<((heat xs rs).length:Int))=true:=decide_eq_true (by omega)
    have wi:IntKind.i64.wrap (i+1)=i+1:=wrap_in (by omega) (by omega)
    have g1:fI (xs.getD i.toNat AV.undef) 0=el xs i:=rfl
    have g2:fI ((heat xs rs).getD i.toNat AV.undef) 0=hN rs (el xs i):=heat_el xs rs i i0 hi
    by_cases hg:hN rs (el xs i)=hot
    ·have d4:decide (hN rs (el xs i)=hot)=true:=decide_eq_true hg
     refine .inl ⟨(if el xs i<m then el xs i else m,i+1),by simp only [R29_0,F29_0,G29_0,d1,d2,d3,g1,g2,d4,wi,Bool.and_self,cond_true],⟨by simp only;omega,by simp only;omega,fun k k0 k1 e=>?_,?_⟩,by simp only;omega⟩
     ·simp only at k1 ⊢
      by_cases e':k=i
      ·subst e';split <;> omega
      ·have:=hm k k0 (by omega) e
       split <;> omega
     ·simp only
      split
      ·exact .inr ⟨i,i0,hi,hg,rfl⟩
      ·exact hx
    ·have d4:decide (hN rs (el xs i)=hot)=false:=decide_eq_false hg
     refine .inl ⟨(m,i+1),by simp only [R29_0,F29_0,G29_0,d1,d2,d3,g1,g2,d4,wi,Bool.and_self,cond_true,cond_false],⟨by simp only;omega,by simp only;omega,fun k k0 k1 e=>?_,hx⟩,by simp only;omega⟩
     simp only at k1 ⊢
     exact hm k k0 (by
              by_cases e':k=i;· subst e';exact absurd e hg
              ·omega) e
   ·have d1:decide (i<(xs.length:Int))=false:=decide_eq_false hi
    exact .inr ⟨m,by simp only [R29_0,F29_0,G29_0,d1,cond_false],fun k k0 k1=>hm k k0 (by omega),hx⟩) (((xs.length:Int) - 0).toNat+1) (1000,0) ⟨Int.le_refl _,by simp,fun k k0 k1=>by simp only at k1;omega,.inl rfl⟩ (by simp)
 refine ⟨r,h1,h2,?_⟩
 rcases h3 with h3|h3
 ·exfalso
  obtain ⟨k,k0,k1,k2⟩:=he
  have:=h2 k k0 k1 k2
  have:=hv k k0 k1
  omega
 ·exact h3
theorem run29l (xs rs ls:List AV) (h:xs.length≤1048576) (h':rs.length≤1048576) (hs:ints ls=srt xs) (hll:ls.length=xs.length) (hot x y f l:Int) (f0:0≤f) (fl:f≤l) (l1:l<ls.length) (hb:∀ k:Int,0≤k→k<f→el ls k<el ls f) (hk:∀ k:Int,f≤k→k≤l→hN rs (el ls k)=hot) (he:l+1<ls.length→hN rs (el ls (l+1)) ≠ hot) :
  runW (R29_2 xs hot (el ls f) ls.length x y (heat xs rs) ls) (((ls.length:Int) - 0).toNat+1) (el ls f,0)=some (el ls l):=by
 have ha:=asc_of hs
 have hin:=(srt_in hs).1
 have hhl:=heat_len xs rs
 obtain ⟨r,h1,h2⟩:=runW_ends (f:=R29_2 xs hot (el ls f) ls.length x y (heat xs rs) ls) (fun s:Int × Int=>0≤s.2∧s.2≤l+1∧s.1=if s.2≤f then el ls f else el ls (s.2 - 1)) (fun r=>r=el ls l) (fun s=>((ls.length:Int) - s.2).toNat) (fun s hI=>by
   obtain ⟨hi_,i⟩:=s
   obtain ⟨i0,i1,e⟩:=hI
   simp only at i0 i1 e
   by_cases hi:i<ls.length
   ·have d1:decide (i<(ls.length:Int))=true:=decide_eq_true hi
    have d2:decide (0≤i)=true:=decide_eq_true i0
    have wi:IntKind.i64.wrap (i+1)=i+1:=wrap_in (by omega) (by omega)
    have g1:fI (ls.getD i.toNat AV.undef) 0=el ls i:=rfl
    by_cases hf:i<f
    ·have d3:decide (el ls i<el ls f)=true:=decide_eq_true (hb i i0 hf)
     refine .inl ⟨(hi_,i+1),by simp only [R29_2,F29_2,G29_2,d1,d2,g1,d3,wi,Bool.and_self,cond_true],⟨by simp only;omega,by simp only;omega,?_⟩,by simp only;omega⟩
     simp only
     rw [e,if_pos (by omega),if_pos (by omega)]
    ·have hge:el ls f≤el ls i:=by
      by_cases e1:i=f
      ·rw [e1];exact Int.le_refl _
      ·exact ha f i f0 (by omega) hi
     have d3:decide (el ls i<el ls f)=false:=decide_eq_false (by omega)
     obtain ⟨p1,p2,p3,p4⟩:=PIxH xs (el ls i) h (hin i i0 hi)
     have d4:decide (0≤v83_0 xs (el ls i))=true:=decide_eq_true p2
     have d5:decide (v83_0 xs (el ls i)<((heat xs rs).length:Int))=true:=decide_eq_true (by omega)
     have g2:fI ((heat xs rs).getD (v83_0 xs (el ls i)).toNat AV.undef) 0=hN rs (el ls i):=by
      have:=heat_el xs rs (v83_0 xs (el ls i)) p2 p3
      rw [p4] at this
      exact this
     by_cases hil:i≤l
     ·have d6:decide (hN rs (el ls i)=hot)=true:=decide_eq_true (hk i (by omega) hil)
      refine .inl ⟨(el ls i,i+1),by simp only [R29_2,F29_2,G29_2,d1,d2,g1,d3,p1,d4,d5,g2,d6,wi,Bool.and_self,Bool.not_true,cond_true,cond_false],⟨by simp only;omega,by simp only;omega,?_⟩,by simp only;omega⟩
      simp only
      rw [if_neg (by omega),show i+1 - 1=i by omega]
     ·have d6:decide (hN rs (el ls i)=hot)=false:=decide_eq_false (by rw [show i=l+1 by omega];exact he (by omega))
      refine .inr ⟨hi_,by simp only [R29_2,F29_2,G29_2,d1,d2,g1,d3,p1,d4,d5,g2,d6,Bool.and_self,Bool.not_false,cond_true,cond_false],?_⟩
      rw [e,if_neg (by omega),show i - 1=l by omega]
   ·have d1:decide (i<(ls.length:Int))=false:=decide_eq_false hi
    refine .inr ⟨hi_,by simp only [R29_2,F29_2,G29_2,d1,cond_false],?_⟩
    rw [e,if_neg (by omega),show i - 1=l by omega]) (((ls.length:Int) - 0).toNat+1) (el ls f,0) ⟨Int.le_refl _,by simp only;omega,by simp only;rw [if_pos f0]⟩ (by simp)
 rw [h1,h2]
theorem same30 (xs rs:List AV) (h:xs.length≤1048576) (h':rs.length≤1048576) :
  q30 xs rs=true∧q29 xs rs=true∧v29_0 xs rs=v30_0 xs rs∧v29_1 xs rs=v30_1 xs rs∧v29_2 xs rs=v30_2 xs rs:=by
 obtain ⟨a1,a2,a3⟩:=P77 xs h
 obtain ⟨b1,b2,b3⟩:=P82 xs h
 obtain ⟨c1,c2⟩:=P28 xs rs h h'
 obtain ⟨d1,d2⟩:=P84 xs rs h h'
 unfold q30 q29 v30_0 v30_1 v30_2 v29_0 v29_1 v29_2
 rw [a1,b1,c1,c2,d1,d2]
 have hv103:=(P116 xs h).2
 cases hv:v116_0 xs with
 | false =>
  simp only [Bool.false_and,Bool.not_false,cond_true,cond_false,List.length_nil,Bool.and_self]
  refine ⟨?_,?_,?_,?_,?_⟩ <;> first|trivial|rfl
 | true =>
  cases hr:v129_0 rs with
  | false =>
   simp only [Bool.and_false,Bool.not_false,cond_true,cond_false,List.length_nil,Bool.and_self]
   refine ⟨?_,?_,?_,?_,?_⟩ <;> first|trivial|rfl
  | true =>
   have hhl:=heat_len xs rs
   simp only [Bool.and_self,Bool.not_true,cond_true,cond_false,hhl]
   by_cases hz:(xs.length:Int)=0
   ·rw [decide_eq_true hz]
    simp only [cond_true,Bool.and_self]
    refine ⟨?_,?_,?_,?_,?_⟩ <;> first|trivial|rfl
   ·rw [decide_eq_false hz]
    simp only [cond_false]
    have hn:0<xs.length:=by omega
    rw [hv] at hv103
    have hv103:=hv103.symm
    rw [Bool.and_eq_true,findF_isNone] at hv103
    have hval:∀ k:Int,0≤k→k<xs.length→el xs k≤999:=fun k k0 k1=>by
     have:=hv103.1 k k0 (by omega)
     simp only [v52,Bool.not_eq_false',Bool.and_eq_true,decide_eq_true_eq] at this
     exact this.2
    have e12:ints (v77_0 xs)=ints (v82_0 xs):=a3.trans b3.symm
    obtain ⟨⟨f,m⟩,g1,⟨g2,g3,g4⟩,g5,g6⟩:=run30 (v77_0 xs) rs (by omega) h' (by omega) 0 0
    simp only at g2 g3 g4 g5 g6
    obtain ⟨r,i1,l,⟨i2,i3⟩,i4,i5,i6⟩:=run30l (v77_0 xs) rs (by omega) h' f m 0 0 g2 g3 g4
    obtain ⟨j1,j2,j3⟩:=PMxH (heat xs rs) (by omega) (by omega)
    generalize hhot:v81_0 (heat xs rs)=hot at j2 j3
    have in1:=srt_in a3
    have hotm:hot=m:=by
     obtain ⟨k,k0,k1,e⟩:=j3
     rw [heat_el xs rs k k0 (by omega)] at e
     obtain ⟨j,j0,j1',e'⟩:=in1.2 k k0 (by omega)
     have u1:=g5 j j0 (by omega)
     rw [e',e] at u1
     obtain ⟨p,p0,p1,e''⟩:=in1.1 f g2 (by omega)
     have u2:=j2 p p0 (by omega)
     rw [heat_el xs rs p p0 p1,e'',← g4] at u2
     omega
    subst hotm
    obtain ⟨low,k1,k2,k3⟩:=run29 xs rs h hval hot 0 0 (by
     obtain ⟨k,k0,k1,e⟩:=j3
     rw [heat_el xs rs k k0 (by omega)] at e
     exact ⟨k,k0,by omega,e⟩)
    have hlow:low=el (v77_0 xs) f:=by
     obtain ⟨k,q0,q1,q2,q3⟩:=k3
     obtain ⟨j,j0,j1',e'⟩:=in1.2 k q0 q1
     have ha:=asc_of a3
     have hjf:f≤j:=by
      rcases Int.lt_or_le j f with w|w
      ·have:=g6 j j0 w;rw [e',q2] at this;omega
      ·exact w
     have u1:el (v77_0 xs) f≤low:=by
      rw [← q3,← e']
      by_cases w:j=f
      ·rw [w];exact Int.le_refl _
      ·exact ha f j g2 (by omega) j1'
     obtain ⟨p,p0,p1,e''⟩:=in1.1 f g2 (by omega)
     have u2:=k2 p p0 p1 (by rw [e'',← g4])
     omega
    have eS:∀ k:Int,0≤k→k<xs.length→el (v82_0 xs) k=el (v77_0 xs) k:=fun k k0 k1=>(el_ints e12 k k0 (by omega)).symm
    have hb:∀ k:Int,0≤k→k<f→el (v77_0 xs) k<el (v77_0 xs) f:=fun k k0 k1=>by
     have ha:=asc_of a3 k f k0 k1 (by omega)
     have u:=g6 k k0 k1
     rcases Int.lt_or_eq_of_le ha with w|w
     ·exact w
     ·rw [w,← g4] at u;omega
    have key:=run29l xs rs (v82_0 xs) h h' b3 b2 hot 0 0 f l g2 i2 (by omega) (fun k k0 k1=>by rw [eS k k0 (by omega),eS f g2 (by omega)];exact hb k k0 k1) (fun k k0 k1=>by rw [eS k (by omega) (by omega)];exact i4 k k0 k1) (fun e=>by rw [eS (l+1) (by omega) (by omega)];exact i5 (by omega))
    rw [eS f g2 (by omega),eS l (by omega) (by omega)] at key
    rw [g1]
    simp only [ro,hhot,j1]
    rw [k1]
    simp only [hlow,wrap_in (a:=f+1) (by omega) (by omega)]
    rw [i1,key]
    have c0:decide (0≤f)=true:=decide_eq_true g2
    have c1':decide (f<((v77_0 xs).length:Int))=true:=decide_eq_true g3
    have c2':decide (0≤l)=true:=decide_eq_true (by omega)
    have c3':decide (l<((v77_0 xs).length:Int))=true:=decide_eq_true i3
    rcases i6 with ⟨z,rfl⟩|rfl
    ·simp only [sumE,c0,c1',c2',c3',Bool.and_self]
     refine ⟨?_,?_,?_,?_,?_⟩ <;> first|trivial|rfl
    ·simp only [sumE,c0,c1',c2',c3',Bool.and_self]
     refine ⟨?_,?_,?_,?_,?_⟩ <;> first|trivial|rfl
end Go.Proofs.YtbmfgibbjchijaaGreat

namespace Go.Proofs.YtbmfgibbjchijaaGreat
open Go Go.Proofs.VE
set_option linter.unusedVariables false
set_option linter.unusedSimpArgs false
theorem isR_of {a b:Int} (h:v51_0 a b=true) : -1000≤a∧a≤b∧b≤1000:=by
 unfold v51_0 at h
 rw [v52,v52] at h
 cases hc:(decide (-1000≤a) && decide (a≤1000)) with
 | false=>rw [hc] at h;cases h
 | true =>
  rw [hc] at h
  simp only [cond_true,Bool.and_eq_true,decide_eq_true_eq] at h hc
  exact ⟨hc.1,h.1,h.2⟩
def cnt (p:Int→Bool):Nat→Int→Nat
 | 0,_=>0
 | m+1,i=>(bif p i then 1 else 0)+cnt p m (i+1)
theorem appF_cnt {p:Int→Bool} {c:Int→AV}:∀ (m:Nat) (i:Int) (ys:List AV),(appF p c m i ys).length=ys.length+cnt p m i
 | 0,_,_=>rfl
 | m+1,i,ys=>by
  show (appF p c m (i+1) (bif p i then ys++[c i] else ys)).length=ys.length+((bif p i then 1 else 0)+cnt p m (i+1))
  rw [appF_cnt m]
  cases p i
  ·simp
  ·simp only [cond_true,List.length_append,List.length_singleton]
   omega
theorem cnt_le (p:Int→Bool):∀ (m:Nat) (i:Int),cnt p m i≤m
 | 0,_=>Nat.le_refl 0
 | m+1,i=>by
  have:=cnt_le p m (i+1)
  show (bif p i then 1 else 0)+cnt p m (i+1)≤m+1
  cases p i
  ·simp only [cond_false]
   omega
  ·simp only [cond_true]
   omega
def sumN (g:Int→Nat):Nat→Int→Nat
 | 0,_=>0
 | m+1,i=>g i+sumN g m (i+1)
theorem sumN_add (f g:Int→Nat):∀ (m:Nat) (i:Int),sumN (fun k=>f k+g k) m i=sumN f m i+sumN g m i
 | 0,_=>rfl
 | m+1,i=>by
  show f i+g i+sumN (fun k=>f k+g k) m (i+1)=f i+sumN f m (i+1)+(g i+sumN g m (i+1))
  rw [sumN_add f g m (i+1)]
  omega
theorem sumN_zero:∀ (m:Nat) (i:Int),sumN (fun _=>0) m i=0
 | 0,_=>rfl
 | m+1,i=>by
  show 0+sumN (fun _=>0) m (i+1)=0
  rw [sumN_zero m (i+1)]
theorem sumN_cnt (p:Int→Bool):∀ (m:Nat) (i:Int),sumN (fun k=>bif p k then 1 else 0) m i=cnt p m i
 | 0,_=>rfl
 | m+1,i=>by
  show (bif p i then 1 else 0)+sumN (fun k=>bif p k then 1 else 0) m (i+1)=(bif p i then 1 else 0)+cnt p m (i+1)
  rw [sumN_cnt p m (i+1)]
theorem sumN_swap (P:Int→Int→Bool) (M:Nat) (j:Int):∀ (N:Nat) (i:Int),sumN (fun k=>cnt (P k) M j) N i=sumN (fun q=>cnt (fun k=>P k q) N i) M j
 | 0,i=>by
  show 0=sumN (fun _=>0) M j
  rw [sumN_zero]
 | N+1,i=>by
  show cnt (P i) M j+sumN (fun k=>cnt (P k) M j) N (i+1)=sumN (fun q=>(bif P i q then 1 else 0)+cnt (fun k=>P k q) N (i+1)) M j
  rw [sumN_add,sumN_cnt,sumN_swap P M j N (i+1)]
theorem sumN_snoc (g:Int→Nat):∀ (m:Nat) (i:Int),sumN g (m+1) i=sumN g m i+g (i+m)
 | 0,i=>by
  show g i+0=0+g (i+((0:Nat):Int))
  rw [show i+((0:Nat):Int)=i by omega]
  omega
 | m+1,i=>by
  show g i+sumN g (m+1) (i+1)=g i+sumN g m (i+1)+g (i+((m+1:Nat):Int))
  rw [sumN_snoc g m (i+1),show i+1+(m:Int)=i+((m+1:Nat):Int) by omega]
  omega
theorem sumN_le {g:Int→Nat} {c:Nat} (h:∀ k,g k≤c):∀ (m:Nat) (i:Int),sumN g m i≤c*m
 | 0,_=>Nat.zero_le _
 | m+1,i=>by
  have:=sumN_le h m (i+1)
  have:=h i
  show g i+sumN g m (i+1)≤c*(m+1)
  rw [Nat.mul_add]
  omega
theorem appF_in {p:Int→Bool} {c:Int→AV} {y:AV}:∀ (m:Nat) (i:Int) (ys:List AV),y ∈ appF p c m i ys ↔ y ∈ ys∨∃ j,i≤j∧j<i+m∧p j=true∧y=c j
 | 0,i,ys=>by
  show y ∈ ys ↔ _
  constructor
  ·exact .inl
  ·rintro (h|⟨j,h1,h2,_⟩)
   ·exact h
   ·omega
 | m+1,i,ys=>by
  show y ∈ appF p c m (i+1) (bif p i then ys++[c i] else ys) ↔ _
  rw [appF_in m]
  cases hp:p i
  ·rw [cond_false]
   constructor
   ·rintro (h|⟨j,h1,h2,h3,h4⟩)
    ·exact .inl h
    ·exact .inr ⟨j,by omega,by omega,h3,h4⟩
   ·rintro (h|⟨j,h1,h2,h3,h4⟩)
    ·exact .inl h
    ·refine .inr ⟨j,?_,by omega,h3,h4⟩
     by_cases e:j=i
     ·rw [e,hp] at h3
      cases h3
     ·omega
  ·rw [cond_true,List.mem_append,List.mem_singleton]
   constructor
   ·rintro ((h|h)|⟨j,h1,h2,h3,h4⟩)
    ·exact .inl h
    ·exact .inr ⟨i,Int.le_refl _,by omega,hp,h⟩
    ·exact .inr ⟨j,by omega,by omega,h3,h4⟩
   ·rintro (h|⟨j,h1,h2,h3,h4⟩)
    ·exact .inl (.inl h)
    ·by_cases e:j=i
     ·rw [e] at h4
      exact .inl (.inr h4)
     ·exact .inr ⟨j,by omega,by omega,h3,h4⟩
theorem hasI_mem (xs:List AV) (x:Int):hasI xs x=true ↔ ∃ y ∈ xs,fI y 0=x:=by
 rw [hasI_iff]
 constructor
 ·rintro ⟨j,j0,j1,e⟩
  refine ⟨xs.getD j.toNat .undef,?_,e⟩
  rw [List.getD_eq_getElem?_getD,List.getElem?_eq_getElem (by omega)]
  exact List.getElem_mem _
 ·rintro ⟨y,hy,e⟩
  obtain ⟨k,hk,rfl⟩:=List.getElem_of_mem hy
  refine ⟨k,by omega,by omega,?_⟩
  unfold el
  rw [List.getD_eq_getElem?_getD,show ((k:Int)).toNat=k by omega,List.getElem?_eq_getElem hk]
  exact e
theorem heatS (xs rs:List AV) (h:xs.length≤1048576) (h':rs.length≤1048576):q31 xs rs=true∧v31_0 xs rs=bif v116_0 xs && v129_0 rs then heat xs rs else []:=by
 obtain ⟨d1,d2⟩:=P84 xs rs h h'
 have hr:runW (R31_0 xs rs) (((xs.length:Int) - 0).toNat+1) (0,[])=some (bif v116_0 xs && v129_0 rs then heat xs rs else []):=by
  cases hv:v116_0 xs && v129_0 rs with
  | true =>
   rw [hv] at d2
   show _=some (appF allT (dH xs rs) xs.length 0 [])
   refine runW_appK (fun i ys=>(i,ys)) (fun ys=>ys) xs.length allT (dH xs rs) (fun i ys h0 hn hl=>?_) (fun ys=>?_)
   ·have d3:decide (i<(xs.length:Int))=true:=decide_eq_true hn
    have d4:decide (0≤i)=true:=decide_eq_true h0
    simp only [R31_0,F31_0,G31_0,d1,d2,d3,d4,(same85 rs _ h').1,rmH8 ys _ (by omega),Bool.and_self,cond_true,allT]
    rw [wrap_in (a:=i+1) (by omega) (by omega)]
    rfl
   ·simp only [R31_0,F31_0,G31_0,Int.lt_irrefl,decide_false,cond_false]
  | false =>
   rw [hv] at d2
   show (R31_0 xs rs (0,[])).el none _ some=_
   by_cases hn:0<xs.length
   ·have c:decide ((0:Int)<xs.length)=true:=decide_eq_true (by omega)
    simp only [R31_0,F31_0,G31_0,c,d1,d2,cond_true,cond_false]
    rfl
   ·have c:decide ((0:Int)<xs.length)=false:=decide_eq_false (by omega)
    simp only [R31_0,F31_0,G31_0,c,cond_false]
    rfl
 unfold q31 v31_0
 rw [hr]
 exact ⟨rfl,rfl⟩
def HT (xs rs:List AV):List AV:=bif v116_0 xs && v129_0 rs then heat xs rs else []
theorem HT_len (xs rs:List AV):(HT xs rs).length≤xs.length:=by
 unfold HT
 cases v116_0 xs && v129_0 rs
 ·exact Nat.zero_le _
 ·rw [cond_true,heat_len]
  exact Nat.le_refl _
def pC (xs:List AV) (i:Int):Bool:=decide (fI (xs.getD i.toNat .undef) 0=0)
theorem runCI (H:List AV) (hl:H.length≤1048576):runW (R32_0 H.length H) (((H.length:Int) - 0).toNat+1) (0,[])=some (appF (pC H) dQ H.length 0 []):=by
 refine runW_appK (fun i ys=>(i,ys)) (fun ys=>ys) H.length (pC H) dQ (fun i ys h0 hn hl'=>?_) (fun ys=>?_)
 ·have d3:decide (i<(H.length:Int))=true:=decide_eq_true hn
  have d4:decide (0≤i)=true:=decide_eq_true h0
  simp only [R32_0,F32_0,G32_0,d3,d4,rmH8 ys _ (by omega),Bool.and_self,cond_true,pC]
  rw [wrap_in (a:=i+1) (by omega) (by omega)]
  cases decide (fI (H.getD i.toNat AV.undef) 0=0) <;> rfl
 ·simp only [R32_0,F32_0,G32_0,Int.lt_irrefl,decide_false,cond_false]
theorem runCS (H:List AV) (hl:H.length≤1048576):runW (R33_0 H) (((H.length:Int) - 0).toNat+1) (0,[])=some (appF (pC H) dQ H.length 0 []):=by
 refine runW_appK (fun i ys=>(i,ys)) (fun ys=>ys) H.length (pC H) dQ (fun i ys h0 hn hl'=>?_) (fun ys=>?_)
 ·have d3:decide (i<(H.length:Int))=true:=decide_eq_true hn
  have d4:decide (0≤i)=true:=decide_eq_true h0
  simp only [R33_0,F33_0,G33_0,d3,d4,rmH8 ys _ (by omega),Bool.and_self,cond_true,pC]
  rw [wrap_in (a:=i+1) (by omega) (by omega)]
  cases decide (fI (H.getD i.toNat AV.undef) 0=0) <;> rfl
 ·simp only [R33_0,F33_0,G33_0,Int.lt_irrefl,decide_false,cond_false]
theorem coldB (xs rs:List AV) (h:xs.length≤1048576) (h':rs.length≤1048576):q32 xs rs=true∧v32_0 xs rs=appF (pC (HT xs rs)) dQ (HT xs rs).length 0 []∧q33 xs rs=true∧v33_0 xs rs=appF (pC (HT xs rs)) dQ (HT xs rs).length 0 []:=by
 obtain ⟨a1,a2⟩:=P28 xs rs h h'
 obtain ⟨b1,b2⟩:=heatS xs rs h h'
 have hl:=HT_len xs rs
 change v28_0 xs rs=HT xs rs at a2
 change v31_0 xs rs=HT xs rs at b2
 unfold q32 v32_0 q33 v33_0
 rw [a1,a2,b1,b2]
 rw [runCI _ (by omega),runCS _ (by omega)]
 exact ⟨rfl,rfl,rfl,rfl⟩
theorem cold_has {H:List AV} {i:Int} (i0:0≤i) (i1:i<H.length):hasI (appF (pC H) dQ H.length 0 []) i=pC H i:=by
 rw [Bool.eq_iff_iff,hasI_mem]
 constructor
 ·rintro ⟨y,hy,e⟩
  rcases (appF_in _ _ _).1 hy with h|⟨j,h1,h2,h3,rfl⟩
  ·cases h
  ·have e:j=i:=e
   rw [← e]
   exact h3
 ·intro h
  exact ⟨dQ i,(appF_in _ _ _).2 (.inr ⟨i,i0,by omega,h,rfl⟩),rfl⟩
theorem hotG (xs rs:List AV) (h:xs.length≤1048576) (h':rs.length≤1048576) (hv:v116_0 xs=true) (hr:v129_0 rs=true) (hn:0<xs.length) :
  (∀ k:Int,0≤k→k<xs.length→hN rs (el xs k)≤v30_2 xs rs)∧∀ k:Int,0≤k→k<xs.length→v30_0 xs rs≤el xs k→el xs k<v30_1 xs rs→hN rs (el xs k)=v30_2 xs rs:=by
 obtain ⟨a1,a2,a3⟩:=P77 xs h
 obtain ⟨d1,d2⟩:=P84 xs rs h h'
 have hv103:=(P116 xs h).2
 rw [hv] at hv103
 have hv103:=hv103.symm
 rw [Bool.and_eq_true,findF_isNone] at hv103
 have hval:∀ k:Int,0≤k→k<xs.length → -999≤el xs k∧el xs k≤999:=fun k k0 k1=>by
  have:=hv103.1 k k0 (by omega)
  simp only [v52,Bool.not_eq_false',Bool.and_eq_true,decide_eq_true_eq] at this
  exact this
 have in1:=srt_in a3
 obtain ⟨⟨f,m⟩,g1,⟨g2,g3,g4⟩,g5,g6⟩:=run30 (v77_0 xs) rs (by omega) h' (by omega) 0 0
 simp only at g2 g3 g4 g5 g6
 obtain ⟨r,i1,l,⟨i2,i3⟩,i4,i5,i6⟩:=run30l (v77_0 xs) rs (by omega) h' f m 0 0 g2 g3 g4
 have nz:decide ((xs.length:Int)=0)=false:=decide_eq_false (by omega)
 have fine:v84_0 xs rs=true:=by rw [d2,hv,hr];rfl
 have e0:v30_0 xs rs=el (v77_0 xs) f:=by
  unfold v30_0
  rw [fine,nz,g1]
  rfl
 have e2:v30_2 xs rs=m:=by
  unfold v30_2
  rw [fine,nz,g1]
  rfl
 have hb : -999≤el (v77_0 xs) l∧el (v77_0 xs) l≤999:=by
  obtain ⟨p,p0,p1,e⟩:=in1.1 l (by omega) i3
  rw [← e]
  exact hval p p0 p1
 have e1:v30_1 xs rs=el (v77_0 xs) l+1:=by
  unfold v30_1
  rw [fine,nz,g1]
  simp only [ro,Bool.not_true,cond_false,wrap_in (a:=f+1) (by omega) (by omega)]
  rw [i1]
  rcases i6 with ⟨z,rfl⟩|rfl
  ·exact wrap_in (a:=el (v77_0 xs) l+1) (by omega) (by omega)
  ·exact wrap_in (a:=el (v77_0 xs) l+1) (by omega) (by omega)
 rw [e0,e1,e2]
 refine ⟨fun k k0 k1=>?_,fun k k0 k1 lo hi=>?_⟩
 ·obtain ⟨j,j0,j1,e⟩:=in1.2 k k0 k1
  have:=g5 j j0 (by omega)
  rw [e] at this
  exact this
 ·obtain ⟨j,j0,j1,e⟩:=in1.2 k k0 k1
  rw [← e] at lo hi ⊢
  have ha:=asc_of a3
  rcases Int.lt_trichotomy j f with w|w|w
  ·have:=ha j f j0 w g3
   rw [show el (v77_0 xs) j=el (v77_0 xs) f by omega,g4]
  ·rw [w,g4]
  ·rcases Int.lt_or_le l j with w'|w'
   ·have:=ha l j (by omega) w' j1
    rw [show el (v77_0 xs) j=el (v77_0 xs) l by omega]
    exact i4 l i2 (Int.le_refl _)
   ·exact i4 j (by omega) w'
end Go.Proofs.YtbmfgibbjchijaaGreat

namespace Go.Proofs.YtbmfgibbjchijaaGreat
open Go Go.Proofs.VE
set_option linter.unusedVariables false
set_option linter.unusedSimpArgs false
theorem g93 {b0_0:List AV} {b0_1:Int} {b0_2:Int} {b1:List AV} {x0:Int} {x1:List AV} {x2:Int} {x3:Int} {x4:List AV} (h:W93 b0_0 b0_1 b0_2 b1=some (x0,x1,x2,x3,x4)):q93 b0_0 b0_1 b0_2 b1=true∧v93_0 b0_0 b0_1 b0_2 b1=x0∧v93_1 b0_0 b0_1 b0_2 b1=x1∧v93_2 b0_0 b0_1 b0_2 b1=x2∧v93_3 b0_0 b0_1 b0_2 b1=x3∧v93_4 b0_0 b0_1 b0_2 b1=x4:=by
 unfold q93 v93_0 v93_1 v93_2 v93_3 v93_4
 rw [h]
 exact ⟨rfl,rfl,rfl,rfl,rfl,rfl⟩
theorem g123 {a1:Int} {b0_0:List AV} {b0_1:Int} {b0_2:Int} {x0:List AV} {x1:List AV} {x2:Int} {x3:Int} (h:W123 a1 b0_0 b0_1 b0_2=some (x0,x1,x2,x3)):q123 a1 b0_0 b0_1 b0_2=true∧v123_0 a1 b0_0 b0_1 b0_2=x0∧v123_1 a1 b0_0 b0_1 b0_2=x1∧v123_2 a1 b0_0 b0_1 b0_2=x2∧v123_3 a1 b0_0 b0_1 b0_2=x3:=by
 unfold q123 v123_0 v123_1 v123_2 v123_3
 rw [h]
 exact ⟨rfl,rfl,rfl,rfl,rfl⟩
theorem g97 {a1:Int} {b0_0:List AV} {b0_1:Int} {b0_2:Int} {x0:Bool} {x1:List AV} {x2:Int} {x3:Int} (h:W97 a1 b0_0 b0_1 b0_2=some (x0,x1,x2,x3)):q97 a1 b0_0 b0_1 b0_2=true∧v97_0 a1 b0_0 b0_1 b0_2=x0∧v97_1 a1 b0_0 b0_1 b0_2=x1∧v97_2 a1 b0_0 b0_1 b0_2=x2∧v97_3 a1 b0_0 b0_1 b0_2=x3:=by
 unfold q97 v97_0 v97_1 v97_2 v97_3
 rw [h]
 exact ⟨rfl,rfl,rfl,rfl,rfl⟩
theorem g124 {b0_0:List AV} {b0_1:Int} {b0_2:Int} {x0:Int} {x1:Int} {x2:Int} {x3:List AV} {x4:Int} {x5:Int} (h:W124 b0_0 b0_1 b0_2=some (x0,x1,x2,x3,x4,x5)):q124 b0_0 b0_1 b0_2=true∧v124_0 b0_0 b0_1 b0_2=x0∧v124_1 b0_0 b0_1 b0_2=x1∧v124_2 b0_0 b0_1 b0_2=x2∧v124_3 b0_0 b0_1 b0_2=x3∧v124_4 b0_0 b0_1 b0_2=x4∧v124_5 b0_0 b0_1 b0_2=x5:=by
 unfold q124 v124_0 v124_1 v124_2 v124_3 v124_4 v124_5
 rw [h]
 exact ⟨rfl,rfl,rfl,rfl,rfl,rfl,rfl⟩
theorem g96 {b0_0:List AV} {b0_1:Int} {b0_2:Int} {b1:List AV} {b2:List AV} {b3:List AV} {x0:Int} {x1:List AV} {x2:Int} {x3:Int} {x4:List AV} {x5:List AV} {x6:List AV} (h:W96 b0_0 b0_1 b0_2 b1 b2 b3=some (x0,x1,x2,x3,x4,x5,x6)):q96 b0_0 b0_1 b0_2 b1 b2 b3=true∧v96_0 b0_0 b0_1 b0_2 b1 b2 b3=x0∧v96_1 b0_0 b0_1 b0_2 b1 b2 b3=x1∧v96_2 b0_0 b0_1 b0_2 b1 b2 b3=x2∧v96_3 b0_0 b0_1 b0_2 b1 b2 b3=x3∧v96_4 b0_0 b0_1 b0_2 b1 b2 b3=x4∧v96_5 b0_0 b0_1 b0_2 b1 b2 b3=x5∧v96_6 b0_0 b0_1 b0_2 b1 b2 b3=x6:=by
 unfold q96 v96_0 v96_1 v96_2 v96_3 v96_4 v96_5 v96_6
 rw [h]
 exact ⟨rfl,rfl,rfl,rfl,rfl,rfl,rfl,rfl⟩
theorem g139 {b0_0:List AV} {b0_1:Int} {b0_2:Int} {x0:Int} {x1:Int} {x2:List AV} {x3:Int} {x4:Int} (h:W139 b0_0 b0_1 b0_2=some (x0,x1,x2,x3,x4)):q139 b0_0 b0_1 b0_2=true∧v139_0 b0_0 b0_1 b0_2=x0∧v139_1 b0_0 b0_1 b0_2=x1∧v139_2 b0_0 b0_1 b0_2=x2∧v139_3 b0_0 b0_1 b0_2=x3∧v139_4 b0_0 b0_1 b0_2=x4:=by
 unfold q139 v139_0 v139_1 v139_2 v139_3 v139_4
 rw [h]
 exact ⟨rfl,rfl,rfl,rfl,rfl,rfl⟩
theorem g98 {b0_0:List AV} {b0_1:Int} {b0_2:Int} {x0:Int} {x1:Int} {x2:List AV} {x3:Int} {x4:Int} (h:W98 b0_0 b0_1 b0_2=some (x0,x1,x2,x3,x4)):q98 b0_0 b0_1 b0_2=true∧v98_0 b0_0 b0_1 b0_2=x0∧v98_1 b0_0 b0_1 b0_2=x1∧v98_2 b0_0 b0_1 b0_2=x2∧v98_3 b0_0 b0_1 b0_2=x3∧v98_4 b0_0 b0_1 b0_2=x4:=by
 unfold q98 v98_0 v98_1 v98_2 v98_3 v98_4
 rw [h]
 exact ⟨rfl,rfl,rfl,rfl,rfl,rfl⟩
theorem g43 {b0_0:List AV} {b0_1:Int} {b0_2:Int} {b1:List AV} {b2:List AV} {b3:List AV} {x0:Int} {x1:Int} {x2:List AV} {x3:Int} {x4:Int} {x5:List AV} {x6:List AV} {x7:List AV} (h:W43 b0_0 b0_1 b0_2 b1 b2 b3=some (x0,x1,x2,x3,x4,x5,x6,x7)):q43 b0_0 b0_1 b0_2 b1 b2 b3=true∧v43_0 b0_0 b0_1 b0_2 b1 b2 b3=x0∧v43_1 b0_0 b0_1 b0_2 b1 b2 b3=x1∧v43_2 b0_0 b0_1 b0_2 b1 b2 b3=x2∧v43_3 b0_0 b0_1 b0_2 b1 b2 b3=x3∧v43_4 b0_0 b0_1 b0_2 b1 b2 b3=x4∧v43_5 b0_0 b0_1 b0_2 b1 b2 b3=x5∧v43_6 b0_0 b0_1 b0_2 b1 b2 b3=x6∧v43_7 b0_0 b0_1 b0_2 b1 b2 b3=x7:=by
 unfold q43 v43_0 v43_1 v43_2 v43_3 v43_4 v43_5 v43_6 v43_7
 rw [h]
 exact ⟨rfl,rfl,rfl,rfl,rfl,rfl,rfl,rfl,rfl⟩
theorem g78 {b0_0:List AV} {b0_1:Int} {b0_2:Int} {x0:List AV} {x1:Int} {x2:Int} {x3:Int} {x4:List AV} {x5:List AV} {x6:Int} {x7:Int} (h:W78 b0_0 b0_1 b0_2=some (x0,x1,x2,x3,x4,x5,x6,x7)):q78 b0_0 b0_1 b0_2=true∧v78_0 b0_0 b0_1 b0_2=x0∧v78_1 b0_0 b0_1 b0_2=x1∧v78_2 b0_0 b0_1 b0_2=x2∧v78_3 b0_0 b0_1 b0_2=x3∧v78_4 b0_0 b0_1 b0_2=x4∧v78_5 b0_0 b0_1 b0_2=x5∧v78_6 b0_0 b0_1 b0_2=x6∧v78_7 b0_0 b0_1 b0_2=x7:=by
 unfold q78 v78_0 v78_1 v78_2 v78_3 v78_4 v78_5 v78_6 v78_7
 rw [h]
 exact ⟨rfl,rfl,rfl,rfl,rfl,rfl,rfl,rfl,rfl⟩
theorem g27 {a0:List AV} {x0:List AV} {x1:List AV} (h:W27 a0=some (x0,x1)):q27 a0=true∧v27_0 a0=x0∧v27_1 a0=x1:=by
 unfold q27 v27_0 v27_1
 rw [h]
 exact ⟨rfl,rfl,rfl⟩
theorem g37 {a0:List AV} {x0:List AV} {x1:Int} {x2:List AV} (h:W37 a0=some (x0,x1,x2)):q37 a0=true∧v37_0 a0=x0∧v37_1 a0=x1∧v37_2 a0=x2:=by
 unfold q37 v37_0 v37_1 v37_2
 rw [h]
 exact ⟨rfl,rfl,rfl,rfl⟩
def Cur (b:List AV) (i:Int):Prop:=0≤i∧i≤b.length∧b.length≤1048576
theorem and255 (x:Int):0≤IntKind.i64.wrap ((BitVec.ofInt 64 x &&& BitVec.ofInt 64 255).toNat:Int)∧IntKind.i64.wrap ((BitVec.ofInt 64 x &&& BitVec.ofInt 64 255).toNat:Int)≤255:=by
 have h:(BitVec.ofInt 64 x &&& BitVec.ofInt 64 255).toNat≤255:=by
  rw [BitVec.toNat_and]
  exact Nat.and_le_right
 rw [wrap_in (by omega) (by omega)]
 omega
theorem byte {b:List AV} {i:Int} (hc:Cur b i) (h:Int):q95 b i h=true∧(0≤v95_0 b i h∧v95_0 b i h≤255)∧Cur b (v95_2 b i h):=by
 obtain ⟨h0,h1,h2⟩:=hc
 unfold q95 v95_0 v95_2
 rw [hid_eq,hid_eq]
 by_cases c:i<b.length
 ·rw [decide_eq_true c,decide_eq_true h0]
  simp only [cond_true]
  refine ⟨rfl,and255 _,?_⟩
  rw [wrap_in (by omega) (by omega)]
  exact ⟨by omega,by omega,h2⟩
 ·rw [decide_eq_false c]
  simp only [cond_false]
  exact ⟨trivial,and255 _,h0,h1,h2⟩
theorem tmod_in {x n:Int} (x0:0≤x) (n0:0<n):0≤Int.tmod x n∧Int.tmod x n<n:=⟨Int.tmod_nonneg _ x0,Int.tmod_lt_of_pos _ n0⟩
theorem four {x y z w:Int} (hx:0≤x∧x≤255) (hy:0≤y∧y≤255) (hz:0≤z∧z≤255) (hw:0≤w∧w≤255):0≤IntKind.i64.wrap (IntKind.i64.wrap (IntKind.i64.wrap (IntKind.i64.wrap (x*16777216)+IntKind.i64.wrap (y*65536))+IntKind.i64.wrap (z*256))+w):=by
 rw [wrap_in (a:=x*16777216) (by omega) (by omega),wrap_in (a:=y*65536) (by omega) (by omega),wrap_in (a:=z*256) (by omega) (by omega),wrap_in (a:=x*16777216+y*65536) (by omega) (by omega),wrap_in (a:=x*16777216+y*65536+z*256) (by omega) (by omega),wrap_in (by omega) (by omega)]
 omega
theorem below {b:List AV} {i:Int} (hc:Cur b i) (h:Int) {n:Int} (n0:0<n):∃ x i' h',q42 n b i h=true∧v42_0 n b i h=x∧v42_1 n b i h=b∧v42_2 n b i h=i'∧v42_3 n b i h=h'∧0≤x∧x<n∧Cur b i':=by
 obtain ⟨x0,x1,x2⟩:=byte hc h
 obtain ⟨y0,y1,y2⟩:=byte x2 (v95_3 b i h)
 obtain ⟨z0,z1,z2⟩:=byte y2 (v95_3 b (v95_2 b i h) (v95_3 b i h))
 obtain ⟨w0,w1,w2⟩:=byte z2 (v95_3 b (v95_2 b (v95_2 b i h) (v95_3 b i h)) (v95_3 b (v95_2 b i h) (v95_3 b i h)))
 have d1:decide (n≤0)=false:=decide_eq_false (by omega)
 have d2:decide (n=0)=false:=decide_eq_false (by omega)
 refine ⟨_,_,_,?_,rfl,?_,rfl,rfl,?_⟩
 ·unfold q42
  simp only [v95_1]
  rw [d1,d2,x0,y0,z0,w0]
  cases decide (n≤256) <;> rfl
 ·unfold v42_1
  first|rfl|(rw [hid_eq];simp only [v95_1];cases decide (n≤0) <;> cases decide (n≤256) <;> rfl)|(simp only [v95_1];cases decide (n≤0) <;> cases decide (n≤256) <;> rfl)
 ·unfold v42_0 v42_2
  rw [hid_eq,hid_eq]
  simp only [v95_1]
  rw [d1]
  simp only [cond_false]
  by_cases c:n≤256
  ·rw [decide_eq_true c]
   simp only [cond_true]
   exact ⟨(tmod_in x1.1 n0).1,(tmod_in x1.1 n0).2,x2⟩
  ·rw [decide_eq_false c]
   simp only [cond_false]
   exact ⟨(tmod_in (four x1 y1 z1 w1) n0).1,(tmod_in (four x1 y1 z1 w1) n0).2,w2⟩
theorem inL {L:List AV} {x:Int} (x0:0≤x) (x1:x<(L.length:Int)):(decide (0≤x) && decide (x<(L.length:Int)))=true:=by
 rw [decide_eq_true x0,decide_eq_true x1];rfl
theorem rm8 (L:List AV) (y:AV) (h:L.length≤2000000):(decide ((L.length+[y].length)*8≤140737488355328) && decide (L.length+[y].length≤140737488355328))=true:=by
 simp only [List.length_singleton,Bool.and_eq_true,decide_eq_true_eq]
 omega
theorem rm16 (L:List AV) (y:AV) (h:L.length≤2000000):(decide ((L.length+[y].length)*16≤140737488355328) && decide (L.length+[y].length≤140737488355328))=true:=by
 simp only [List.length_singleton,Bool.and_eq_true,decide_eq_true_eq]
 omega
theorem wrap1 {t:Int} (h:0<t) (h':t≤9223372036854775807):IntKind.i64.wrap (t - 1)=t - 1:=wrap_in (by omega) (by omega)
theorem wide_pos {x:Int} (h:∃ j:Nat,j<([AV.int .i64 3,AV.int .i64 10,AV.int .i64 30,AV.int .i64 1000]:List AV).length∧x=fI (([AV.int .i64 3,AV.int .i64 10,AV.int .i64 30,AV.int .i64 1000]:List AV).getD j .undef) 0):0<x:=by
 obtain ⟨j,hj,rfl⟩:=h
 have:j<4:=hj
 obtain rfl|rfl|rfl|rfl:j=0∨j=1∨j=2∨j=3:=by omega
 all_goals decide
theorem pick {b:List AV} {i:Int} (hc:Cur b i) (h:Int) {L:List AV} (L0:0<L.length):∃ x i' h',W93 b i h L=some (x,b,i',h',L)∧Cur b i'∧∃ j:Nat,j<L.length∧x=fI (L.getD j .undef) 0:=by
 obtain ⟨x,i1,h1,a0,a1,a2,a3,a4,x0,x1,c1⟩:=below hc h (n:=(L.length:Int)) (by omega)
 unfold W93 T93
 simp only [a0,a1,a2,a3,a4,inL x0 x1,cond_true]
 exact ⟨_,_,_,rfl,c1,x.toNat,by omega,rfl⟩
theorem once {b:List AV} {i:Int} (hc:Cur b i) (h:Int) {n:Int} (n0:0<n):∃ o i' h',W97 n b i h=some (o,b,i',h')∧Cur b i':=by
 obtain ⟨x,i1,h1,a0,a1,a2,a3,a4,x0,x1,c1⟩:=below hc h n0
 unfold W97 T97
 simp only [a0,a1,a2,a3,a4,cond_true]
 exact ⟨_,_,_,rfl,c1⟩
theorem values {b:List AV} {i:Int} (hc:Cur b i) (h:Int) {M:Int} (m0:0≤M) (m1:M≤100):∃ xs i' h',W123 M b i h=some (xs,b,i',h')∧xs.length≤100∧Cur b i':=by
 obtain ⟨w,i1,h1,hW,c1,hw⟩:=pick hc h (L:=[AV.int .i64 3,AV.int .i64 10,AV.int .i64 30,AV.int .i64 1000]) (by decide)
 obtain ⟨a0,a1,a2,a3,a4,_⟩:=g93 hW
 have pos:=wide_pos hw
 have wM:IntKind.i64.wrap (M+1)=M+1:=wrap_in (by omega) (by omega)
 obtain ⟨m,i2,h2,b0,b1,b2,b3,b4,n0,n1,c2⟩:=below c1 h1 (n:=M+1) (by omega)
 obtain ⟨r,r1,r2,r3,r4⟩:=runW_ends (f:=R123_0 w) (fun s:Int × List AV × List AV × Int × Int=>0≤s.1∧s.2.1.length+s.1=m∧s.2.2.1=b∧Cur b s.2.2.2.1) (fun r=>r.1.length≤100∧r.2.1=b∧Cur b r.2.2.1) (fun s=>s.1.toNat) (fun s hI=>by
   obtain ⟨t,L,b',k,g⟩:=s
   obtain ⟨t0,tl,rfl,hk⟩:=hI
   simp only at t0 tl hk
   by_cases ct:t > 0
   ·obtain ⟨y,k1,g1,e0,e1,e2,e3,e4,_,_,hk1⟩:=below hk g pos
    have d1:decide (t > 0)=true:=decide_eq_true ct
    have d3:(!decide ((3:Int)=0))=true:=rfl
    refine .inl ⟨(t - 1,L++[AV.int .i64 (IntKind.i64.wrap (y - IntKind.i64.wrap (Int.tdiv w 3)))],b',k1,g1),?_,⟨by simp only;omega,by simp only [List.length_append,List.length_singleton];omega,rfl,hk1⟩,by simp only;omega⟩
    show F123_0 w t L b' k g=_
    unfold F123_0 G123_0
    simp only [d1,d3,e0,e1,e2,e3,e4,rm8 L _ (by omega),wrap1 ct (by omega),cond_true] <;> rfl
   ·have d1:decide (t > 0)=false:=decide_eq_false ct
    refine .inr ⟨(L,b',k,g),?_,by simp only;omega,rfl,hk⟩
    show F123_0 w t L b' k g=_
    unfold F123_0 G123_0
    simp only [d1,cond_false]) ((m - 0).toNat+1) (m,[],b,i2,h2) ⟨n0,by simp,rfl,c2⟩ (by simp only;omega)
 obtain ⟨xs,b',i3,h3⟩:=r
 simp only at r2 r3 r4
 subst r3
 unfold W123 T123
 simp only [a0,a1,a2,a3,a4,wM,b0,b1,b2,b3,b4,r1,cond_true,ro]
 exact ⟨_,_,_,rfl,r2,r4⟩
theorem value {b:List AV} {i:Int} (hc:Cur b i) (h:Int) {x:List AV} (hx:x.length≤1048576) (y z:List AV):∃ v i' h',W96 b i h x y z=some (v,b,i',h',x,y,z)∧Cur b i':=by
 have six:0<[AV.int .i64 0,AV.int .i64 3,AV.int .i64 (-2),AV.int .i64 (-1000),AV.int .i64 1000,AV.int .i64 50].length:=by decide
 unfold W96 T96
 by_cases c:(x.length:Int) > 0
 ·obtain ⟨o,i1,h1,hW,c1⟩:=once hc h (n:=4) (by decide)
  obtain ⟨a0,a1,a2,a3,a4⟩:=g97 hW
  obtain ⟨u,i2,h2,hW2,c2,_⟩:=pick c1 h1 six
  obtain ⟨e0,e1,e2,e3,e4,e5⟩:=g93 hW2
  obtain ⟨p,i3,h3,b0,b1,b2,b3,b4,p0,p1,c3⟩:=below c1 h1 (n:=(x.length:Int)) (by omega)
  obtain ⟨r,i4,h4,f0,f1,f2,f3,f4,r0,r1,c4⟩:=below c3 h3 (n:=3) (by decide)
  simp only [decide_eq_true c,a0,a1,a2,a3,a4,e0,e1,e2,e3,e4,b0,b1,b2,b3,b4,f0,f1,f2,f3,f4,inL p0 p1,cond_true]
  cases o with
  | true=>exact ⟨_,_,_,rfl,c2⟩
  | false=>exact ⟨_,_,_,rfl,c4⟩
 ·obtain ⟨u,i2,h2,hW2,c2,_⟩:=pick hc h six
  obtain ⟨e0,e1,e2,e3,e4,e5⟩:=g93 hW2
  simp only [decide_eq_false c,e0,e1,e2,e3,e4,cond_true,cond_false]
  exact ⟨_,_,_,rfl,c2⟩
theorem range3 {b:List AV} {i:Int} (hc:Cur b i) (h:Int):∃ x y i' h',W139 b i h=some (x,y,b,i',h')∧Cur b i':=by
 obtain ⟨w,i1,h1,hW,c1,hw⟩:=pick hc h (L:=[AV.int .i64 3,AV.int .i64 10,AV.int .i64 30,AV.int .i64 1000]) (by decide)
 obtain ⟨a0,a1,a2,a3,a4,_⟩:=g93 hW
 have pos:=wide_pos hw
 obtain ⟨y,i2,h2,b0,b1,b2,b3,b4,_,_,c2⟩:=below c1 h1 pos
 obtain ⟨z,i3,h3,d0,d1,d2,d3,d4,_,_,c3⟩:=below c2 h2 pos
 have t3:(!decide ((3:Int)=0))=true:=rfl
 unfold W139 T139
 simp only [a0,a1,a2,a3,a4,b0,b1,b2,b3,b4,d0,d1,d2,d3,d4,t3,cond_true]
 exact ⟨_,_,_,_,rfl,c3⟩
theorem rangeAny {b:List AV} {i:Int} (hc:Cur b i) (h:Int):∃ x y i' h',W98 b i h=some (x,y,b,i',h')∧Cur b i':=by
 obtain ⟨x,y,i1,h1,hW,c1⟩:=range3 hc h
 obtain ⟨a0,a1,a2,a3,a4,a5⟩:=g139 hW
 obtain ⟨m,i2,h2,b0,b1,b2,b3,b4,_,_,c2⟩:=below c1 h1 (n:=10) (by decide)
 obtain ⟨u,i3,h3,hW2,c3,_⟩:=pick c2 h2 (L:=[AV.int .i64 (-1001),AV.int .i64 (-1000),AV.int .i64 1000,AV.int .i64 1001]) (by decide)
 obtain ⟨e0,e1,e2,e3,e4,e5⟩:=g93 hW2
 unfold W98 T98
 simp only [a0,a1,a2,a3,a4,a5,b0,b1,b2,b3,b4,e0,e1,e2,e3,e4,cond_true]
 cases decide (m=0) with
 | true=>exact ⟨_,_,_,_,rfl,c3⟩
 | false =>
  cases decide (m=1) with
  | true=>exact ⟨_,_,_,_,rfl,c3⟩
  | false=>exact ⟨_,_,_,_,rfl,c2⟩
theorem range6 {b:List AV} {i:Int} (hc:Cur b i) (h:Int) {x:List AV} (hx:x.length≤1048576) (y z:List AV):∃ a c i' h',W43 b i h x y z=some (a,c,b,i',h',x,y,z)∧Cur b i':=by
 obtain ⟨v,i1,h1,hW,c1⟩:=value hc h hx y z
 obtain ⟨a0,a1,a2,a3,a4,a5,a6,a7⟩:=g96 hW
 obtain ⟨w,i2,h2,hW2,c2⟩:=value c1 h1 hx y z
 obtain ⟨b0,b1,b2,b3,b4,b5,b6,b7⟩:=g96 hW2
 obtain ⟨o,i3,h3,hW3,c3⟩:=once c2 h2 (n:=12) (by decide)
 obtain ⟨d0,d1,d2,d3,d4⟩:=g97 hW3
 obtain ⟨m,m',i4,h4,hW4,c4⟩:=rangeAny c3 h3
 obtain ⟨e0,e1,e2,e3,e4,e5⟩:=g98 hW4
 unfold W43 T43
 simp only [a0,a1,a2,a3,a4,a5,a6,a7,b0,b1,b2,b3,b4,b5,b6,b7,d0,d1,d2,d3,d4,e0,e1,e2,e3,e4,e5,cond_true]
 cases o with
 | true=>exact ⟨_,_,_,_,rfl,c4⟩
 | false=>exact ⟨_,_,_,_,rfl,c3⟩
theorem start_of {f:Int × Int→Out (Int × Int) Int} (code:List AV) (h1:∀ g k:Int,0≤k→k<code.length→(∃ g',f (g,k) = .next (g',k+1))∨f (g,k) = .stop g) (h2:∀ g k:Int,¬ k<code.length→f (g,k) = .stop g) (x:Int):∃ r,runW f (((code.length:Int) - 0).toNat+1) (x,0)=some r:=by
 obtain ⟨r,r1,_⟩:=runW_ends (f:=f) (fun s:Int × Int=>0≤s.2∧s.2≤code.length) (fun _=>True) (fun s=>((code.length:Int) - s.2).toNat) (fun s hI=>by
   obtain ⟨g,k⟩:=s
   obtain ⟨k0,k1⟩:=hI
   simp only at k0 k1
   by_cases ck:k<code.length
   ·rcases h1 g k k0 ck with ⟨g',e⟩|e
    ·exact .inl ⟨(g',k+1),e,⟨by simp only;omega,by simp only;omega⟩,by simp only;omega⟩
    ·exact .inr ⟨g,e,trivial⟩
   ·exact .inr ⟨g,h2 g k ck,trivial⟩) (((code.length:Int) - 0).toNat+1) (x,0) ⟨Int.le_refl 0,by simp only;omega⟩ (by simp only;omega)
 exact ⟨r,r1⟩
theorem settings {b:List AV} {i:Int} (hc:Cur b i) (h:Int):∃ p t s i' h',W124 b i h=some (p,t,s,b,i',h')∧Cur b i':=by
 obtain ⟨x,i1,h1,a0,a1,a2,a3,a4,_,_,c1⟩:=below hc h (n:=3) (by decide)
 obtain ⟨y,i2,h2,hW,c2,_⟩:=pick c1 h1 (L:=[AV.int .i64 1,AV.int .i64 2,AV.int .i64 3,AV.int .i64 5,AV.int .i64 64]) (by decide)
 obtain ⟨e0,e1,e2,e3,e4,e5⟩:=g93 hW
 obtain ⟨z,i3,h3,b0,b1,b2,b3,b4,_,_,c3⟩:=below c2 h2 (n:=10007) (by decide)
 unfold W124 T124
 simp only [a0,a1,a2,a3,a4,e0,e1,e2,e3,e4,e5,b0,b1,b2,b3,b4,cond_true]
 exact ⟨_,_,_,_,_,rfl,c3⟩
theorem workload {b:List AV} {i:Int} (hc:Cur b i) (h:Int):∃ v p t s l i' h',W78 b i h=some (v,p,t,s,l,b,i',h')∧v.length≤100∧l.length≤100∧Cur b i':=by
 obtain ⟨xs,i1,h1,hW1,x1,c1⟩:=values hc h (M:=14) (by decide) (by decide)
 obtain ⟨a0,a1,a2,a3,a4⟩:=g123 hW1
 obtain ⟨o,i2,h2,hW2,c2⟩:=once c1 h1 (n:=4) (by decide)
 obtain ⟨d0,d1,d2,d3,d4⟩:=g97 hW2
 obtain ⟨p,t,s,i3,h3,hW3,c3⟩:=settings c2 h2
 obtain ⟨e0,e1,e2,e3,e4,e5,e6⟩:=g124 hW3
 obtain ⟨m,i4,h4,f0,f1,f2,f3,f4,m0,m1,c4⟩:=below c3 h3 (n:=7) (by decide)
 have go:∀ V:List AV,V.length≤100→q125 V=true∧∃ r,runW (R78_2 0 0 0 V p t s) ((m - 0:Int).toNat+1) (m,v125_0 V,v125_1 V,v125_2 V,[],b,i4,h4)=some r∧r.2.2.2.1.length≤100∧r.2.2.2.2.1=b∧Cur b r.2.2.2.2.2.1:=fun V hV=>by
  obtain ⟨n1,n2,n3,n4⟩:=P125 V (by omega)
  have l0:(v125_0 V).length≤100:=by
   rw [n2];cases v116_0 V
   ·simp
   ·exact hV
  generalize v125_0 V=X0 at *
  generalize v125_1 V=Y0 at *
  generalize v125_2 V=Z0 at *
  refine ⟨n1,?_⟩
  refine runW_ends (f:=R78_2 0 0 0 V p t s) (fun s:Int × List AV × List AV × List AV × List AV × List AV × Int × Int=>0≤s.1∧s.2.2.2.2.1.length+s.1=m∧s.2.1.length≤100∧s.2.2.2.2.2.1=b∧Cur b s.2.2.2.2.2.2.1) (fun r=>r.2.2.2.1.length≤100∧r.2.2.2.2.1=b∧Cur b r.2.2.2.2.2.1) (fun s=>s.1.toNat) (fun s' hI=>?_) ((m - 0).toNat+1) (m,X0,Y0,Z0,[],b,i4,h4) ⟨m0,by simp,l0,rfl,c4⟩ (by simp only;omega)
  obtain ⟨k,X,Y,Z,L,b',j,g⟩:=s'
  obtain ⟨k0,kl,hX,hb,hj⟩:=hI
  simp only at k0 kl hX hb hj
  subst hb
  by_cases ck:k > 0
  ·obtain ⟨u,w,j1,g1,hW,cj⟩:=range6 hj g (x:=X) (by omega) Y Z
   obtain ⟨w0,w1,w2,w3,w4,w5,w6,w7,w8⟩:=g43 hW
   refine .inl ⟨(k - 1,X,Y,Z,L++[AV.agg [AV.int .i64 u,AV.int .i64 w]],b',j1,g1),?_,⟨by simp only;omega,by simp only [List.length_append,List.length_singleton];omega,hX,rfl,cj⟩,by simp only;omega⟩
   show F78_2 0 0 0 V p t s k X Y Z L b' j g=_
   unfold F78_2 G78_2
   simp only [decide_eq_true ck,w0,w1,w2,w3,w4,w5,w6,w7,w8,rm16 L _ (by omega),wrap1 ck (by omega),cond_true]
  ·refine .inr ⟨(X,Y,Z,L,b',j,g),?_,by simp only;omega,rfl,hj⟩
   show F78_2 0 0 0 V p t s k X Y Z L b' j g=_
   unfold F78_2 G78_2
   simp only [decide_eq_false ck,cond_false]
 obtain ⟨w,w1,w2⟩:=runW_ends (f:=R78_0 0 0 0 b i2 h2) (fun s:Int × List AV=>0≤s.1∧s.1≤20∧s.2.length≤s.1) (fun r=>r.length≤20) (fun s=>(20 - s.1).toNat) (fun s' hI=>by
   obtain ⟨k,L⟩:=s'
   obtain ⟨k0,k1,kl⟩:=hI
   simp only at k0 k1 kl
   by_cases ck:k<20
   ·refine .inl ⟨(k+1,L++[AV.int .i64 (IntKind.i64.wrap (20 - k))]),?_,⟨by simp only;omega,by simp only;omega,by simp only [List.length_append,List.length_singleton];omega⟩,by simp only;omega⟩
    show F78_0 0 0 0 b i2 h2 k L=_
    unfold F78_0 G78_0
    simp only [decide_eq_true ck,rm8 L _ (by omega),wrap_in (a:=k+1) (by omega) (by omega),cond_true]
   ·refine .inr ⟨L,?_,(by omega:L.length≤20)⟩
    show F78_0 0 0 0 b i2 h2 k L=_
    unfold F78_0 G78_0
    simp only [decide_eq_false ck,cond_false]) ((20 - 0:Int).toNat+1) (0,[]) ⟨Int.le_refl 0,by simp only;omega,by simp⟩ (by simp only;omega)
 unfold W78 T78
 cases o with
 | true =>
  obtain ⟨n1,r,r1,r2,r3,r4⟩:=go w (by omega)
  simp only [a0,a1,a2,a3,a4,d0,d1,d2,d3,d4,e0,e1,e2,e3,e4,e5,e6,f0,f1,f2,f3,f4,w1,n1,r1,r3,ro,cond_true]
  exact ⟨_,_,_,_,_,_,_,rfl,by omega,r2,r4⟩
 | false =>
  obtain ⟨n1,r,r1,r2,r3,r4⟩:=go xs x1
  simp only [a0,a1,a2,a3,a4,d0,d1,d2,d3,d4,e0,e1,e2,e3,e4,e5,e6,f0,f1,f2,f3,f4,n1,r1,r3,ro,cond_true,cond_false]
  exact ⟨_,_,_,_,_,_,_,rfl,x1,r2,r4⟩
end Go.Proofs.YtbmfgibbjchijaaGreat

namespace Go.Proofs.YtbmfgibbjchijaaGreat
open Go Go.Proofs.VE
set_option linter.unusedVariables false
set_option linter.unusedSimpArgs false
theorem hasL (xs:List AV) (x:Int) (h:xs.length≤1048576):q24 xs x=true∧v24_0 xs x=hasI xs x:=by
 have hr:runW (R24_0 xs x) (((xs.length:Int) - 0).toNat+1) 0=some (ro (findF (fun i=>decide (fI (xs.getD i.toNat .undef) 0=x)) xs.length 0) (.inl ()) fun _ => .inr ()):=by
  refine runW_find (fun i=>i) xs.length _ _ _ (fun i h0 hn=>?_) ?_ xs.length _ 0 (Int.le_refl 0) (by omega) (by omega)
  ·simp only [R24_0,F24_0,G24_0,h0,hn,decide_true,Bool.and_self,cond_true]
   rw [wrap_in (a:=i+1) (by omega) (by omega)]
  ·simp only [R24_0,F24_0,G24_0,Int.lt_irrefl,decide_false,cond_false]
 unfold q24 v24_0 hasI
 rw [hr]
 cases findF (fun i=>decide (fI (xs.getD i.toNat .undef) 0=x)) xs.length 0 <;> exact ⟨rfl,rfl⟩
theorem drawH (code:List AV) (h:code.length≤1048576):∃ v l,W27 code=some (v,l)∧v.length≤100∧l.length≤100:=by
 obtain ⟨p,hp⟩:=start_of (f:=R27i40_0 code) code (fun g k k0 k1=>by
  have d1:decide (k<(code.length:Int))=true:=decide_eq_true k1
  have d2:decide (0≤k)=true:=decide_eq_true k0
  have wk_:IntKind.i64.wrap (k+1)=k+1:=wrap_in (by omega) (by omega)
  show (∃ g',F27i40_0 code g k=_)∨F27i40_0 code g k=_
  unfold F27i40_0 G27i40_0
  rw [d1,d2,wk_]
  cases decide (k<4000)
  ·exact .inr rfl
  ·exact .inl ⟨_,rfl⟩) (fun g k k1=>by
  have d1:decide (k<(code.length:Int))=false:=decide_eq_false k1
  show F27i40_0 code g k=_
  unfold F27i40_0 G27i40_0
  rw [d1]
  rfl) (IntKind.i64.wrap (10101+(code.length:Int)))
 obtain ⟨v,p1,p2,p3,l,i1,h1,hW,lv,ll,c1⟩:=workload (b:=code) (i:=0) ⟨Int.le_refl 0,by omega,h⟩ p
 obtain ⟨a0,a1,a2,a3,a4,a5,a6,a7,a8⟩:=g78 hW
 unfold W27 T27
 simp only [hp,ro,a0,a1,a2,a3,a4,a5,a6,a7,a8,cond_true]
 exact ⟨_,_,rfl,lv,ll⟩
theorem drawA (code:List AV) (h:code.length≤1048576):∃ v s l,W37 code=some (v,s,l)∧v.length≤100∧l.length≤100:=by
 obtain ⟨p,hp⟩:=start_of (f:=R37i40_0 code) code (fun g k k0 k1=>by
  have d1:decide (k<(code.length:Int))=true:=decide_eq_true k1
  have d2:decide (0≤k)=true:=decide_eq_true k0
  have wk_:IntKind.i64.wrap (k+1)=k+1:=wrap_in (by omega) (by omega)
  show (∃ g',F37i40_0 code g k=_)∨F37i40_0 code g k=_
  unfold F37i40_0 G37i40_0
  rw [d1,d2,wk_]
  cases decide (k<4000)
  ·exact .inr rfl
  ·exact .inl ⟨_,rfl⟩) (fun g k k1=>by
  have d1:decide (k<(code.length:Int))=false:=decide_eq_false k1
  show F37i40_0 code g k=_
  unfold F37i40_0 G37i40_0
  rw [d1]
  rfl) (IntKind.i64.wrap (10101+(code.length:Int)))
 obtain ⟨v,p1,p2,p3,l,i1,h1,hW,lv,ll,c1⟩:=workload (b:=code) (i:=0) ⟨Int.le_refl 0,by omega,h⟩ p
 obtain ⟨a0,a1,a2,a3,a4,a5,a6,a7,a8⟩:=g78 hW
 unfold W37 T37
 simp only [hp,ro,a0,a1,a2,a3,a4,a5,a6,a7,a8,cond_true]
 exact ⟨_,_,_,rfl,lv,ll⟩
def inQ (v l:List AV) (k q:Int):Bool:=v86_0 (fI (l.getD q.toNat .undef) 0) (fI (l.getD q.toNat .undef) 1) (el v k)
theorem hN_cnt (v l:List AV) (hl:l.length≤1048576) (hr:v129_0 l=true) (k:Int):hN l (el v k)=(cnt (inQ v l k) l.length 0:Nat):=by
 unfold hN
 rw [(P85 l (el v k) hl).2,hr,cond_true,appF_cnt]
 show ((0+cnt (inQ v l k) l.length 0:Nat):Int)=_
 rw [Nat.zero_add]
theorem scanR (v l:List AV) (q:Int) (h:v.length≤1048576):q36 v (fI (l.getD q.toNat .undef) 0) (fI (l.getD q.toNat .undef) 1)=true∧(v36_0 v (fI (l.getD q.toNat .undef) 0) (fI (l.getD q.toNat .undef) 1)).length=cnt (fun k=>inQ v l k q) v.length 0:=by
 generalize ha:fI (l.getD q.toNat .undef) 0=a
 generalize hb:fI (l.getD q.toNat .undef) 1=b
 have hr:runW (R36_0 v a b) (((v.length:Int) - 0).toNat+1) (0,[])=some (appF (fun k=>inQ v l k q) dQ v.length 0 []):=by
  refine runW_appK (fun i ys=>(i,ys)) (fun ys=>ys) v.length _ dQ (fun i ys h0 hn hl'=>?_) (fun ys=>?_)
  ·have d3:decide (i<(v.length:Int))=true:=decide_eq_true hn
   have d4:decide (0≤i)=true:=decide_eq_true h0
   have e:v34_0 a b (fI (v.getD i.toNat AV.undef) 0)=inQ v l i q:=by
    unfold inQ
    rw [ha,hb,inR]
    rfl
   simp only [R36_0,F36_0,G36_0,d3,d4,e,rmH8 ys _ (by omega),Bool.and_self,cond_true]
   rw [wrap_in (a:=i+1) (by omega) (by omega)]
   cases inQ v l i q <;> rfl
  ·simp only [R36_0,F36_0,G36_0,Int.lt_irrefl,decide_false,cond_false]
 unfold q36 v36_0
 rw [hr]
 refine ⟨rfl,?_⟩
 show (appF _ dQ v.length 0 []).length=_
 rw [appF_cnt]
 exact Nat.zero_add _
theorem inR_out {a b x:Int} (h:v34_0 a b x=true):a≤x∧x<b:=by
 unfold v34_0 at h
 cases hr:v51_0 a b with
 | false=>rw [hr] at h;cases h
 | true =>
  obtain ⟨r1,r2,r3⟩:=isR_of hr
  rw [hr,cond_true,v52,wrap_in (a:=b - 1) (by omega) (by omega),Bool.and_eq_true,decide_eq_true_eq,decide_eq_true_eq] at h
  omega
theorem loopA (code v l:List AV) (n a b:Int) (hv:v.length≤100) (hl:l.length≤100) (hr:v129_0 l=true) (hH:HT v l=heat v l)
  (hA:∀ k:Int,0≤k→k<v.length→hN l (el v k)≤n) (hB:∀ k:Int,0≤k→k<v.length→a≤el v k→el v k<b→hN l (el v k)=n) :
  runW (R5_0 code n v l (heat v l) a b) ((((heat v l).length:Int) - 0).toNat+1) (0,0)=some (.inl ((sumN (fun k=>cnt (inQ v l k) l.length 0) v.length 0:Nat):Int)):=by
 have hlen:=heat_len v l
 obtain ⟨c1,c2,_⟩:=coldB v l (by omega) (by omega)
 rw [hH] at c2
 have ccl:(v32_0 v l).length≤1048576:=by
  rw [c2]
  exact Nat.le_trans (appF_len _ _ _) (by simp only [List.length_nil];omega)
 obtain ⟨r,r1,r2⟩:=runW_ends (f:=R5_0 code n v l (heat v l) a b) (fun s:Int × Int=>0≤s.2∧s.2≤v.length∧s.1=(sumN (fun k=>cnt (inQ v l k) l.length 0) s.2.toNat 0:Nat)) (fun r=>r = .inl ((sumN (fun k=>cnt (inQ v l k) l.length 0) v.length 0:Nat):Int)) (fun s=>((v.length:Int) - s.2).toNat) (fun s hI=>by
   obtain ⟨t,k⟩:=s
   obtain ⟨k0,k1,ht⟩:=hI
   simp only at k0 k1 ht
   have bd:=sumN_le (g:=fun k=>cnt (inQ v l k) l.length 0) (c:=100) (fun k=>Nat.le_trans (cnt_le _ _ _) hl) k.toNat 0
   by_cases ck:k<v.length
   ·have d1:decide (k<((heat v l).length:Int))=true:=decide_eq_true (by omega)
    have d2:decide (0≤k)=true:=decide_eq_true k0
    have d3:decide (k<(v.length:Int))=true:=decide_eq_true ck
    have e1:fI ((heat v l).getD k.toNat AV.undef) 0=hN l (el v k):=heat_el v l k k0 ck
    have e2:fI (v.getD k.toNat AV.undef) 0=el v k:=rfl
    have d4:decide (hN l (el v k) > n)=false:=decide_eq_false (by have:=hA k k0 ck;omega)
    have hc:=hN_cnt v l (by omega) hr k
    have cl:=cnt_le (inQ v l k) l.length 0
    have e3:v24_0 (v32_0 v l) k=decide (hN l (el v k)=0):=by
     rw [(hasL _ _ ccl).2,c2,cold_has k0 (by omega)]
     unfold pC
     rw [e1]
    obtain ⟨s1,s2,s3,_⟩:=same85 l (el v k) (by omega)
    have e4:((v35_0 l (el v k)).length:Int)=hN l (el v k):=by rw [s3];rfl
    have wk_:IntKind.i64.wrap (k+1)=k+1:=wrap_in (by omega) (by omega)
    have wt:IntKind.i64.wrap (t+hN l (el v k))=t+hN l (el v k):=wrap_in (by omega) (by omega)
    refine .inl ⟨(t+hN l (el v k),k+1),?_,⟨by simp only;omega,by simp only;omega,?_⟩,by simp only;omega⟩
    ·show F5_0 code n v l (heat v l) a b t k=_
     unfold F5_0 G5_0
     simp only [e1,e2,e3,e4,d1,d2,d3,d4,c1,s2,(hasL _ k ccl).1,wk_,wt,Bool.and_self,cond_true,cond_false,beq_self_eq_true,decide_true,Bool.not_true]
     cases hi:v34_0 a b (el v k) with
     | false=>rfl
     | true =>
      obtain ⟨q1,q2⟩:=inR_out hi
      rw [hB k k0 ck q1 q2,decide_eq_true rfl]
      rfl
    ·simp only
     rw [show (k+1).toNat=k.toNat+1 by omega,sumN_snoc,ht,hc,show (0:Int)+(k.toNat:Int)=k by omega]
     omega
   ·have d1:decide (k<((heat v l).length:Int))=false:=decide_eq_false (by omega)
    refine .inr ⟨.inl t,?_,?_⟩
    ·show F5_0 code n v l (heat v l) a b t k=_
     unfold F5_0 G5_0
     simp only [d1,cond_false]
    ·rw [ht,show k.toNat=v.length by omega]) ((((heat v l).length:Int) - 0).toNat+1) (0,0) ⟨Int.le_refl 0,by simp only;omega,rfl⟩ (by simp only;omega)
 rw [r1,r2]
theorem loopB (code v l H:List AV) (sm:Int) (hv:v.length≤100) (hl:l.length≤100) (hH:0<H.length) :
  runW (R5_2 code sm v l H) (((l.length:Int) - 0).toNat+1) (0,0)=some ((sumN (fun q=>cnt (fun k=>inQ v l k q) v.length 0) l.length 0:Nat):Int):=by
 obtain ⟨r,r1,r2⟩:=runW_ends (f:=R5_2 code sm v l H) (fun s:Int × Int=>0≤s.2∧s.2≤l.length∧s.1=(sumN (fun q=>cnt (fun k=>inQ v l k q) v.length 0) s.2.toNat 0:Nat)) (fun r=>r=((sumN (fun q=>cnt (fun k=>inQ v l k q) v.length 0) l.length 0:Nat):Int)) (fun s=>((l.length:Int) - s.2).toNat) (fun s hI=>by
   obtain ⟨t,k⟩:=s
   obtain ⟨k0,k1,ht⟩:=hI
   simp only at k0 k1 ht
   have bd:=sumN_le (g:=fun q=>cnt (fun k=>inQ v l k q) v.length 0) (c:=100) (fun k=>Nat.le_trans (cnt_le _ _ _) hv) k.toNat 0
   have d0:decide ((H.length:Int) > 0)=true:=decide_eq_true (by omega)
   by_cases ck:k<l.length
   ·have d1:decide (k<(l.length:Int))=true:=decide_eq_true ck
    have d2:decide (0≤k)=true:=decide_eq_true k0
    obtain ⟨s1,s2⟩:=scanR v l k (by omega)
    have cl:=cnt_le (fun j=>inQ v l j k) v.length 0
    have wk_:IntKind.i64.wrap (k+1)=k+1:=wrap_in (by omega) (by omega)
    have wt:IntKind.i64.wrap (t+(cnt (fun j=>inQ v l j k) v.length 0:Nat))=t+(cnt (fun j=>inQ v l j k) v.length 0:Nat):=wrap_in (by omega) (by omega)
    refine .inl ⟨(t+(cnt (fun j=>inQ v l j k) v.length 0:Nat),k+1),?_,⟨by simp only;omega,by simp only;omega,?_⟩,by simp only;omega⟩
    ·show F5_2 code sm v l H t k=_
     unfold F5_2 G5_2
     simp only [d0,d1,d2,s1,s2,wk_,wt,Bool.and_self,cond_true]
    ·simp only
     rw [show (k+1).toNat=k.toNat+1 by omega,sumN_snoc,ht,show (0:Int)+(k.toNat:Int)=k by omega]
     omega
   ·have d1:decide (k<(l.length:Int))=false:=decide_eq_false ck
    refine .inr ⟨t,?_,?_⟩
    ·show F5_2 code sm v l H t k=_
     unfold F5_2 G5_2
     simp only [d1,cond_false]
    ·rw [ht,show k.toNat=l.length by omega]) (((l.length:Int) - 0).toNat+1) (0,0) ⟨Int.le_refl 0,by simp only;omega,rfl⟩ (by simp only;omega)
 rw [r1,r2]
theorem loopA0 (code v l:List AV) (n a b:Int):runW (R5_0 code n v l [] a b) (((([]:List AV).length:Int) - 0).toNat+1) (0,0)=some (.inl 0):=by
 have d1:decide ((0:Int)<(([]:List AV).length:Int))=false:=rfl
 show (F5_0 code n v l [] a b 0 0).el none _ some=_
 unfold F5_0 G5_0
 simp only [d1,cond_false]
 rfl
theorem loopB0 (code v l:List AV) (sm:Int):runW (R5_2 code sm v l []) (((l.length:Int) - 0).toNat+1) (0,0)=some 0:=by
 have d0:decide ((([]:List AV).length:Int) > 0)=false:=rfl
 show (F5_2 code sm v l [] 0 0).el none _ some=_
 unfold F5_2 G5_2
 simp only [d0,cond_false]
 cases decide ((0:Int)<(l.length:Int)) <;> rfl
theorem raw5_true (code:List AV):raw5 code=some (.bool true):=by
 unfold raw5
 by_cases c:(code.length:Int) > 1048576
 ·unfold v6_0
  rw [decide_eq_true c]
  rfl
 have c6:v6_0 code=false:=decide_eq_false c
 obtain ⟨v,l,hW,lv,ll⟩:=drawH code (by omega)
 obtain ⟨d0,d1,d2⟩:=g27 hW
 obtain ⟨v',s',l',hW',lv',ll'⟩:=drawA code (by omega)
 obtain ⟨f0,f1,f2,f3⟩:=g37 hW'
 obtain ⟨t1,t2,t3⟩:=adv_both v' l' s' (by omega) (by omega)
 simp only [c6,d0,d1,d2,f0,f1,f2,f3,t1,t2,t3,cond_true,cond_false]
 obtain ⟨a1,a2⟩:=P28 v l (by omega) (by omega)
 obtain ⟨b1,b2⟩:=heatS v l (by omega) (by omega)
 have a2:v28_0 v l=HT v l:=a2
 have b2:v31_0 v l=HT v l:=b2
 obtain ⟨h1,h2,h3,h4,h5⟩:=same30 v l (by omega) (by omega)
 obtain ⟨k1,k2,k3,k4⟩:=coldB v l (by omega) (by omega)
 have hl:=HT_len v l
 obtain ⟨s1,s2⟩:=P11 (HT v l) (HT v l) (by omega)
 obtain ⟨s3,s4⟩:=P11 (v32_0 v l) (v32_0 v l) (by rw [k2];exact Nat.le_trans (appF_len _ _ _) (by simp only [List.length_nil];omega))
 rw [eqL_self ee1_self] at s2 s4
 rw [a1,a2,b1,b2,h1,h2,h3,h4,h5,k1,k3,k4.trans k2.symm,s1,s2,s3,s4]
 by_cases hz:0<v.length∧v116_0 v=true∧v129_0 l=true
 ·obtain ⟨z0,z1,z2⟩:=hz
  have hH:HT v l=heat v l:=by unfold HT;rw [z1,z2];rfl
  obtain ⟨g1,g2⟩:=hotG v l (by omega) (by omega) z1 z2 z0
  have hlen:=heat_len v l
  rw [hH,loopA code v l _ _ _ lv ll z2 hH g1 g2]
  simp only [decide_true,cond_true,cond_false,Bool.not_true,ro,sumE]
  rw [loopB code v l (heat v l) _ lv ll (by omega),sumN_swap (inQ v l) l.length 0 v.length 0]
  simp only [decide_true,cond_true,ro]
 ·have hH:HT v l=[]:=by
   unfold HT
   by_cases z0:0<v.length
   ·cases z1:v116_0 v with
    | false=>rfl
    | true =>
     cases z2:v129_0 l with
     | false=>rfl
     | true=>exact absurd ⟨z0,z1,z2⟩ hz
   ·have:heat v l=[]:=List.eq_nil_of_length_eq_zero (by rw [heat_len];omega)
    rw [this]
    cases v116_0 v && v129_0 l <;> rfl
  rw [hH,loopA0]
  simp only [decide_true,cond_true,cond_false,Bool.not_true,ro,sumE]
  rw [loopB0]
  simp only [decide_true,cond_true,ro]
theorem law5 {x0:AV} (t0:TA Tryz.prog 22 x0):m5 [x0]=some (true,.bool true):=by
 obtain ⟨code,rfl,a1,hb⟩:=tw_sl (ta_one (ct := .sl [.int .u8]) t0 (by kernel_rfl) (by kernel_rfl))
 show (raw5 code).map (fun r=>(true,r))=_
 rw [raw5_true code]
 rfl
end Go.Proofs.YtbmfgibbjchijaaGreat
