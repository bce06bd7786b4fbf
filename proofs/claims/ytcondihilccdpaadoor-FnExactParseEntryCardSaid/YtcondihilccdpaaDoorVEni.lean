import Derived.Test.YtcondihilccdpaaDoorVEnh
namespace Go.Proofs.VE
open Go
def valCells:AV→Value→Nat→Option Value
 | .agg _,.agg arr,j=>arr[j]?
 | .agg _,_,_=>none
 | _,u,0=>some u
 | _,_,_=>none
section
variable {P:Program} {C C' C2:Ctx} {nt:Nat} {st:St} {a:Act} {w w':World} {heap:List (Nm × Blk)}
theorem valCells_rel {x:AV} {u:Value} (h:VR C x u):CRel C x (valCells x u):=by
 by_cases hx:∃ cs,x = .agg cs
 ·obtain ⟨cs,rfl⟩:=hx
  obtain ⟨vs,rfl,k1,k2,k3⟩:=h.agg_inv
  intro j c hc
  have hj:j<vs.length:=by
   have:=(List.getElem?_eq_some_iff.1 (show cs[j]?=some c from hc)).1
   omega
  refine ⟨vs[j],by simp [valCells,hj],k2 j c _ hc (List.getElem?_eq_getElem hj)⟩
 ·have hn:∀ cs,x ≠ .agg cs:=fun cs e=>hx ⟨cs,e⟩
  intro j c hc
  rw [cells_one hn] at hc
  cases j with
  | zero =>
   simp at hc
   subst hc
   refine ⟨u,?_,h⟩
   cases x <;> first|rfl|exact absurd rfl (hn _)
  | succ j=>simp at hc
theorem valCells_back {x z:AV} {u:Value} (hs:SameSh x z) (h:VR C x u) (hr:CRel C2 z (valCells x u)):VR C2 z u:=by
 rcases hs with ⟨cs,zs,rfl,rfl,hl⟩|⟨h1,h2⟩
 ·obtain ⟨vs,rfl,k1,k2,k3⟩:=h.agg_inv
  refine .agg zs vs (hl.trans k1) (fun i c v hc hv=>?_) k3
  obtain ⟨u,e1,e2⟩:=hr i c hc
  have:vs[i]?=some u:=by simpa [valCells] using e1
  rw [hv] at this
  obtain rfl:=Option.some.inj this
  exact e2
 ·obtain ⟨u',e1,e2⟩:=hr 0 z (by rw [cells_one h2];rfl)
  have:u=u':=by
   have e:valCells x u 0=some u:=by cases x <;> first|rfl|exact absurd rfl (h1 _)
   rw [e] at e1
   exact Option.some.inj e1
  rw [this]
  exact e2
theorem fmap_inj {s:Nm}:∀ {so:List (Option Nm)} {i j:Nat},(so.filterMap id).Nodup→so[i]?=some (some s)→so[j]?=some (some s)→i=j
 | [],i,j,_,h,_=>by simp at h
 | o :: so,i,j,hn,h1,h2=>by
  have mem:∀ {k:Nat},so[k]?=some (some s)→s ∈ so.filterMap id:=fun h=>List.mem_filterMap.2 ⟨some s,List.mem_of_getElem? h,rfl⟩
  have hn':(so.filterMap id).Nodup:=by
   cases o with
   | none=>simpa using hn
   | some x=>simp only [List.filterMap_cons,id] at hn;exact (List.nodup_cons.1 hn).2
  cases i with
  | zero =>
   simp at h1
   subst h1
   cases j with
   | zero=>rfl
   | succ j =>
    simp only [List.filterMap_cons,id] at hn
    exact absurd (mem (by simpa using h2)) (List.nodup_cons.1 hn).1
  | succ i =>
   cases j with
   | zero =>
    simp at h2
    subst h2
    simp only [List.filterMap_cons,id] at hn
    exact absurd (mem (by simpa using h1)) (List.nodup_cons.1 hn).1
   | succ j =>
    have:=fmap_inj (s:=s) (so:=so) (i:=i) (j:=j) hn' (by simpa using h1) (by simpa using h2)
    omega
theorem foldH_get {nm:Nm} {b:Blk}:∀ (l:List (Nm × Blk)) (h:List (Nm × Blk)),getH ((l.map fun x=>(x.1,some x.2)).foldl (fun h x=>match x.2 with|some b=>setH h x.1 b|none=>delH h x.1) h) nm=some b →
  (∃ i:Nat,l[i]?=some (nm,b))∨(nm ∉ l.map (·.1)∧getH h nm=some b)
 | [],h,hg => .inr ⟨by simp,hg⟩
 | x :: l,h,hg=>by
  simp only [List.map_cons,List.foldl_cons] at hg
  rcases foldH_get l _ hg with ⟨i,hi⟩|⟨h1,h2⟩
  ·exact .inl ⟨i+1,by simpa using hi⟩
  ·rw [getH_setH] at h2
   split at h2
   ·rename_i e
    obtain rfl:=Option.some.inj h2
    exact .inl ⟨0,by subst e;rfl⟩
   ·rename_i e
    exact .inr ⟨by simp [h1];exact fun e'=>e e'.symm,h2⟩
theorem BlkR.reBox {b1:Blk} {n m:Nm} {x z:AV} (h:BlkR C w n b1) (hbox:b1.box=true) (hx:b1.xs=[x]) (hsh:SameSh x z) (hr:CRel C' z (fun j=>w.cell? (C.at n 0 j))) (hd:C'.dat m=C.dat n) (hb:C'.base=C.base) :
  BlkR C' w m ⟨true,b1.tys,[z]⟩:=by
 obtain ⟨k1,k2⟩:=h.box hbox
 have hcell:=h.cells 0 x (by rw [hx];rfl)
 have hlen:=h.len
 rw [hx] at hlen
 refine ⟨by show 1≤maxLen;decide,by unfold Ctx.len;rw [hd];exact hlen,(fun h=>by cases h),fun _=>⟨rfl,by unfold Ctx.real;rw [hd];exact k2⟩,by unfold Ctx.real;rw [hd];exact fun hr=>absurd (h.nilb hr) (by rw [hx];simp),fun i y hy=>?_,?_,by unfold Ctx.real Ctx.loc Ctx.room Ctx.width;rw [hd];exact h.froz⟩
 ·cases i with
  | succ i=>simp at hy
  | zero =>
   simp at hy
   subst hy
   refine ⟨by unfold Ctx.width;rw [hd];exact hsh.len.trans hcell.1,fun j c hc=>?_⟩
   obtain ⟨u,e1,e2⟩:=hr j c hc
   have hj:j<x.cells.length:=by
    have:=(List.getElem?_eq_some_iff.1 hc).1
    have:=hsh.len
    omega
   obtain ⟨u',g1,g2,_⟩:=hcell.2 j _ (List.getElem?_eq_getElem hj)
   have:w.cell? (C.at n 0 j)=some u:=e1
   rw [this] at g1
   obtain rfl:=Option.some.inj g1
   exact ⟨u,by unfold Ctx.at Ctx.loc Ctx.width;rw [hd];exact this,g2,e2⟩
 ·unfold Ctx.real Ctx.loc Ctx.room Ctx.width
  rw [hd,hb]
  have:=h.room
  rw [hx] at this
  exact this
theorem BlkR.none {n:Nm} {tys:List CT} (hd:C.dat n=⟨false,(0,0),tys.length,0,0⟩):BlkR C w n ⟨false,tys,[]⟩ :=
 ⟨Nat.zero_le _,by unfold Ctx.len;rw [hd];rfl,fun _=>by unfold Ctx.width;rw [hd],(fun h=>by cases h),fun _=>rfl,(fun i x h=>by simp at h),(fun h=>by unfold Ctx.real at h;rw [hd] at h;cases h),fun h=>by unfold Ctx.real at h;rw [hd] at h;cases h⟩
theorem argN_get {n j:Nat} (h:j<n):(argN n)[j]?=some [1+j]:=by
 unfold argN
 rw [List.getElem?_map,List.getElem?_range h]
 rfl
theorem isArg_new {n k:Nat} (h:k<n):isArg n [1+k]=true:=by
 simp only [isArg,Bool.and_eq_true]
 exact ⟨Nat.ble_eq_true_of_le (by omega),Nat.ble_eq_true_of_le (by omega)⟩
theorem keepG_inv {n:Nat} {ts:List TypeId} {gs:List Nat} {v:AV} {hp:List (Nm × Blk)} {rs:List AV} {bs':List (Option Blk)} (h:∀ K,keepG P n ts gs K v hp=K rs bs') :
  ∃ vs ys so,unpkA ts v=some vs∧exVs P n hp (ts.map some++(contO (argB hp n)).map fun _=>none) (vs++contO (argB hp n))=some (ys,so)∧(so.filterMap id).Nodup∧rs=ys.take vs.length∧bs'=dropO so gs 0 (reBsO (argB hp n) (ys.drop vs.length)):=by
 classical
 have e:=h fun r b=>if r=rs∧b=bs' then some .undef else none
 rw [if_pos ⟨rfl,rfl⟩] at e
 unfold keepG at e
 split at e
 ·rename_i vs h2
  split at e
  ·rename_i ys so h3
   cases hn:nodupN (so.filterMap id) with
   | false=>rw [hn] at e;cases e
   | true =>
    rw [hn] at e
    simp only [cond_true] at e
    split at e
    ·rename_i hc
     exact ⟨vs,ys,so,h2,h3,nodupN_spec _ hn,hc.1.symm,hc.2.symm⟩
    ·cases e
  ·cases e
 ·cases e
end
end Go.Proofs.VE
