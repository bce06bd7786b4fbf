import Derived.Test.YtcondihilccdpaaDoorVEe
import Derived.Great.FillDense
import Derived.Great.BuildSlice
namespace Go.Proofs.VE
open Go
section
variable {P:Program} {C:Ctx} {nt:Nat} {st:St} {a:Act} {w:World}
theorem run_sizeOf' {t:TypeId} (h:P.cellsOf t ≠ 0):(sizeOf t).run P w = .ok (P.cellsOf t) w:=by
 cases hi:P.info? t with
 | none=>simp [Program.cellsOf,hi] at h
 | some i=>simp [sizeOf,typeInfo,program,Sem.run,bind,Sem.bind,hi,pure,Program.cellsOf]
theorem run_indexAt_slice {t e:TypeId} {av:Addr} {n cap:Nat} {k:IntKind} {i:Int} (ht:elemT P t=some e) (h0:0≤i) (h1:i<n) :
  (Instr.indexAt t (.slice (some av) n cap) (.int k i)).run P w = .ok (.pointer (some (av.add (i.toNat*P.cellsOf e)))) w:=by
 obtain ⟨hu,d,hd⟩:=elemT_spec ht
 unfold Instr.indexAt
 rw [run_bind' (x:=(k,i)) (w':=w) rfl]
 simp only
 rw [run_bind' (run_underlying hu)]
 simp only
 rw [run_bind' (x:=(some av,n,e)) (w':=w) rfl]
 simp only
 rw [run_bind' (run_underlying hu)]
 simp only [h0,h1,and_self,if_true]
 rw [run_bind' (run_sizeOf hd)]
 rfl
theorem run_indexAt_array {t e:TypeId} {av:Addr} {n:Nat} {k:IntKind} {i:Int} (ht:P.underlying t=some (.array n e)) (hc:P.cellsOf e ≠ 0) (h0:0≤i) (h1:i<n) :
  (Instr.indexAt t (.pointer (some av)) (.int k i)).run P w = .ok (.pointer (some (av.add (i.toNat*P.cellsOf e)))) w:=by
 unfold Instr.indexAt
 rw [run_bind' (x:=(k,i)) (w':=w) rfl]
 simp only
 rw [run_bind' (run_underlying ht)]
 simp only
 rw [show Instr.sureAddr (Value.pointer (some av))=pure av from rfl]
 simp only [pure_bind]
 rw [run_bind' (run_underlying ht)]
 simp only [h0,h1,and_self,if_true]
 rw [run_bind' (run_sizeOf' hc)]
 rfl
theorem indexAddr_sound [Glob] {t:TypeId} {x v:AV} {u:Value} {k:IntKind} {i:Int} (hs:Sim C nt st a w) (hx:VR C x u) (h:indexAddrA P st.heap t x i=some (true,v)) :
  ∃ r,(Instr.indexAt t u (.int k i)).run P w = .ok r w∧VR C v r:=by
 unfold indexAddrA at h
 split at h
 ·rename_i e ht
  split at h
  ·rename_i nm
   split at h
   ·rename_i b hb
    simp only [Option.some.injEq,Prod.mk.injEq,Bool.and_eq_true,decide_eq_true_eq,Bool.not_eq_true'] at h
    obtain ⟨⟨⟨hbox,hw⟩,h0,h1⟩,rfl⟩:=h
    have hw:=Nat.eq_of_beq_eq_true hw
    have B:=hs.blk nm b hb
    have hlen:=B.len
    cases hx with
    | own _ cap hr c1 c2 =>
     refine ⟨_,run_indexAt_slice ht h0 (by omega),?_⟩
     rw [← hw,← B.width hbox,addat,Nat.zero_add]
     exact .ptr _ _ _ hr (by omega)
    | ownNil _ hz=>omega
   ·cases h
  ·rename_i nm o n
   split at h
   ·rename_i b hb
    simp only [Option.some.injEq,Prod.mk.injEq,Bool.and_eq_true,decide_eq_true_eq,Bool.not_eq_true'] at h
    obtain ⟨⟨⟨hbox,hw⟩,⟨h0,h1⟩,h2⟩,rfl⟩:=h
    have hw:=Nat.eq_of_beq_eq_true hw
    have B:=hs.blk nm b hb
    have hlen:=B.len
    cases hx with
    | sub _ _ _ cap av c1 c2 _ _ =>
     obtain ⟨hr,rfl⟩:=c2 (by omega)
     refine ⟨_,run_indexAt_slice ht h0 (by omega),?_⟩
     rw [← hw,← B.width hbox,addat]
     exact .ptr _ _ _ hr (by omega)
   ·cases h
  ·rename_i tys xs
   simp only [Option.some.injEq,Prod.mk.injEq,Bool.and_eq_true,decide_eq_true_eq] at h
   obtain ⟨⟨hw,h0,h1⟩,rfl⟩:=h
   have hw:=Nat.eq_of_beq_eq_true hw
   cases hx with
   | sl _ _ _ hv =>
    cases hv with
    | sl e' xs av cap U hcap hmax hm ha hx hv =>
     obtain ⟨b,o,rfl⟩:=ha (by omega)
     have hlt:i.toNat<xs.length:=by omega
     refine ⟨_,run_indexAt_slice ht h0 (by omega),?_⟩
     have hg:xs.getD i.toNat .undef=xs[i.toNat]:=by simp [List.getD,List.getElem?_eq_getElem hlt]
     rw [hg,add_at,← hw]
     have:=VR.rptr (C:=C) tys xs[i.toNat] 0 b (o+i.toNat*tys.length) (U i.toNat) (fun j hj=>?_) (hx _ _ (List.getElem?_eq_getElem hlt)) (fun j ct c h1 h2=>hv _ _ _ _ _ (List.getElem?_eq_getElem hlt) h1 h2)
     ·exact this
     ·obtain ⟨b',o',hb',hu⟩:=hm i.toNat j hlt hj
      simp only [Option.some.injEq,Addr.mk.injEq,and_true] at hb'
      obtain ⟨rfl,rfl⟩:=hb'
      exact hu
  ·cases h
 ·split at h
  ·rename_i n e ht
   split at h
   ·rename_i nm j off
    cases hc:decide (0≤i) && decide (i<n) && !Nat.beq (P.cellsOf e) 0 with
    | false=>rw [hc] at h;simp at h
    | true =>
     rw [hc] at h
     simp only [Option.some.injEq,Prod.mk.injEq,true_and] at h
     subst h
     simp only [Bool.and_eq_true,decide_eq_true_eq,Bool.not_eq_true'] at hc
     obtain ⟨⟨h0,h1⟩,h2⟩:=hc
     have h2:=Nat.ne_of_beq_eq_false h2
     cases hx with
     | ptr _ _ _ hr hi =>
      refine ⟨_,run_indexAt_array ht h2 h0 h1,?_⟩
      rw [addoff]
      exact .ptr _ _ _ hr hi
   ·rename_i tys y off
    cases hc:decide (0≤i) && decide (i<n) && !Nat.beq (P.cellsOf e) 0 with
    | false=>rw [hc] at h;simp at h
    | true =>
     rw [hc] at h
     simp only [Option.some.injEq,Prod.mk.injEq,true_and] at h
     subst h
     simp only [Bool.and_eq_true,decide_eq_true_eq,Bool.not_eq_true'] at hc
     obtain ⟨⟨h0,h1⟩,h2⟩:=hc
     have h2:=Nat.ne_of_beq_eq_false h2
     cases hx with
     | rptr _ _ _ b o U hm hx hv =>
      refine ⟨_,run_indexAt_array ht h2 h0 h1,?_⟩
      rw [add_at,Nat.add_assoc]
      exact .rptr _ _ _ b o U hm hx hv
   ·cases h
  ·cases h
theorem fieldT_spec {t:TypeId} {f:Nat} {fd:Field} (h:fieldT P t f=some fd):∃ fs,P.underlying t=some (.struct fs)∧fs[f]?=some fd:=by
 unfold fieldT at h
 split at h
 ·exact ⟨_,by assumption,h⟩
 ·cases h
theorem run_fieldAt {t:TypeId} {f:Nat} {fd:Field} {av:Addr} (h:fieldT P t f=some fd) (hc:P.cellsOf fd.type ≠ 0) :
  (Instr.fieldAt t (.pointer (some av)) f).run P w = .ok (.pointer (some (av.add fd.offset))) w:=by
 obtain ⟨fs,hu,hf⟩:=fieldT_spec h
 unfold Instr.fieldAt
 rw [run_bind' (run_underlying hu)]
 simp only [hf]
 rw [run_bind' (x:=av) (w':=w) rfl]
 unfold fieldPlace
 rw [run_bind' (x:=av.add fd.offset) (w':=w) (by rw [run_bind' (run_sizeOf' hc)];simp [hc])]
 rfl
theorem part_sound {t:TypeId} {cs:List AV} {vs:List Value} {off:Nat} {v:AV} (h1:cs.length=vs.length) (h2:∀ (i:Nat) (c:AV) (v:Value),cs[i]?=some c→vs[i]?=some v→VR C c v)
  (h3:∀ v,v ∈ vs→v.oneCell'=true) (h:partA P t (.agg cs) off=some v):∃ u,(part t vs.toArray off).run P w = .ok u w∧VR C v u:=by
 unfold partA at h
 split at h
 ·rename_i ha
  obtain ⟨d,hd⟩:=aggT_underlying ha
  cases hb:Nat.ble (off+P.cellsOf t) (AV.agg cs).cells.length with
  | false=>simp [hb] at h
  | true =>
   rw [hb] at h
   simp only [cond_true,Option.some.injEq,AV.cells] at h
   subst h
   have hle:off+P.cellsOf t≤cs.length:=Nat.le_of_ble_eq_true hb
   refine ⟨.agg ((vs.drop off).take (P.cellsOf t)).toArray,?_,.agg _ _ (by simp;omega) (fun i c v hc hv=>?_) (fun v hv=>h3 _ (List.mem_of_mem_drop (List.mem_of_mem_take hv)))⟩
   ·unfold part
    rw [run_bind' (run_isAgg ha)]
    simp only [if_true]
    rw [run_bind' (run_sizeOf hd)]
    show Result.ok _ _=_
    congr 2
    apply Array.ext'
    simp [List.take_drop]
   ·rw [List.getElem?_take] at hc hv
    split at hc
    ·rename_i hlt
     rw [if_pos hlt] at hv
     rw [List.getElem?_drop] at hc hv
     exact h2 _ _ _ hc hv
    ·cases hc
 ·rename_i ha
  have hlt:off<cs.length:=(List.getElem?_eq_some_iff.1 h).1
  refine ⟨vs[off]'(by omega),?_,h2 _ _ _ h (List.getElem?_eq_getElem (by omega))⟩
  unfold part
  rw [run_bind' (run_isAgg ha)]
  have:vs.toArray[off]?=some (vs[off]'(by omega)):=by simp [List.getElem?_eq_getElem (show off<vs.length by omega)]
  simp only [Bool.false_eq_true,if_false,this]
  rfl
 ·cases h
theorem run_field {t:TypeId} {f:Nat} {fd:Field} {vs:Array Value} {u:Value} (h:fieldT P t f=some fd) (hp:(part fd.type vs fd.offset).run P w = .ok u w) :
  (Instr.field t (.agg vs) f).run P w = .ok u w:=by
 obtain ⟨fs,hu,hf⟩:=fieldT_spec h
 unfold Instr.field
 rw [run_bind' (run_underlying hu)]
 simp only [hf]
 rw [run_bind' (x:=vs) (w':=w) rfl]
 exact hp
theorem run_index_str {t:TypeId} {s:ByteArray} {k:IntKind} {i:Int} (ht:P.underlying t=some .string) (h0:0≤i) (h1:i<s.size) :
  (Instr.index t (.string s) (.int k i)).run P w = .ok (.int .u8 (strAt s i.toNat)) w:=by
 unfold Instr.index
 rw [run_bind' (x:=(k,i)) (w':=w) rfl]
 simp only
 rw [run_bind' (run_underlying ht)]
 simp only [h0,if_true]
 have hlt:i.toNat<s.size:=by omega
 have:s[i.toNat]?=some s[i.toNat]:=by simp [hlt]
 simp only [this,strAt,Option.getD_some]
 rfl
theorem run_index_arr {t e:TypeId} {n:Nat} {vs:Array Value} {k:IntKind} {i:Int} {u:Value} (ht:P.underlying t=some (.array n e)) (hc:(sizeOf e).run P w = .ok (P.cellsOf e) w) (h0:0≤i) (h1:i<n)
  (hp:(part e vs (i.toNat*P.cellsOf e)).run P w = .ok u w) :
  (Instr.index t (.agg vs) (.int k i)).run P w = .ok u w:=by
 unfold Instr.index
 rw [run_bind' (x:=(k,i)) (w':=w) rfl]
 simp only
 rw [run_bind' (run_underlying ht)]
 simp only [h0,h1,and_self,if_true]
 rw [run_bind' hc]
 exact hp
theorem partA_size {t:TypeId} {x v:AV} {off:Nat} (h:partA P t x off=some v):(sizeOf t).run P w = .ok (P.cellsOf t) w:=by
 unfold partA at h
 split at h
 ·rename_i ha;obtain ⟨d,hd⟩:=aggT_underlying ha;exact run_sizeOf hd
 ·rename_i ha;obtain ⟨d,hd⟩:=aggT_underlying ha;exact run_sizeOf hd
 ·cases h
structure CellsR (C:Ctx) (cs:List AV) (vs:Array Value):Prop where
 size:cs.length=vs.size
 get:∀ (i:Nat) (c:AV) (u:Value),cs[i]?=some c→vs[i]?=some u→VR C c u
 one:∀ (i:Nat) (u:Value),vs[i]?=some u→u.oneCell'=true
theorem one_cells {v:Value} (h:v.oneCell'=true):v.cells=#[v]:=by cases v <;> first|rfl|(simp [Value.oneCell'] at h)
theorem okV_one {x:AV} {v:Value} (hv:VR C x v) (h:okV x=true) (ha:∀ cs,x ≠ .agg cs):v.oneCell'=true:=by
 cases hv <;> first|rfl|(simp [okV] at h;done)|(exact absurd rfl (ha _))|skip
 rename_i h
 exact h.oneCell'
theorem okV_cells {x:AV} {v:Value} (hv:VR C x v) (h:okV x=true):CellsR C x.cells v.cells:=by
 by_cases ha:∃ cs,x = .agg cs
 ·obtain ⟨cs,rfl⟩:=ha
  obtain ⟨vs,rfl,h1,h2,h3⟩:=hv.agg_inv
  refine ⟨by simp [AV.cells,Value.cells,h1],fun i c u hc hu=>?_,fun i u hu=>?_⟩
  ·simp only [AV.cells,Value.cells,List.getElem?_toArray] at hc hu
   exact h2 _ _ _ hc hu
  ·simp only [Value.cells,List.getElem?_toArray] at hu
   exact h3 _ (List.mem_of_getElem? hu)
 ·have hone:=okV_one hv h (fun cs e=>ha ⟨cs,e⟩)
  have hx:x.cells=[x]:=by cases x <;> first|rfl|(exact absurd ⟨_,rfl⟩ ha)
  rw [one_cells hone,hx]
  refine ⟨rfl,fun i c u hc hu=>?_,fun i u hu=>?_⟩
  ·cases i with
   | zero=>simp at hc hu;subst hc;subst hu;exact hv
   | succ i=>simp at hc
  ·cases i with
   | zero=>simp at hu;subst hu;exact hone
   | succ i=>simp at hu
theorem layAt_get (cs vs:List AV) (off i:Nat) (h:off+vs.length≤cs.length):(layAt cs off vs)[i]?=if off≤i∧i<off+vs.length then vs[i - off]? else cs[i]?:=by
 unfold layAt
 by_cases h1:i<off
 ·rw [if_neg (by omega),List.append_assoc,List.getElem?_append_left (by simp;omega),List.getElem?_take_of_lt h1]
 ·by_cases h2:i<off+vs.length
  ·rw [if_pos (by omega),List.append_assoc,List.getElem?_append_right (by simp;omega),List.getElem?_append_left (by simp;omega)]
   congr 1
   simp;omega
  ·rw [if_neg (by omega),List.getElem?_append_right (by simp;omega),List.getElem?_drop]
   congr 1
   simp;omega
theorem layAt_length (cs vs:List AV) (off:Nat) (h:off+vs.length≤cs.length):(layAt cs off vs).length=cs.length:=by
 unfold layAt;simp;omega
theorem CellsR.lay {cs vs:List AV} {us ws:Array Value} {off:Nat} (h1:CellsR C cs us) (h2:CellsR C vs ws) (hl:off+vs.length≤cs.length) :
  CellsR C (layAt cs off vs) (ws.zipIdx.foldl (fun cs (c,j)=>cs.setIfInBounds (off+j) c) us):=by
 have e:(ws.zipIdx.foldl (fun cs (c,j)=>cs.setIfInBounds (off+j) c) us)=((ws.toList.zipIdx 0).foldl (fun cs (x:Value × Nat)=>cs.setIfInBounds (off+x.2) x.1) us):=by
  rw [← Array.foldl_toList,Array.toList_zipIdx]
 obtain ⟨g1,g2⟩:=Go.Great.foldl_set off ws.toList 0 us
 rw [← e] at g1 g2
 have hs1:=h1.size
 have hs2:=h2.size
 refine ⟨by rw [g1,layAt_length _ _ _ hl];exact hs1,fun i c u hc hu=>?_,fun i u hu=>?_⟩
 ·rw [layAt_get _ _ _ _ hl] at hc
  rw [g2 i] at hu
  simp only [Nat.add_zero,Array.length_toList] at hu
  by_cases hin:off≤i∧i<off+vs.length
  ·rw [if_pos hin] at hc
   rw [if_pos (by omega)] at hu
   exact h2.get _ _ _ hc (by simpa using hu)
  ·rw [if_neg hin] at hc
   rw [if_neg (by omega)] at hu
   exact h1.get _ _ _ hc hu
 ·rw [g2 i] at hu
  split at hu
  ·exact h2.one _ _ (by simpa using hu)
  ·exact h1.one _ _ hu
inductive PartsR (C:Ctx):List (Nat × AV)→List (Nat × Value)→Prop
 | nil:PartsR C [] []
 | cons (i:Nat) (x:AV) (v:Value) (r:List (Nat × AV)) (r':List (Nat × Value)) (h:VR C x v) (hr:PartsR C r r'):PartsR C ((i,x) :: r) ((i,v) :: r')
theorem fill_sound {place:Nat→Option (Nat × Nat)} {l:List (Nat × AV)} {l':List (Nat × Value)} (hp:PartsR C l l'):∀ {cs:List AV} {us:Array Value} {r:List AV},CellsR C cs us→fillA place cs l=some r →
  ∃ r',Instr.fill place us l'=some r'∧CellsR C r r':=by
 induction hp with
 | nil=>intro cs us r h hf;simp only [fillA,Option.some.injEq] at hf;subst hf;exact ⟨us,rfl,h⟩
 | cons i x v l l' hx _ ih =>
  intro cs us r h hf
  unfold fillA at hf
  split at hf
  ·cases hf
  ·rename_i off size hpl
   cases hc:okV x && Nat.beq x.cells.length size && Nat.ble (off+x.cells.length) cs.length with
   | false=>rw [hc] at hf;simp at hf
   | true =>
    rw [hc] at hf
    simp only [Bool.and_eq_true] at hc
    obtain ⟨⟨hok,hsz⟩,hle⟩:=hc
    have hsz:=Nat.eq_of_beq_eq_true hsz
    have hle:=Nat.le_of_ble_eq_true hle
    have hxc:=okV_cells hx hok
    obtain ⟨r',h1,h2⟩:=ih (h.lay hxc hle) hf
    refine ⟨r',?_,h2⟩
    unfold Instr.fill
    simp only [hpl]
    have e1:=hxc.size
    have e2:=h.size
    rw [if_neg (by simp;omega)]
    exact h1
theorem run_places' (fs:List Field) (h:fs.all (fun f=>(P.info? f.type).isSome)=true):fs.mapM (fun f=>(P.info? f.type).map fun i=>(f.offset,i.size))=some (fs.map fun f=>(f.offset,P.cellsOf f.type)):=by
 induction fs with
 | nil=>rfl
 | cons f fs ih =>
  simp only [List.all_cons,Bool.and_eq_true] at h
  obtain ⟨i,hi⟩:=Option.isSome_iff_exists.1 h.1
  simp [List.mapM_cons,hi,ih h.2,Program.cellsOf]
theorem build_sound {t:TypeId} {fs:Array Field} {z:AV} {l:List (Nat × AV)} {l':Array (Nat × Value)} {r:List AV} (hu:P.underlying t=some (.struct fs)) (hz:zeroA P t=some z) (hok:okV z=true)
  (hi:fs.toList.all (fun f=>(P.info? f.type).isSome)=true) (hp:PartsR C l l'.toList) (hf:fillA (fun i=>(fs[i]?).map fun f=>(f.offset,P.cellsOf f.type)) z.cells l=some r) :
  ∃ u,(Instr.build t l').run P w = .ok u w∧VR C (.agg r) u:=by
 unfold zeroA at hz
 obtain ⟨zv,hzv,rfl⟩:=Option.map_eq_some_iff.1 hz
 obtain ⟨it,hit,hzero⟩:=Option.bind_eq_some_iff.1 hzv
 obtain ⟨r',h1,h2⟩:=fill_sound hp (okV_cells (ofVal_sound zv) hok) hf
 refine ⟨.agg r',run_build w t l' r' ?_,?_⟩
 ·unfold Program.built
  simp only [hit,hu,hzero,run_places' _ hi]
  rw [← h1]
  congr 1
  funext i
  simp
 ·have:Value.agg r' = .agg r'.toList.toArray:=by simp
  rw [this]
  exact .agg _ _ (by simpa using h2.size) (fun i c v hc hv=>h2.get _ _ _ hc (by simpa using hv)) (fun v hv=>by
   obtain ⟨i,hi⟩:=List.getElem?_of_mem hv
   exact h2.one i v (by simpa using hi))
theorem build_soundA {t e:TypeId} {n:Nat} {z:AV} {l:List (Nat × AV)} {l':Array (Nat × Value)} {r:List AV} (hu:P.underlying t=some (.array n e)) (hz:zeroA P t=some z) (hok:okV z=true)
  (hi:(P.info? e).isSome=true) (hp:PartsR C l l'.toList) (hf:fillA (fun i=>some (i*P.cellsOf e,P.cellsOf e)) z.cells l=some r) :
  ∃ u,(Instr.build t l').run P w = .ok u w∧VR C (.agg r) u:=by
 unfold zeroA at hz
 obtain ⟨zv,hzv,rfl⟩:=Option.map_eq_some_iff.1 hz
 obtain ⟨it,hit,hzero⟩:=Option.bind_eq_some_iff.1 hzv
 obtain ⟨ie,hie⟩:=Option.isSome_iff_exists.1 hi
 have hce:P.cellsOf e=ie.size:=by unfold Program.cellsOf;rw [hie];rfl
 rw [hce] at hf
 obtain ⟨r',h1,h2⟩:=fill_sound hp (okV_cells (ofVal_sound zv) hok) hf
 refine ⟨.agg r',run_build w t l' r' ?_,?_⟩
 ·unfold Program.built
  simp only [hit,hu,hzero,hie]
  exact h1
 ·have:Value.agg r' = .agg r'.toList.toArray:=by simp
  rw [this]
  exact .agg _ _ (by simpa using h2.size) (fun i c v hc hv=>h2.get _ _ _ hc (by simpa using hv)) (fun v hv=>by
   obtain ⟨i,hi⟩:=List.getElem?_of_mem hv
   exact h2.one i v (by simpa using hi))
end
end Go.Proofs.VE
