import Derived.Test.YtcondihilccdpaaDoorVEc
namespace Go.Proofs.VE
open Go
section
variable {P:Program} {C:Ctx} {nt:Nat} {st:St} {a:Act} {w:World}
theorem ofVal1_sound (v:Value):VR C (ofVal1 v) v:=by
 unfold ofVal1
 split <;> constructor
theorem ofVal_sound (v:Value):VR C (ofVal v) v:=by
 unfold ofVal
 split
 ·rename_i cs
  cases h:cs.toList.all fun v=>match v with | .agg _ | .tuple _=>false|_=>true with
  | false=>exact .undef _
  | true =>
   have e:(Value.agg cs) = .agg cs.toList.toArray:=by simp
   rw [e]
   refine VR.agg _ _ (by simp) (fun i c v h1 h2=>?_) (fun v hv=>?_)
   ·rw [List.getElem?_map,h2] at h1
    obtain rfl:=Option.some.inj h1
    exact ofVal1_sound v
   ·have:=List.all_eq_true.1 h v hv
    cases v <;> simp_all [Value.oneCell']
 ·rename_i vs
  have e:(Value.tuple vs) = .tuple vs.toList.toArray:=by simp
  rw [e]
  refine VR.tup _ _ (by simp) (fun i c v h1 h2=>?_)
  rw [List.getElem?_map,h2] at h1
  obtain rfl:=Option.some.inj h1
  exact ofVal1_sound v
 ·exact ofVal1_sound v
theorem opA_sound [Glob] (hs:Sim C nt st a w) (x:Operand):VR C (opA st.env x) (a.eval x):=by
 cases x with
 | tmp t=>exact hs.env t
 | const v=>exact ofVal_sound v
 | global g=>exact .undef _
 | func f=>exact VR.fn f [] [] rfl (fun i c v h _=>by simp at h)
theorem toV_sound {x:AV} {v u:Value} (h:VR C x u) (hv:toV x=some v):u=v:=by
 cases h <;> simp_all [toV]
theorem ofV_sound {v:Value} {x:AV} (h:ofV v=some x):VR C x v:=by
 cases v <;> simp [ofV] at h <;> subst h <;> constructor
theorem runP_sound {α:Type}:∀ {s:Sem α} {r:α},runP P s=some r→∀ w,s.run P w = .ok r w:=by
 intro s
 induction s with
 | pure a=>intro r h w;simp only [runP] at h;obtain rfl:=Option.some.inj h;rfl
 | program k ih=>intro r h w;simp only [runP] at h;exact ih P h w
 | _=>intro r h;simp [runP] at h
theorem pick_sound {c:Bool} {x y:AV} {u v:Value} (hx:VR C x u) (hy:VR C y v):VR C (pickA c x y) (if c then u else v):=by
 unfold pickA
 split
 ·cases hx;cases hy
  cases c <;> constructor
 ·cases c
  ·exact hy
  ·exact hx
theorem info_of_underlying {t:TypeId} {d:TypeDesc} (h:P.underlying t=some d):∃ i,P.info? t=some i:=by
 unfold Program.underlying at h
 split at h <;> first|exact ⟨_,by assumption⟩|cases h
theorem run_typeInfo {t:TypeId} {i:TypeInfo} (h:P.info? t=some i):(typeInfo t).run P w = .ok i w:=by
 simp [typeInfo,program,Sem.run,bind,Sem.bind,h,pure]
theorem run_underlying {t:TypeId} {d:TypeDesc} (h:P.underlying t=some d):(underlying t).run P w = .ok d w:=by
 simp [underlying,program,Sem.run,bind,Sem.bind,h,pure]
theorem run_sizeOf {t:TypeId} {d:TypeDesc} (h:P.underlying t=some d):(sizeOf t).run P w = .ok (P.cellsOf t) w:=by
 obtain ⟨i,hi⟩:=info_of_underlying h
 simp [sizeOf,typeInfo,program,Sem.run,bind,Sem.bind,hi,pure,Program.cellsOf]
theorem run_isAgg {t:TypeId} {b:Bool} (h:aggT P t=some b):(isAgg t).run P w = .ok b w:=by
 unfold aggT at h
 cases hu:P.underlying t with
 | none=>simp [hu] at h
 | some d =>
  simp only [hu] at h
  cases d <;> simp_all [isAgg,underlying,program,Sem.run,bind,Sem.bind,pure]
theorem aggT_underlying {t:TypeId} {b:Bool} (h:aggT P t=some b):∃ d,P.underlying t=some d:=by
 unfold aggT at h
 cases hu:P.underlying t with
 | none=>simp [hu] at h
 | some d=>exact ⟨d,rfl⟩
theorem run_bind' {α β:Type} {s:Sem α} {f:α→Sem β} {x:α} {w w':World} (h:s.run P w = .ok x w'):(s >>= f).run P w=(f x).run P w':=by
 rw [Sem.run_bind,h];rfl
theorem add_at (b o n:Nat):(⟨b,o,none⟩:Addr).add n=⟨b,o+n,none⟩:=by unfold Addr.add;split <;> simp_all
theorem run_loadVar_agg {t:TypeId} {b o:Nat} {vs:List Value} (h:aggT P t=some true) (hn:vs.length=P.cellsOf t) (hc:∀ j v,vs[j]?=some v→w.cell? ⟨b,o+j,none⟩=some v) :
  (loadVar t ⟨b,o,none⟩).run P w = .ok (.agg vs.toArray) w:=by
 obtain ⟨d,hd⟩:=aggT_underlying h
 unfold loadVar
 rw [run_bind' (run_isAgg h)]
 simp only [if_true]
 rw [run_bind' (run_sizeOf hd),← hn,run_bind' (run_loadCells_list (P:=P) w ⟨b,o,none⟩ vs (fun j v hj=>by rw [add_at];exact hc j v hj))]
 rfl
theorem run_loadVar_one {t:TypeId} {b o:Nat} {v:Value} (h:aggT P t=some false) (hc:w.cell? ⟨b,o,none⟩=some v) :
  (loadVar t ⟨b,o,none⟩).run P w = .ok v w:=by
 unfold loadVar
 rw [run_bind' (run_isAgg h)]
 simp [load,Sem.run,hc]
theorem proj_sound {mem:Addr→Option Value} {x:AV} {o:Nat} {ct:CT} {c:AV} {v:Value} (h:x.cells[o]?=some c) (hv:VC mem ct c v):proj x o ct=c:=by
 cases hv <;> simp [proj,fI,fB,fS,fL,h]
theorem VC.toVR {ct:CT} {c:AV} {v:Value} (h:VC C.mem ct c v):VR C c v:=by
 cases h with
 | int k n=>exact .int _ _
 | bool b=>exact .bool _
 | str s=>exact .str _
 | fn f=>exact .fn f [] [] rfl fun i c v h=>by simp at h
 | sl e xs a cap U h1 h1m h2 h3 h4 h5=>exact .sl _ _ _ (.sl e xs a cap U h1 h1m h2 h3 h4 h5)
theorem projs_get (x:AV):∀ (tys:List CT) (o j:Nat),(projs x o tys)[j]?=(tys[j]?).map fun c=>proj x (o+j) c
 | [],_,_=>by simp [projs]
 | c :: cs,o,0=>by simp [projs]
 | c :: cs,o,j+1=>by
  simp only [projs,List.getElem?_cons_succ,projs_get x cs (o+1) j]
  rw [show o+1+j=o+(j+1) by omega]
theorem projs_length (x:AV):∀ (tys:List CT) (o:Nat),(projs x o tys).length=tys.length
 | [],_=>rfl
 | _ :: cs,o=>by simp [projs,projs_length x cs]
theorem partT_sound {t:TypeId} {tys:List CT} {x:AV} {off:Nat} {v:AV} {b o:Nat} {U:Nat→Value} (h:partT P t tys x off=some v)
  (hl:x.cells.length=tys.length) (hc:∀ j,j<tys.length→w.cell? ⟨b,o+j,none⟩=some (U j)) (hv:∀ (j:Nat) (ct:CT) (c:AV),tys[j]?=some ct→x.cells[j]?=some c→VC C.mem ct c (U j)) :
  ∃ u,(loadVar t ⟨b,o+off,none⟩).run P w = .ok u w∧VR C v u:=by
 have get:∀ j ct,tys[j]?=some ct→∃ c,x.cells[j]?=some c∧VC C.mem ct c (U j)∧proj x j ct=c:=by
  intro j ct hj
  have hlt:j<x.cells.length:=by rw [hl];exact (List.getElem?_eq_some_iff.1 hj).1
  refine ⟨x.cells[j],List.getElem?_eq_getElem hlt,?_,?_⟩
  ·exact hv j ct _ hj (List.getElem?_eq_getElem hlt)
  ·exact proj_sound (List.getElem?_eq_getElem hlt) (hv j ct _ hj (List.getElem?_eq_getElem hlt))
 unfold partT at h
 split at h
 ·rename_i ha
  cases hb:Nat.ble (off+P.cellsOf t) tys.length with
  | false=>simp [hb] at h
  | true =>
   rw [hb] at h
   simp only [cond_true,Option.some.injEq] at h
   subst h
   have hle:=Nat.le_of_ble_eq_true hb
   refine ⟨_,run_loadVar_agg (vs:=(List.range (P.cellsOf t)).map fun j=>U (off+j)) ha (by simp) (fun j u hj=>?_),?_⟩
   ·rw [List.getElem?_map] at hj
    by_cases hlt:j<P.cellsOf t
    ·rw [List.getElem?_range hlt] at hj
     simp at hj;subst hj
     rw [show o+off+j=o+(off+j) by omega]
     exact hc _ (by omega)
    ·rw [List.getElem?_eq_none (by simp;omega)] at hj;simp at hj
   ·refine VR.agg _ _ (by rw [projs_length];simp;omega) (fun i c v h1 h2=>?_) (fun v hv'=>?_)
    ·rw [projs_get] at h1
     have hi:i<P.cellsOf t:=by
      have:=(List.getElem?_eq_some_iff.1 h2).1;simpa using this
     rw [List.getElem?_map,List.getElem?_range hi] at h2
     simp at h2;subst h2
     rw [List.getElem?_take_of_lt hi,List.getElem?_drop] at h1
     cases ht:tys[off+i]? with
     | none=>simp [ht] at h1
     | some ct =>
      simp only [ht,Option.map_some,Option.some.injEq] at h1
      obtain ⟨c',hc',hvc,hp⟩:=get _ _ ht
      rw [hp] at h1
      rw [← h1]
      exact hvc.toVR
    ·rw [List.mem_map] at hv'
     obtain ⟨j,hj,rfl⟩:=hv'
     rw [List.mem_range] at hj
     have hlt:off+j<tys.length:=by omega
     obtain ⟨c',_,hvc,_⟩:=get (off+j) _ (List.getElem?_eq_getElem hlt)
     exact hvc.oneCell'
 ·rename_i ha
  split at h
  ·rename_i ct ht
   obtain rfl:=Option.some.inj h
   obtain ⟨c',hc',hvc,hp⟩:=get _ _ ht
   refine ⟨U off,run_loadVar_one ha (hc _ (List.getElem?_eq_some_iff.1 ht).1),?_⟩
   rw [hp];exact hvc.toVR
  ·cases h
 ·cases h
theorem partA_sound {t:TypeId} {x:AV} {off:Nat} {v:AV} {b o:Nat} (h:partA P t x off=some v)
  (hc:∀ (j:Nat) (c:AV),x.cells[j]?=some c→∃ u,w.cell? ⟨b,o+j,none⟩=some u∧u.oneCell'=true∧VR C c u) :
  ∃ u,(loadVar t ⟨b,o+off,none⟩).run P w = .ok u w∧VR C v u:=by
 unfold partA at h
 split at h
 ·rename_i ha
  cases hb:Nat.ble (off+P.cellsOf t) x.cells.length with
  | false=>simp [hb] at h
  | true =>
   rw [hb] at h
   simp only [cond_true,Option.some.injEq] at h
   subst h
   have hle:=Nat.le_of_ble_eq_true hb
   have hex:∀ j,j<x.cells.length→∃ u,w.cell? ⟨b,o+j,none⟩=some u∧u.oneCell'=true∧VR C (x.cells.getD j .undef) u:=fun j hj=>by
    obtain ⟨u,h1,h2,h3⟩:=hc j x.cells[j] (List.getElem?_eq_getElem hj)
    exact ⟨u,h1,h2,by simpa [List.getD,List.getElem?_eq_getElem hj] using h3⟩
   let U:Nat→Value:=fun j=>(w.cell? ⟨b,o+j,none⟩).getD undef
   have hU:∀ j,j<x.cells.length→w.cell? ⟨b,o+j,none⟩=some (U j)∧(U j).oneCell'=true∧VR C (x.cells.getD j .undef) (U j):=fun j hj=>by
    obtain ⟨u,h1,h2,h3⟩:=hex j hj
    simp only [U,h1,Option.getD_some]
    exact ⟨trivial,h2,h3⟩
   refine ⟨_,run_loadVar_agg (vs:=(List.range (P.cellsOf t)).map fun j=>U (off+j)) ha (by simp) (fun j u hj=>?_),?_⟩
   ·rw [List.getElem?_map] at hj
    by_cases hlt:j<P.cellsOf t
    ·rw [List.getElem?_range hlt] at hj
     simp only [Option.map_some,Option.some.injEq] at hj
     subst hj
     rw [show o+off+j=o+(off+j) by omega]
     exact (hU _ (by omega)).1
    ·rw [List.getElem?_eq_none (by simp;omega)] at hj;simp at hj
   ·refine VR.agg _ _ (by simp;omega) (fun i c v h1 h2=>?_) (fun v hv'=>?_)
    ·have hi:i<P.cellsOf t:=by
      have:=(List.getElem?_eq_some_iff.1 h2).1;simpa using this
     rw [List.getElem?_map,List.getElem?_range hi] at h2
     simp only [Option.map_some,Option.some.injEq] at h2
     subst h2
     rw [List.getElem?_take_of_lt hi,List.getElem?_drop] at h1
     have:=(hU (off+i) (by omega)).2.2
     simpa [List.getD,h1] using this
    ·rw [List.mem_map] at hv'
     obtain ⟨j,hj,rfl⟩:=hv'
     rw [List.mem_range] at hj
     exact (hU _ (by omega)).2.1
 ·rename_i ha
  obtain ⟨u,h1,_,h3⟩:=hc off v h
  exact ⟨u,run_loadVar_one ha h1,h3⟩
 ·cases h
end
end Go.Proofs.VE
