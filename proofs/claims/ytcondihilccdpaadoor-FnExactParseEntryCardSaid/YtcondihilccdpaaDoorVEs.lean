import Derived.Test.YtcondihilccdpaaDoorVEr
namespace Go.Proofs.VE
open Go
section
variable {P:Program} {h1 h2:List (Nm × Blk)}
def SameAt (h1 h2:List (Nm × Blk)) (x:AV):Prop:=∀ n ∈ namesV x,getH h1 n=getH h2 n
theorem sliceA_congr {sz:Nat} {x:AV} {lo hi:Option Int} (h:SameAt h1 h2 x):sliceA h1 sz x lo hi=sliceA h2 sz x lo hi:=by
 cases x <;> try rfl
 ·rename_i nm;simp only [sliceA,h nm (by simp [namesV,namesC,namesK])]
 ·rename_i nm _ _;simp only [sliceA,h nm (by simp [namesV,namesC,namesK])]
theorem indexAddrA_congr {t:TypeId} {x:AV} {i:Int} (h:SameAt h1 h2 x):indexAddrA P h1 t x i=indexAddrA P h2 t x i:=by
 unfold indexAddrA
 cases elemT P t with
 | none=>rfl
 | some e =>
  cases x <;> try rfl
  ·rename_i nm;simp only [h nm (by simp [namesV,namesC,namesK])]
  ·rename_i nm _ _;simp only [h nm (by simp [namesV,namesC,namesK])]
theorem lenA_congr {x:AV} (h:SameAt h1 h2 x):lenA h1 x=lenA h2 x:=by
 cases x <;> try rfl
 rename_i nm;simp only [lenA,h nm (by simp [namesV,namesC,namesK])]
theorem elemsA_congr {x:AV} (h:SameAt h1 h2 x):elemsA h1 x=elemsA h2 x:=by
 cases x <;> try rfl
 ·rename_i nm;simp only [elemsA,h nm (by simp [namesV,namesC,namesK])]
 ·rename_i nm _ _;simp only [elemsA,h nm (by simp [namesV,namesC,namesK])]
theorem capArg_congr {x:AV} (h:∀ n ∈ namesK x,getH h1 n=getH h2 n):capArg h1 x=capArg h2 x:=by
 cases x <;> try rfl
 ·rename_i nm _ _;simp only [capArg,h nm (by simp [namesK])]
 ·rename_i f caps;cases caps <;> rfl
theorem capArgs_congr:∀ (xs:List AV),(∀ x ∈ xs,∀ n ∈ namesK x,getH h1 n=getH h2 n)→capArgs h1 xs=capArgs h2 xs
 | [],_=>rfl
 | x :: xs,h=>by
  simp only [capArgs,capArg_congr (h x List.mem_cons_self),capArgs_congr xs fun y hy=>h y (List.mem_cons_of_mem _ hy)]
theorem getAll_congr:∀ (ns:List Nm),(∀ n ∈ ns,getH h1 n=getH h2 n)→getAll h1 ns=getAll h2 ns
 | [],_=>rfl
 | n :: ns,h=>by
  simp only [getAll,h n List.mem_cons_self,getAll_congr ns fun m hm=>h m (List.mem_cons_of_mem _ hm)]
theorem dedupN_mem {n:Nm}:∀ (l acc:List Nm),n ∈ dedupN acc l→n ∈ acc∨n ∈ l
 | [],acc,h => .inl h
 | m :: r,acc,h=>by
  simp only [dedupN] at h
  cases hc:acc.any (nmEq m) <;> rw [hc] at h
  ·rcases dedupN_mem r _ h with h|h
   ·rcases List.mem_append.1 h with h|h
    ·exact .inl h
    ·exact .inr (List.mem_cons.2 (.inl (by simpa using h)))
   ·exact .inr (List.mem_cons_of_mem _ h)
  ·rcases dedupN_mem r _ h with h|h
   ·exact .inl h
   ·exact .inr (List.mem_cons_of_mem _ h)
theorem mutW_congr {vals caps:List AV} {m:List AV→List Blk→Option (Bool × AV × List Blk)} {dst:Option Nat} (h:∀ x ∈ vals,SameAt h1 h2 x) (hk:∀ x ∈ caps,∀ n ∈ namesK x,getH h1 n=getH h2 n):mutW h1 vals caps m dst=mutW h2 vals caps m dst:=by
 unfold mutW
 rw [getAll_congr _ fun n hn=>by
  rcases dedupN_mem _ _ hn with hn|hn
  ·cases hn
  ·rcases List.mem_append.1 hn with hn|hn
   ·obtain ⟨x,hx,hn⟩:=List.mem_flatMap.1 hn
    exact h x hx n hn
   ·obtain ⟨x,hx,hn⟩:=List.mem_flatMap.1 hn
    exact hk x hx n hn]
theorem boxN_congr {n:Nm} (h:getH h1 n=getH h2 n):boxN h1 n=boxN h2 n:=by unfold boxN;rw [h]
theorem flat_congrN {f g:Nm→List Nm}:∀ (l:List Nm),(∀ n ∈ l,f n=g n)→l.flatMap f=l.flatMap g
 | [],_=>rfl
 | n :: l,h=>by rw [List.flatMap_cons,List.flatMap_cons,h n List.mem_cons_self,flat_congrN l fun m hm=>h m (List.mem_cons_of_mem _ hm)]
theorem genW_congr {q:Nm} {l:List Nm} {vals:List AV} {m:List AV→List Blk→Option (Bool × List AV × List (Option Blk))} {dst:Option Nat} (e0:∀ n ∈ l,getH h1 n=getH h2 n)
  (hb:∀ n ∈ l,∀ k ∈ boxN h2 n,getH h1 k=getH h2 k):genW q h1 l vals m dst=genW q h2 l vals m dst:=by
 have e1:closeN h1 l=closeN h2 l:=by
  unfold closeN
  rw [flat_congrN _ fun n hn=>boxN_congr (e0 n hn)]
 have e2:getAll h1 (closeN h2 l)=getAll h2 (closeN h2 l):=getAll_congr _ fun n hn=>by
  rcases dedupN_mem _ _ hn with hn|hn
  ·cases hn
  ·rcases List.mem_append.1 hn with hn|hn
   ·exact e0 n hn
   ·obtain ⟨k,hk,hn⟩:=List.mem_flatMap.1 hn
    exact hb k hk n hn
 unfold genW
 rw [e1,e2]
theorem roArg_congr {t:TypeId} {x:AV} (h:∀ n ∈ namesC x,getH h1 n=getH h2 n):roArg P h1 t x=roArg P h2 t x:=by
 cases x <;> try rfl
 ·rename_i nm;simp only [roArg,h nm (by simp [namesC,namesK])]
 ·rename_i nm _ _;simp only [roArg,h nm (by simp [namesC,namesK])]
 ·rename_i f cs;simp only [roArg,capArgs_congr cs fun x hx n hn=>h n (by simp only [namesC,List.mem_flatMap];exact ⟨x,hx,hn⟩)]
theorem roArgs_congr:∀ (ts:List TypeId) (xs:List AV),(∀ x ∈ xs,∀ n ∈ namesC x,getH h1 n=getH h2 n)→roArgs P h1 ts xs=roArgs P h2 ts xs
 | [],[],_=>rfl
 | [],_ :: _,_=>rfl
 | _ :: _,[],_=>rfl
 | t :: ts,x :: xs,h=>by
  simp only [roArgs,roArg_congr (h x List.mem_cons_self),roArgs_congr ts xs fun y hy=>h y (List.mem_cons_of_mem _ hy)]
theorem roVal_congr {t:TypeId} {x:AV} (h:SameAt h1 h2 x):roVal P h1 t x=roVal P h2 t x:=by
 by_cases hx:∃ cs,x = .agg cs
 ·obtain ⟨cs,rfl⟩:=hx
  simp only [roVal]
  rw [roArgs_congr _ cs fun y hy n hn=>h n (by simp only [namesV,List.mem_flatMap];exact ⟨y,hy,hn⟩)]
 ·have e:∀ hp,roVal P hp t x=roArg P hp t x:=fun hp=>by cases x <;> first|rfl|exact absurd ⟨_,rfl⟩ hx
  have en:namesV x=namesC x:=by cases x <;> first|rfl|exact absurd ⟨_,rfl⟩ hx
  rw [e,e]
  exact roArg_congr fun n hn=>h n (by rw [en];exact hn)
theorem roVals_congr:∀ (ts:List TypeId) (xs:List AV),(∀ x ∈ xs,SameAt h1 h2 x)→roVals P h1 ts xs=roVals P h2 ts xs
 | [],[],_=>rfl
 | [],_ :: _,_=>rfl
 | _ :: _,[],_=>rfl
 | t :: ts,x :: xs,h=>by
  simp only [roVals,roVal_congr (h x List.mem_cons_self),roVals_congr ts xs fun y hy=>h y (List.mem_cons_of_mem _ hy)]
end
section
variable {cf:Cfg} {π:Nm} {st1 st2:St}
def readsB:Op→Bool
 | .load .. | .slice .. | .indexAddr .. | .store .. | .buildSlice .. | .convert .. | .call _=>true
 | _=>false
theorem optmap_congr {lo:Option Operand} (h:∀ x,lo=some x→opA st1.env x=opA st2.env x):lo.map (fun x=>intOf? (opA st1.env x))=lo.map (fun x=>intOf? (opA st2.env x)):=by
 cases lo with
 | none=>rfl
 | some x=>simp only [Option.map_some,h x rfl]
theorem val_local {op:Op} (ho:∀ x ∈ op.operands.toList,opA st1.env x=opA st2.env x)
  (hn:readsB op=true→∀ x ∈ op.operands.toList,SameAt st1.heap st2.heap (opA st2.env x)):valA cf.P st1 op=valA cf.P st2 op:=by
 cases op with
 | move x=>simp only [valA,ho x (by simp [Op.operands])]
 | assign x=>simp only [valA,ho x (by simp [Op.operands])]
 | pick c x y=>simp only [valA,ho c (by simp [Op.operands]),ho x (by simp [Op.operands]),ho y (by simp [Op.operands])]
 | load t x =>
  have hs:=hn rfl x (by simp [Op.operands])
  simp only [valA,ho x (by simp [Op.operands])]
  generalize opA st2.env x=v at hs
  cases v <;> try rfl
  rename_i nm _ _
  simp only [hs nm (by simp [namesV,namesC,namesK])]
 | nilCheck x=>simp only [valA,ho x (by simp [Op.operands])]
 | binOp op t x y ty=>simp only [valA,ho x (by simp [Op.operands]),ho y (by simp [Op.operands])]
 | unOp op t x=>simp only [valA,ho x (by simp [Op.operands])]
 | convert s d x =>
  have hs:=hn rfl x (by simp [Op.operands])
  simp only [valA,ho x (by simp [Op.operands])]
  generalize opA st2.env x=v at hs
  cases v <;> try rfl
  rename_i nm
  simp only [hs nm (by simp [namesV,namesC,namesK])]
 | makeFunc f first caps =>
  have e:caps.toList.map (opA st1.env)=caps.toList.map (opA st2.env):=List.map_congr_left fun x hx=>ho x (by simp only [Op.operands,Array.toList_append,List.mem_append];exact .inr hx)
  cases f <;> first|rfl|simp only [valA,e]
 | slice t x lo hi mx =>
  have hs:=hn rfl x (by simp [Op.operands])
  have hx:=ho x (by simp [Op.operands])
  have hlo:=optmap_congr (st1:=st1) (st2:=st2) (lo:=lo) fun y hy=>ho y (by subst hy;simp [Op.operands])
  have hhi:=optmap_congr (st1:=st1) (st2:=st2) (lo:=hi) fun y hy=>ho y (by subst hy;simp [Op.operands])
  simp only [valA,hx,hlo,hhi]
  have hsl:∀ sz l h,sliceA st1.heap sz (opA st2.env x) l h=sliceA st2.heap sz (opA st2.env x) l h:=fun sz l h=>sliceA_congr hs
  simp only [hsl]
 | fieldAddr s x f=>simp only [valA,ho x (by simp [Op.operands])]
 | field t x f=>simp only [valA,ho x (by simp [Op.operands])]
 | indexAddr t x i =>
  have hs:=hn rfl x (by simp [Op.operands])
  have hix:∀ i,indexAddrA cf.P st1.heap t (opA st2.env x) i=indexAddrA cf.P st2.heap t (opA st2.env x) i:=fun i=>indexAddrA_congr hs
  simp only [valA,ho x (by simp [Op.operands]),ho i (by simp [Op.operands]),hix]
 | index t x i=>simp only [valA,ho x (by simp [Op.operands]),ho i (by simp [Op.operands])]
 | extract x k=>simp only [valA,ho x (by simp [Op.operands])]
 | build t parts =>
  have e:(parts.toList.map fun (i,x)=>(i,opA st1.env x))=parts.toList.map fun (i,x)=>(i,opA st2.env x):=List.map_congr_left fun p hp=>by
   obtain ⟨i,x⟩:=p
   simp only
   rw [ho x (by simp only [Op.operands];exact List.mem_map.2 ⟨(i,x),hp,rfl⟩)]
  simp only [valA,e]
 | call c =>
  obtain ⟨callee,args,argTypes⟩:=c
  have harg:∀ x ∈ args.toList,opA st1.env x=opA st2.env x∧SameAt st1.heap st2.heap (opA st2.env x):=fun x hx =>
   have hm:x ∈ (Op.call ⟨callee,args,argTypes⟩).operands.toList:=by
    simp only [Op.operands,Call.operands,Array.toList_append,List.mem_append];exact .inr hx
   ⟨ho x hm,hn rfl x hm⟩
  have e:args.toList.map (opA st1.env)=args.toList.map (opA st2.env):=List.map_congr_left fun x hx=>(harg x hx).1
  cases callee with
  | builtin b =>
   cases b <;> try rfl
   case len =>
    simp only [valA]
    cases hl:args.toList with
    | nil=>rfl
    | cons x l =>
     obtain ⟨g1,g2⟩:=harg x (by rw [hl];exact List.mem_cons_self)
     cases l with
     | nil =>
      generalize (argTypes[0]?).bind cf.P.underlying=dd
      cases dd with
      | none=>rfl
      | some dd=>cases dd <;> first|rfl|simp only [g1,lenA_congr g2]
     | cons y l=>rfl
   case min=>simp only [valA,e]
   case max=>simp only [valA,e]
  | _=>rfl
 | _=>rfl
theorem dels_congr {n:Nm}:∀ (l:List Nm) {h1 h2:List (Nm × Blk)},getH h1 n=getH h2 n→getH (dels l h1) n=getH (dels l h2) n
 | [],_,_,h=>h
 | m :: l,h1,h2,h=>by
  show getH (dels l (delH h1 m)) n=getH (dels l (delH h2 m)) n
  refine dels_congr l ?_
  rw [getH_delH,getH_delH,h]
theorem frzC_congr {h1 h2:List (Nm × Blk)} {t:CT} {c:AV} (h:∀ n ∈ namesC c,getH h1 n=getH h2 n):frzC h1 t c=frzC h2 t c:=by
 unfold frzC
 cases t <;> try rfl
 cases c <;> try rfl
 rename_i nm
 simp only [h nm (by simp [namesC,namesK])]
theorem frzCs_congr:∀ (ts:List CT) (xs:List AV) {h1 h2:List (Nm × Blk)},(∀ x ∈ xs,∀ n ∈ namesC x,getH h1 n=getH h2 n)→frzCs h1 ts xs=frzCs h2 ts xs
 | [],[],_,_,_=>rfl
 | [],_ :: _,_,_,_=>rfl
 | _ :: _,[],_,_,_=>rfl
 | t :: ts,x :: xs,h1,h2,h=>by
  unfold frzCs
  rw [frzC_congr (h x List.mem_cons_self)]
  cases frzC h2 t x with
  | none=>rfl
  | some p =>
   obtain ⟨y,l⟩:=p
   simp only
   rw [frzCs_congr ts xs fun x hx n hn=>dels_congr l (h x (List.mem_cons_of_mem _ hx) n hn)]
theorem frzV_congr {h1 h2:List (Nm × Blk)} {ts:List CT} {v:AV} (h:SameAt h1 h2 v):frzV h1 ts v=frzV h2 ts v:=by
 have one:∀ x,(∀ n ∈ namesC x,getH h1 n=getH h2 n)→frz1 h1 ts x=frz1 h2 ts x:=fun x hx=>by
  unfold frz1
  split
  ·exact frzC_congr hx
  ·rfl
 cases v with
 | agg cs =>
  simp only [frzV]
  rw [frzCs_congr ts cs fun x hx n hn=>h n (by simp only [namesV,List.mem_flatMap];exact ⟨x,hx,hn⟩)]
 | tup _=>rfl
 | undef=>rfl
 | _=>exact one _ h
theorem frzVs_congr {ts:List CT}:∀ (vs:List AV) {h1 h2:List (Nm × Blk)},(∀ v ∈ vs,SameAt h1 h2 v)→frzVs h1 ts vs=frzVs h2 ts vs
 | [],_,_,_=>rfl
 | v :: vs,h1,h2,h=>by
  unfold frzVs
  rw [frzV_congr (h v List.mem_cons_self)]
  cases frzV h2 ts v with
  | none=>rfl
  | some p =>
   obtain ⟨y,l⟩:=p
   simp only
   rw [frzVs_congr vs fun x hx n hn=>dels_congr l (h x (List.mem_cons_of_mem _ hx) n hn)]
theorem elemsF_congr {h1 h2:List (Nm × Blk)} {x:AV}:elemsF h1 x=elemsF h2 x:=by cases x <;> rfl
theorem effW_local {o:Oper} (ho:∀ x ∈ o.op.operands.toList,opA st1.env x=opA st2.env x)
  (hn:readsB o.op=true→∀ x ∈ o.op.operands.toList,SameAt st1.heap st2.heap (opA st2.env x))
  (hbx:∀ c,o.op = .call c→∀ x ∈ o.op.operands.toList,∀ n ∈ namesV (opA st2.env x),∀ k ∈ boxN st2.heap n,getH st1.heap k=getH st2.heap k)
  (hc:creates o=true→∀ d,o.dst=some d→cleanS (d :: π) st1=true∧cleanS (d :: π) st2=true):effW cf π st1 o=effW cf π st2 o:=by
 obtain ⟨dst,op,type,pos,after,guard⟩:=o
 cases op with
 | alloc t =>
  cases dst with
  | none=>rfl
  | some d=>obtain ⟨c1,c2⟩:=hc rfl d rfl;simp only [effW,c1,c2]
 | box t x =>
  cases dst with
  | none=>rfl
  | some d=>obtain ⟨c1,c2⟩:=hc rfl d rfl;simp only [effW,c1,c2,ho x (by simp [Op.operands])]
 | buildSlice t n parts =>
  cases dst with
  | none=>rfl
  | some d =>
   obtain ⟨c1,c2⟩:=hc rfl d rfl
   have hp:∀ p ∈ parts.toList,opA st1.env p.2=opA st2.env p.2:=fun p hp=>ho p.2 (by simp only [Op.operands];exact List.mem_map.2 ⟨p,hp,rfl⟩)
   have e1:(parts.toList.map fun p=>opA st1.env p.2)=parts.toList.map fun p=>opA st2.env p.2:=List.map_congr_left hp
   have e2:∀ ts,frzVs st1.heap ts (parts.toList.map fun p=>opA st2.env p.2)=frzVs st2.heap ts (parts.toList.map fun p=>opA st2.env p.2):=fun ts=>frzVs_congr _ fun v hv=>by
    obtain ⟨p,hp,rfl⟩:=List.mem_map.1 hv
    exact hn rfl p.2 (by simp only [Op.operands];exact List.mem_map.2 ⟨p,hp,rfl⟩)
   simp only [effW,c1,c2,e1,e2]
 | makeSlice t l c =>
  cases dst with
  | none=>rfl
  | some d=>obtain ⟨c1,c2⟩:=hc rfl d rfl;simp only [effW,c1,c2,ho l (by simp [Op.operands]),ho c (by simp [Op.operands])]
 | store t x y =>
  have hs:=hn rfl x (by simp [Op.operands])
  have hy:=fun ts=>frzV_congr (ts:=ts) (hn rfl y (by simp [Op.operands]))
  simp only [effW,ho x (by simp [Op.operands]),ho y (by simp [Op.operands]),hy]
  generalize opA st2.env x=v at hs
  cases v <;> try rfl
  rename_i nm _ _
  simp only [hs nm (by simp [namesV,namesC,namesK])]
 | call c =>
  obtain ⟨callee,args,argTypes⟩:=c
  have harg:∀ x ∈ args.toList,opA st1.env x=opA st2.env x∧SameAt st1.heap st2.heap (opA st2.env x):=fun x hx =>
   have hm:x ∈ (Op.call ⟨callee,args,argTypes⟩).operands.toList:=by
    simp only [Op.operands,Call.operands,Array.toList_append,List.mem_append];exact .inr hx
   ⟨ho x hm,hn rfl x hm⟩
  cases callee with
  | builtin b =>
   cases b <;> try rfl
   case clear =>
    simp only [effW]
    cases hl:args.toList with
    | nil=>rfl
    | cons x l =>
     cases l with
     | cons y l=>rfl
     | nil =>
      obtain ⟨g1,g2⟩:=harg x (by rw [hl];exact List.mem_cons_self)
      cases argTypes.toList with
      | nil=>rfl
      | cons t ts =>
       cases ts with
       | cons t' ts=>rfl
       | nil =>
        simp only [g1]
        cases elemT cf.P t with
        | none=>rfl
        | some e =>
         generalize opA st2.env x=v at g2
         cases v <;> try rfl
         rename_i nm lo n
         simp only [g2 nm (by simp [namesV,namesC,namesK])]
   cases dst with
   | none=>rfl
   | some d =>
    obtain ⟨c1,c2⟩:=hc rfl d rfl
    simp only [effW]
    cases hl:args.toList with
    | nil=>rfl
    | cons x l =>
     cases l with
     | nil=>rfl
     | cons y l =>
      cases l with
      | cons z l=>rfl
      | nil =>
       obtain ⟨g1,g2⟩:=harg x (by rw [hl];exact List.mem_cons_self)
       obtain ⟨g3,g4⟩:=harg y (by rw [hl];exact List.mem_cons_of_mem _ List.mem_cons_self)
       cases ht:argTypes.toList with
       | nil=>rfl
       | cons t ts =>
        cases ts with
        | nil=>rfl
        | cons t' ts =>
         cases ts with
         | cons t'' ts=>rfl
         | nil =>
          simp only [g1,g3,elemsA_congr g4,elemsF_congr (h1:=st1.heap) (h2:=st2.heap),c1,c2]
          generalize opA st2.env x=v at g2
          cases v <;> try rfl
          rename_i nm
          simp only [g2 nm (by simp [namesV,namesC,namesK])]
  | value f =>
   have hf:opA st1.env f=opA st2.env f:=ho f (by simp [Op.operands,Call.operands])
   have e:args.toList.map (opA st1.env)=args.toList.map (opA st2.env):=List.map_congr_left fun x hx=>(harg x hx).1
   have hro:roVals cf.P st1.heap argTypes.toList (args.toList.map (opA st2.env))=roVals cf.P st2.heap argTypes.toList (args.toList.map (opA st2.env)):=roVals_congr _ _ fun v hv=>by
    obtain ⟨x,hx,rfl⟩:=List.mem_map.1 hv
    exact (harg x hx).2
   have hsf:SameAt st1.heap st2.heap (opA st2.env f):=hn rfl f (by simp [Op.operands,Call.operands])
   have hvals:∀ x ∈ args.toList.map (opA st2.env),SameAt st1.heap st2.heap x:=fun v hv=>by
    obtain ⟨x,hx,rfl⟩:=List.mem_map.1 hv
    exact (harg x hx).2
   have key:∀ g caps,opA st2.env f = .fn g caps→capArgs st1.heap caps=capArgs st2.heap caps∧(∀ m dst,mutW st1.heap (args.toList.map (opA st2.env)) caps m dst=mutW st2.heap (args.toList.map (opA st2.env)) caps m dst) ∧
     ∀ q m dst,genW q st1.heap ((args.toList.map (opA st2.env)).flatMap namesV++caps.flatMap namesK) (args.toList.map (opA st2.env)++caps) m dst=genW q st2.heap ((args.toList.map (opA st2.env)).flatMap namesV++caps.flatMap namesK) (args.toList.map (opA st2.env)++caps) m dst:=fun g caps hg=>by
    rw [hg] at hsf
    have hk:∀ x ∈ caps,∀ n ∈ namesK x,getH st1.heap n=getH st2.heap n:=fun x hx n hn=>hsf n (by simp only [namesV,namesC,List.mem_flatMap];exact ⟨x,hx,hn⟩)
    refine ⟨capArgs_congr caps hk,fun m dst=>mutW_congr hvals hk,fun q m dst=>genW_congr (fun n hn=>?_) fun n hn k hkb=>?_⟩
    ·rcases List.mem_append.1 hn with hn|hn
     ·obtain ⟨x,hx,hn⟩:=List.mem_flatMap.1 hn
      exact hvals x hx n hn
     ·obtain ⟨x,hx,hn⟩:=List.mem_flatMap.1 hn
      exact hk x hx n hn
    ·rcases List.mem_append.1 hn with hn|hn
     ·obtain ⟨x,hx,hn⟩:=List.mem_flatMap.1 hn
      obtain ⟨y,hy,rfl⟩:=List.mem_map.1 hx
      exact hbx _ rfl y (by simp only [Op.operands,Call.operands];simp;exact .inr (by simpa using hy)) n hn k hkb
     ·obtain ⟨x,hx,hn⟩:=List.mem_flatMap.1 hn
      refine hbx _ rfl f (by simp [Op.operands,Call.operands]) n ?_ k hkb
      rw [hg]
      simp only [namesV,namesC,List.mem_flatMap]
      exact ⟨x,hx,hn⟩
   cases dst with
   | none =>
    simp only [effW,hf,e,hro]
    generalize hg:opA st2.env f=v at key
    cases v <;> try rfl
    rename_i g caps
    obtain ⟨k1,k2,k3⟩:=key g caps rfl
    simp only [k1,k2]
   | some d =>
    obtain ⟨c1,c2⟩:=hc rfl d rfl
    simp only [effW,hf,e,hro,c1,c2]
    generalize hg:opA st2.env f=v at key
    cases v <;> try rfl
    rename_i g caps
    obtain ⟨k1,k2,k3⟩:=key g caps rfl
    simp only [k1,k2,k3]
  | invoke r m=>rfl
 | _=>rfl
theorem wr_local {ops:Array Oper} {o:Oper} (ht:∀ t ∈ o.looksAt ops,getE st1.env t=getE st2.env t) (hn:∀ n ∈ readsN st2 o,getH st1.heap n=getH st2.heap n)
  (hc:creates o=true→∀ d,o.dst=some d→cleanS (d :: π) st1=true∧cleanS (d :: π) st2=true):wrA cf π st1 o=wrA cf π st2 o:=by
 have ho:∀ x ∈ o.op.operands.toList,opA st1.env x=opA st2.env x:=fun x hx=>by
  cases x with
  | tmp t=>exact ht t (by unfold Oper.looksAt;exact List.mem_append_left _ (List.mem_filterMap.2 ⟨.tmp t,hx,rfl⟩))
  | _=>rfl
 have hs:readsB o.op=true→∀ x ∈ o.op.operands.toList,SameAt st1.heap st2.heap (opA st2.env x):=fun hk x hx n hm=>by
  refine hn n ?_
  unfold readsN
  cases hop:o.op <;> rw [hop] at hk <;> first|(cases hk;done)|skip
  all_goals (rw [hop] at hx;first|exact List.mem_flatMap.2 ⟨x,hx,hm⟩|exact List.mem_append_left _ (List.mem_flatMap.2 ⟨x,hx,hm⟩))
 have hbx:∀ c,o.op = .call c→∀ x ∈ o.op.operands.toList,∀ n ∈ namesV (opA st2.env x),∀ k ∈ boxN st2.heap n,getH st1.heap k=getH st2.heap k:=fun c hop x hx n hm k hk=>by
  refine hn k ?_
  unfold readsN
  rw [hop]
  rw [hop] at hx
  exact List.mem_append_right _ (List.mem_flatMap.2 ⟨n,List.mem_flatMap.2 ⟨x,hx,hm⟩,hk⟩)
 unfold wrA
 rw [val_local ho hs,effW_local ho hs hbx hc]
end
end Go.Proofs.VE
