import Derived.Test.YtcondihilccdpaaDoorVEa
namespace Go.Proofs.VE
open Go
def under (p n:Nm):Bool:=bif Nat.ble p.length n.length then nmEq (n.drop (n.length - p.length)) p else false
def isLoc (π nm:Nm):Bool:=bif Nat.ble (π.length+1) nm.length then nmEq (nm.drop (nm.length - π.length)) π else false
def menC (p:Nm→Bool):AV→Bool
 | .own n | .sub n _ _ | .ptr n _ _=>p n
 | .agg _ | .tup _ | .fn _ _=>true
 | _=>false
def menW (p:Nm→Bool):AV→Bool
 | .agg cs=>cs.any (menC p)
 | x=>menC p x
def menV (p:Nm→Bool):AV→Bool
 | .tup cs=>cs.any (menW p)
 | .agg cs | .fn _ cs=>cs.any (menC p)
 | x=>menC p x
def cleanE (q:Nm) (env:List (Nat × AV)):Bool:=env.all fun x => !menV (under q) x.2
def cleanH (q:Nm) (heap:List (Nm × Blk)):Bool:=heap.all fun x => !under q x.1 && (!x.2.box || x.2.xs.all fun v => !menV (under q) v)
def cleanS (q:Nm) (st:St):Bool:=cleanE q st.env && cleanH q st.heap
def cellTs (P:Program):Nat→TypeId→List TypeId
 | 0,t=>[t]
 | n+1,t =>
  match P.underlying t with
  | some (.struct fs)=>fs.toList.flatMap fun f=>cellTs P n f.type
  | some (.array k e)=>(List.replicate k e).flatMap fun e=>cellTs P n e
  | _=>[t]
def ctOf:AV→Option CT
 | .int k _=>some (.int k)
 | .bool _=>some .bool
 | .str _=>some .str
 | .sl tys _=>some (.sl tys)
 | .fn f []=>some (.fnc f)
 | _=>none
def ctsOf:List AV→Option (List CT)
 | []=>some []
 | c :: r =>
  match ctOf c,ctsOf r with
  | some t,some ts=>some (t :: ts)
  | _,_=>none
def capArg (heap:List (Nm × Blk)):AV→Option AV
 | .bool b=>some (.bool b)
 | .int k n=>some (.int k n)
 | .str s=>some (.str s)
 | .sl tys xs=>some (.sl tys xs)
 | .rptr tys x off=>some (.rptr tys x off)
 | .fn f []=>some (.fn f [])
 | .ptr nm i off =>
  match getH heap nm with
  | some b =>
   bif b.box && Nat.beq i 0 && Nat.beq off 0 then
    match b.xs with
    | [x] =>
     match ctsOf x.cells with
     | some tys=>some (.rptr tys x 0)
     | none=>none
    | _=>none
   else none
  | none=>none
 | _=>none
def capArgs (heap:List (Nm × Blk)):List AV→Option (List AV)
 | []=>some []
 | c :: r =>
  match capArg heap c,capArgs heap r with
  | some y,some ys=>some (y :: ys)
  | _,_=>none
def roArg (P:Program) (heap:List (Nm × Blk)) (t:TypeId):AV→Option AV
 | .own nm =>
  match getH heap nm with
  | some b=>bif b.box then none else some (.sl b.tys b.xs)
  | none=>none
 | .sub nm o n =>
  match getH heap nm with
  | some b=>bif b.box then none else some (.sl b.tys ((b.xs.drop o).take n))
  | none=>none
 | .snil =>
  match elemT P t with
  | some e=>some (.sl (ctsT P 6 e) [])
  | none=>none
 | .bool b=>some (.bool b)
 | .int k n=>some (.int k n)
 | .str s=>some (.str s)
 | .sl tys xs=>some (.sl tys xs)
 | .fn f caps =>
  match capArgs heap caps with
  | some ys=>some (.fn f ys)
  | none=>none
 | _=>none
def roArgs (P:Program) (heap:List (Nm × Blk)):List TypeId→List AV→Option (List AV)
 | [],[]=>some []
 | t :: ts,x :: xs =>
  match roArg P heap t x,roArgs P heap ts xs with
  | some y,some ys=>some (y :: ys)
  | _,_=>none
 | _,_=>none
def roVal (P:Program) (heap:List (Nm × Blk)) (t:TypeId):AV→Option AV
 | .agg cs=>(roArgs P heap (cellTs P 8 t) cs).map .agg
 | x=>roArg P heap t x
def roVals (P:Program) (heap:List (Nm × Blk)):List TypeId→List AV→Option (List AV)
 | [],[]=>some []
 | t :: ts,x :: xs =>
  match roVal P heap t x,roVals P heap ts xs with
  | some y,some ys=>some (y :: ys)
  | _,_=>none
 | _,_=>none
def imp1 (p:Nm):AV→AV × List (Nm × Blk)
 | .fl tys xs=>(.own p,[(p,⟨false,tys,xs⟩)])
 | x=>(x,[])
def impCs (p:Nm):Nat→List AV→List AV × List (Nm × Blk)
 | _,[]=>([],[])
 | j,x :: xs =>
  let r:=imp1 (j :: p) x
  let s:=impCs p (j+1) xs
  (r.1 :: s.1,r.2++s.2)
def imp2 (p:Nm):AV→AV × List (Nm × Blk)
 | .agg cs=>let r:=impCs p 0 cs;(.agg r.1,r.2)
 | x=>imp1 p x
def impVs (p:Nm):Nat→List AV→List AV × List (Nm × Blk)
 | _,[]=>([],[])
 | j,x :: xs =>
  let r:=imp2 (j :: p) x
  let s:=impVs p (j+1) xs
  (r.1 :: s.1,r.2++s.2)
def impV (p:Nm):AV→AV × List (Nm × Blk)
 | .tup vs=>let r:=impVs p 0 vs;(.tup r.1,r.2)
 | x=>imp2 p x
def addH:List (Nm × Blk)→List (Nm × Blk)→Option (List (Nm × Blk))
 | h,[]=>some h
 | h,(m,b) :: r =>
  match getH h m with
  | some _=>none
  | none=>addH (setH h m b) r
def ret1 (P:Program) (heap:List (Nm × Blk)) (t:TypeId):AV→Option (AV × List Nm)
 | .own nm =>
  match getH heap nm with
  | some b=>bif b.tys.all goodCT && !b.box then some (.fl b.tys b.xs,[nm]) else none
  | none=>none
 | .sub nm o n =>
  match getH heap nm with
  | some b=>bif b.tys.all goodCT && !b.box then some (.fl b.tys ((b.xs.drop o).take n),[nm]) else none
  | none=>none
 | .snil =>
  match elemT P t with
  | some e=>bif (ctsT P 6 e).all goodCT then some (.fl (ctsT P 6 e) [],[]) else none
  | none=>none
 | .bool b=>some (.bool b,[])
 | .int k n=>some (.int k n,[])
 | .str s=>some (.str s,[])
 | _=>none
def retCs (P:Program) (heap:List (Nm × Blk)):List TypeId→List AV→Option (List AV × List Nm)
 | [],[]=>some ([],[])
 | t :: ts,x :: xs =>
  match ret1 P heap t x,retCs P heap ts xs with
  | some (y,l),some (ys,ls)=>some (y :: ys,l++ls)
  | _,_=>none
 | _,_=>none
def ret2 (P:Program) (heap:List (Nm × Blk)) (t:TypeId):AV→Option (AV × List Nm)
 | .agg cs =>
  match retCs P heap (cellTs P 8 t) cs with
  | some (ys,l)=>some (.agg ys,l)
  | none=>none
 | x=>ret1 P heap t x
def retVs (P:Program) (heap:List (Nm × Blk)):List TypeId→List AV→Option (List AV × List Nm)
 | [],[]=>some ([],[])
 | t :: ts,x :: xs =>
  match ret2 P heap t x,retVs P heap ts xs with
  | some (y,l),some (ys,ls)=>some (y :: ys,l++ls)
  | _,_=>none
 | _,_=>none
def nodupN:List Nm→Bool
 | []=>true
 | m :: r => !(r.any (nmEq m)) && nodupN r
def namesK:AV→List Nm
 | .own n | .sub n _ _ | .ptr n _ _=>[n]
 | _=>[]
def namesC:AV→List Nm
 | .fn _ cs=>cs.flatMap namesK
 | x=>namesK x
def namesV:AV→List Nm
 | .agg cs=>cs.flatMap namesC
 | x=>namesC x
def findN:List (Nm × Nm)→Nm→Option Nm
 | [],_=>none
 | (o,n) :: r,m=>bif nmEq o m then some n else findN r m
def dedupN:List Nm→List Nm→List Nm
 | acc,[]=>acc
 | acc,n :: r=>bif acc.any (nmEq n) then dedupN acc r else dedupN (acc++[n]) r
def canN:Nat→List Nm→List (Nm × Nm)
 | _,[]=>[]
 | i,n :: r=>(n,[i]) :: canN (i+1) r
def canH:Nat→List Blk→List (Nm × Blk)
 | _,[]=>[]
 | i,b :: r=>([i],b) :: canH (i+1) r
def canK (pairs:List (Nm × Nm)):AV→Option AV
 | .own n=>(findN pairs n).map .own
 | .sub n a b=>(findN pairs n).map (.sub · a b)
 | .ptr n a b=>(findN pairs n).map (.ptr · a b)
 | .undef | .agg _ | .tup _ | .fn _ _=>none
 | x=>some x
def canL (f:AV→Option AV):List AV→Option (List AV)
 | []=>some []
 | x :: xs =>
  match f x,canL f xs with
  | some y,some ys=>some (y :: ys)
  | _,_=>none
def canC (pairs:List (Nm × Nm)):AV→Option AV
 | .fn f cs=>(canL (canK pairs) cs).map (.fn f)
 | x=>canK pairs x
def canV (pairs:List (Nm × Nm)):AV→Option AV
 | .agg cs=>(canL (canC pairs) cs).map .agg
 | x=>canC pairs x
def getAll (heap:List (Nm × Blk)):List Nm→Option (List Blk)
 | []=>some []
 | n :: r =>
  match getH heap n,getAll heap r with
  | some b,some bs=>some (b :: bs)
  | _,_=>none
def scalC:AV→Bool
 | .int _ _ | .bool _ | .str _=>true
 | _=>false
def scalR:AV→Bool
 | .agg cs | .tup cs=>cs.all scalC
 | x=>scalC x
def retR:AV→Bool
 | .sub [_] _ _=>true
 | x=>scalR x
def uncanR (ns:List Nm):AV→AV
 | .sub [j] lo n =>
  match ns[j - 1]? with
  | some nm => .sub nm lo n
  | none => .undef
 | x=>x
def subR (hp:List (Nm × Blk)):AV→AV
 | .own n =>
  match getH hp n with
  | some b => .sub n 0 b.xs.length
  | none => .own n
 | x=>x
def flatB (b:Blk):Bool:=bif b.box then b.xs.all (fun x=>x.cells.all scalC) else b.tys.all flatCT
inductive CallM where
 | no
 | inl
 | tree (m:List AV→Option (Bool × AV))
 | wrt (m:List AV→List Blk→Option (Bool × AV × List Blk))
 | gen (m:List AV→List Blk→Option (Bool × List AV × List (Option Blk)))
inductive Ex where
 | normal|ret|exit (id:Nat)
abbrev CallE:=Nat→List AV→Nm→List (Nm × Blk)→(AV→List (Nm × Blk)→Option AV)→Option AV
abbrev Kont:=Ex→St→Option AV
abbrev SModel:=List AV→Nm→List (Nm × Blk)→(AV→List (Nm × Blk)→Option AV)→Option AV
structure Cfg where
 P:Program
 F:Nat→CallM
 H:Nat→Nat→Option (List Nat)
 LM:Nat→Nat→Option (CallE→Nm→St→Kont→Option AV)
 SP:Nat→Option SModel:=fun _=>none
def ifW {α:Type}:Bool→Bool→α→α→α
 | true,b,x,y=>bif b then x else y
 | false,b,x,y=>bif b then y else x
section
variable (cf:Cfg) (ce:CallE) (π:Nm)
def elemsA (heap:List (Nm × Blk)):AV→Option (List CT × List AV)
 | .own nm=>match getH heap nm with|some b=>bif b.box then none else some (b.tys,b.xs)|none=>none
 | .sub nm o n=>match getH heap nm with|some b=>bif !b.box && decide (o+n≤b.xs.length) then some (b.tys,(b.xs.drop o).take n) else none|none=>none
 | .sl tys xs=>some (tys,xs)
 | .sle _ tys=>some (tys,[])
 | _=>none
def storeA (b:Blk) (i off n:Nat) (v:AV):Option Blk :=
 bif !(okV v && Nat.beq v.cells.length n) then none else
 bif b.box then
  bif Nat.beq i 0 then
   match b.xs with
   | [.agg cs]=>bif Nat.ble (off+n) cs.length then some { b with xs:=[.agg (layAt cs off v.cells)] } else none
   | [.tup _]=>none
   | [_]=>bif Nat.beq off 0 && Nat.beq n 1 then (match v with | .agg _ | .tup _=>none|v=>some { b with xs:=[v] }) else none
   | _=>none
  else none
 else
  bif Nat.ble (off+n) b.tys.length && confCs ((b.tys.drop off).take n) v.cells then
   some { b with xs:=b.xs.set i (.agg (layAt (projs (b.xs.getD i .undef) 0 b.tys) off v.cells)) }
  else none
def frzC (heap:List (Nm × Blk)) (t:CT) (c:AV):Option (AV × List Nm) :=
 bif flatCT t then (bif confC t c then some (c,[]) else none) else
 match t,c with
 | .sl e,.own nm =>
  match getH heap nm with
  | some b=>bif !b.box && ctsEq b.tys e && e.all flatCT then some (.sl e b.xs,[nm]) else none
  | none=>none
 | .sl e,.snil=>bif e.all flatCT then some (.sl e [],[]) else none
 | _,_=>none
def dels (l:List Nm) (heap:List (Nm × Blk)):List (Nm × Blk):=l.foldl delH heap
def frzCs:List (Nm × Blk)→List CT→List AV→Option (List AV × List Nm)
 | _,[],[]=>some ([],[])
 | h,t :: ts,x :: xs =>
  match frzC h t x with
  | some (y,l) =>
   match frzCs (dels l h) ts xs with
   | some (ys,ls)=>some (y :: ys,l++ls)
   | none=>none
  | none=>none
 | _,_,_=>none
def frz1 (heap:List (Nm × Blk)) (ts:List CT) (v:AV):Option (AV × List Nm) :=
 match ts with
 | [t]=>frzC heap t v
 | _=>none
def frzV (heap:List (Nm × Blk)) (ts:List CT) (v:AV):Option (AV × List Nm) :=
 match v with
 | .agg cs =>
  match frzCs heap ts cs with
  | some (ys,l)=>some (.agg ys,l)
  | none=>none
 | .tup _ | .undef=>none
 | v=>frz1 heap ts v
def frzVs:List (Nm × Blk)→List CT→List AV→Option (List AV × List Nm)
 | _,_,[]=>some ([],[])
 | h,ts,v :: vs =>
  match frzV h ts v with
  | some (y,l) =>
   match frzVs (dels l h) ts vs with
   | some (ys,ls)=>some (y :: ys,l++ls)
   | none=>none
  | none=>none
def zf1 (t:CT) (c:AV):Option AV :=
 bif flatCT t then (bif confC t c then some c else none) else
 match t,c with
 | .sl e,.snil=>bif e.all flatCT then some (.sl e []) else none
 | _,_=>none
def zfs:List CT→List AV→Option (List AV)
 | [],[]=>some []
 | t :: ts,x :: xs =>
  match zf1 t x,zfs ts xs with
  | some y,some ys=>some (y :: ys)
  | _,_=>none
 | _,_=>none
def zfo (ts:List CT) (v:AV):Option AV :=
 match ts with
 | [t]=>zf1 t v
 | _=>none
def zfV (ts:List CT) (v:AV):Option AV :=
 match v with
 | .agg cs=>(zfs ts cs).map .agg
 | v=>zfo ts v
def gone (l:List Nm):List (Nm × Option Blk):=l.map fun n=>(n,none)
def elemsF (_:List (Nm × Blk)):AV→Bool
 | .sl tys _=>tys.all flatCT
 | _=>true
def zeroOK (P:Program) (e:TypeId):Bool :=
 match zeroA P e with
 | some z=>okV z && Nat.beq z.cells.length (P.cellsOf e)
 | none=>false
structure Wr where
 es:List (Nat × AV)
 hs:List (Nm × Option Blk)
def Wr.on (wr:Wr) (st:St):St :=
 ⟨wr.es.foldl (fun e x=>setE e x.1 x.2) st.env,wr.hs.foldl (fun h x=>match x.2 with|some b=>setH h x.1 b|none=>delH h x.1) st.heap⟩
def toD (d:Option Nat) (v:AV):List (Nat × AV) :=
 match d with
 | some d=>[(d,v)]
 | none=>[]
def mutW (heap:List (Nm × Blk)) (vals caps:List AV) (m:List AV→List Blk→Option (Bool × AV × List Blk)) (dst:Option Nat):Option (Bool × Wr) :=
 match getAll heap (dedupN [] (vals.flatMap namesV++caps.flatMap namesK)),canL (canV (canN 1 (dedupN [] (vals.flatMap namesV++caps.flatMap namesK)))) (vals++caps) with
 | some bs,some xs =>
  match m xs bs with
  | some (g,r,bs') =>
   bif bs.all flatB && bs'.all flatB && retR r && Nat.beq bs'.length bs.length then
    some (g,⟨toD dst (uncanR (dedupN [] (vals.flatMap namesV++caps.flatMap namesK)) r),(dedupN [] (vals.flatMap namesV++caps.flatMap namesK)).zip (bs'.map some)⟩)
   else none
  | none=>none
 | _,_=>none
def packA:List AV→AV
 | [v]=>v
 | vs => .tup vs
def boxN (heap:List (Nm × Blk)) (n:Nm):List Nm :=
 match getH heap n with
 | some b=>bif b.box then b.xs.flatMap namesV else []
 | none=>[]
def closeN (heap:List (Nm × Blk)) (l:List Nm):List Nm:=dedupN [] (l++l.flatMap (boxN heap))
def canB (pairs:List (Nm × Nm)) (b:Blk):Option Blk :=
 bif b.box then
  match b.xs with
  | [x]=>(canV pairs x).map fun y=>⟨true,b.tys,[y]⟩
  | _=>none
 else some b
def canBs (pairs:List (Nm × Nm)):List Blk→Option (List Blk)
 | []=>some []
 | b :: r =>
  match canB pairs b,canBs pairs r with
  | some c,some s=>some (c :: s)
  | _,_=>none
def argN (n:Nat):List Nm:=(List.range n).map fun j=>[1+j]
def isArg (n:Nat):Nm→Bool
 | [j]=>Nat.ble 1 j && Nat.ble j n
 | _=>false
def ex1 (n:Nat) (hp:List (Nm × Blk)):AV→Option (AV × List (Option Nm))
 | .own nm =>
  bif isArg n nm then some (.own nm,[]) else
  match getH hp nm with
  | some b=>bif b.box then none else some (.fl b.tys b.xs,[some nm])
  | none=>none
 | .sub nm a l=>bif isArg n nm then some (.sub nm a l,[]) else none
 | .ptr nm i o=>bif isArg n nm then some (.ptr nm i o,[]) else none
 | .bool b=>some (.bool b,[])
 | .int k i=>some (.int k i,[])
 | .str s=>some (.str s,[])
 | .nilp=>some (.nilp,[])
 | .nilfn=>some (.nilfn,[])
 | .snil=>some (.snil,[])
 | .sl tys xs=>some (.sl tys xs,[])
 | .rptr tys x o=>some (.rptr tys x o,[])
 | .fn f []=>some (.fn f [],[])
 | _=>none
def exT (P:Program) (n:Nat) (hp:List (Nm × Blk)) (t:Option TypeId):AV→Option (AV × List (Option Nm))
 | .snil =>
  match t.bind (elemT P) with
  | some e=>some (.fl (ctsT P 6 e) [],[none])
  | none=>some (.snil,[])
 | x=>ex1 n hp x
def exCs (P:Program) (n:Nat) (hp:List (Nm × Blk)):List (Option TypeId)→List AV→Option (List AV × List (Option Nm))
 | [],[]=>some ([],[])
 | t :: ts,x :: xs =>
  match exT P n hp t x,exCs P n hp ts xs with
  | some (y,l),some (ys,ls)=>some (y :: ys,l++ls)
  | _,_=>none
 | _,_=>none
def ex2 (P:Program) (n:Nat) (hp:List (Nm × Blk)) (t:Option TypeId):AV→Option (AV × List (Option Nm))
 | .agg cs =>
  match exCs P n hp (match t with|some t=>(cellTs P 8 t).map some|none=>cs.map fun _=>none) cs with
  | some (ys,l)=>some (.agg ys,l)
  | none=>none
 | x=>exT P n hp t x
def exVs (P:Program) (n:Nat) (hp:List (Nm × Blk)):List (Option TypeId)→List AV→Option (List AV × List (Option Nm))
 | [],[]=>some ([],[])
 | t :: ts,x :: xs =>
  match ex2 P 0 hp t x,exVs P n hp ts xs with
  | some (y,l),some (ys,ls)=>some (y :: ys,l++ls)
  | _,_=>none
 | _,_=>none
def argB (hp:List (Nm × Blk)) (n:Nat):List (Option Blk):=(argN n).map (getH hp)
def contO (bs:List (Option Blk)):List AV:=bs.flatMap fun b=>match b with|some b=>bif b.box then b.xs else []|none=>[]
def reBsO:List (Option Blk)→List AV→List (Option Blk)
 | [],_=>[]
 | some b :: r,ys =>
  bif b.box then
   match ys with
   | y :: ys=>some ⟨true,b.tys,[y]⟩ :: reBsO r ys
   | []=>some b :: reBsO r []
  else some b :: reBsO r ys
 | none :: r,ys=>none :: reBsO r ys
def isGone (k:Nat):Option Nm→Bool
 | some m=>nmEq m [1+k]
 | none=>false
def dropO (so:List (Option Nm)) (gs:List Nat):Nat→List (Option Blk)→List (Option Blk)
 | _,[]=>[]
 | k,some b :: r=>(bif !b.box && (so.any (isGone k) || gs.any (Nat.beq k)) then none else some b) :: dropO so gs (k+1) r
 | k,none :: r=>none :: dropO so gs (k+1) r
def un1 (ns:List Nm):AV→AV
 | .own [j]=>match ns[j - 1]? with|some n => .own n|none => .undef
 | .sub [j] a l=>match ns[j - 1]? with|some n => .sub n a l|none => .undef
 | .ptr [j] i o=>match ns[j - 1]? with|some n => .ptr n i o|none => .undef
 | x=>x
def un2 (ns:List Nm):AV→AV
 | .agg cs => .agg (cs.map (un1 ns))
 | x=>un1 ns x
def genW (q:Nm) (heap:List (Nm × Blk)) (l:List Nm) (vals:List AV) (m:List AV→List Blk→Option (Bool × List AV × List (Option Blk))) (dst:Option Nat):Option (Bool × Wr) :=
 match getAll heap (closeN heap l),canL (canV (canN 1 (closeN heap l))) vals with
 | some bs,some xs =>
  match canBs (canN 1 (closeN heap l)) bs with
  | some cs =>
   match m xs cs with
   | some (g,rs,bs') =>
    bif Nat.beq bs'.length (closeN heap l).length && nodupN ((impVs (1 :: q) 0 (rs++contO bs')).2.map (·.1)) then
     some (g,⟨toD dst (packA ((((impVs (1 :: q) 0 (rs++contO bs')).1).map (un2 (closeN heap l))).take rs.length)),
      (closeN heap l).zip ((reBsO bs' ((((impVs (1 :: q) 0 (rs++contO bs')).1).map (un2 (closeN heap l))).drop rs.length)))++(impVs (1 :: q) 0 (rs++contO bs')).2.map fun x=>(x.1,some x.2)⟩)
    else none
   | none=>none
  | none=>none
 | _,_=>none
def unpkA:List TypeId→AV→Option (List AV)
 | [_],v=>some [v]
 | _,.tup [_]=>none
 | _,.tup vs=>some vs
 | _,_=>none
def keepG (P:Program) (n:Nat) (ts:List TypeId) (gs:List Nat) (K:List AV→List (Option Blk)→Option AV) (v:AV) (hp:List (Nm × Blk)):Option AV :=
 match unpkA ts v with
 | some vs =>
  match exVs P n hp (ts.map some++(contO (argB hp n)).map fun _=>none) (vs++contO (argB hp n)) with
  | some (ys,so)=>bif nodupN (so.filterMap id) then K (ys.take vs.length) (dropO so gs 0 (reBsO (argB hp n) (ys.drop vs.length))) else none
  | none=>none
 | none=>none
def effW (st:St) (o:Oper):Option (Bool × Wr) :=
 match o.op,o.dst with
 | .alloc t,some d =>
  match zeroA cf.P t with
  | some z=>bif okV z && cleanS (d :: π) st then some (true,⟨[(d,.ptr (1 :: d :: π) 0 0)],[(1 :: d :: π,some ⟨true,[],[z]⟩)]⟩) else none
  | none=>none
 | .box _ x,some d =>
  bif okV (opA st.env x) && cleanS (d :: π) st then some (true,⟨[(d,.ptr (1 :: d :: π) 0 0)],[(1 :: d :: π,some ⟨true,[],[opA st.env x]⟩)]⟩) else none
 | .buildSlice t n parts,some d =>
  match elemT cf.P t with
  | some e =>
   match frzVs st.heap (ctsT cf.P 6 e) (parts.toList.map fun p=>opA st.env p.2) with
   | some (xs,ns) =>
    bif cleanS (d :: π) st && Nat.beq parts.size n && Nat.ble n 16777216 && (parts.toList.map (·.1) == List.range n) && Nat.ble (n*cf.P.cellsOf e) 16777216 && Nat.beq (ctsT cf.P 6 e).length (cf.P.cellsOf e) && zeroOK cf.P e then
     some (true,⟨[(d,.own (1 :: d :: π))],gone ns++[(1 :: d :: π,some ⟨false,ctsT cf.P 6 e,xs⟩)]⟩)
    else none
   | none=>none
  | none=>none
 | .makeSlice t l c,some d =>
  match elemT cf.P t,intOf? (opA st.env l),intOf? (opA st.env c) with
  | some e,some l,some c =>
   match (zeroA cf.P e).bind (zfV (ctsT cf.P 6 e)) with
   | some z =>
    bif cleanS (d :: π) st && zeroOK cf.P e && Nat.beq (ctsT cf.P 6 e).length (cf.P.cellsOf e) then
     some (decide (0≤l) && decide (l≤c) && decide (c*cf.P.bytesOf e≤140737488355328) && decide (c≤140737488355328),
      ⟨[(d,.own (1 :: d :: π))],[(1 :: d :: π,some ⟨false,ctsT cf.P 6 e,List.replicate l.toNat z⟩)]⟩)
    else none
   | none=>none
  | _,_,_=>none
 | .store t a x,dst =>
  match opA st.env a with
  | .ptr nm i off =>
   match getH st.heap nm with
   | some b =>
    match (bif b.box then some (opA st.env x,[]) else frzV st.heap ((b.tys.drop off).take (cf.P.cellsOf t)) (opA st.env x)) with
    | some (v,ns) =>
     match storeA b i off (cf.P.cellsOf t) v with
     | some b'=>bif Nat.beq (cf.P.cellsOf t) 0 || ns.any (nmEq nm) then none else some (true,⟨toD dst (.tup []),gone ns++[(nm,some b')]⟩)
     | none=>none
    | none=>none
   | none=>none
  | _=>none
 | .call { callee := .builtin .append,args,argTypes },some d =>
  match args.toList,argTypes.toList with
  | [x,y],[t,t'] =>
   match elemT cf.P t,elemsA st.heap (opA st.env y) with
   | some e,some (tys,ys) =>
    bif cleanS (d :: π) st && Nat.beq t t' && Nat.beq tys.length (cf.P.cellsOf e) && zeroOK cf.P e && !(Nat.beq tys.length 0) && elemsF st.heap (opA st.env y) then
     match opA st.env x with
     | .snil =>
      some (decide (ys.length*cf.P.bytesOf e≤140737488355328) && decide (ys.length≤140737488355328),⟨[(d,.own (1 :: d :: π))],[(1 :: d :: π,some ⟨false,tys,ys⟩)]⟩)
     | .own nm =>
      match getH st.heap nm with
      | some b =>
       bif !b.box && ctsEq tys b.tys then
        some (decide ((b.xs.length+ys.length)*cf.P.bytesOf e≤140737488355328) && decide (b.xs.length+ys.length≤140737488355328),
         ⟨[(d,.own (1 :: d :: π))],[(nm,none),(1 :: d :: π,some ⟨false,b.tys,b.xs++ys⟩)]⟩)
       else none
      | none=>none
     | _=>none
    else none
   | _,_=>none
  | _,_=>none
 | .call { callee := .builtin .clear,args,argTypes },dst =>
  match args.toList,argTypes.toList with
  | [x],[t] =>
   match elemT cf.P t,opA st.env x with
   | some e,.sub nm lo n =>
    match getH st.heap nm,(zeroA cf.P e).bind (zfV (ctsT cf.P 6 e)) with
    | some b,some z =>
     bif !b.box && ctsEq b.tys (ctsT cf.P 6 e) && Nat.beq (ctsT cf.P 6 e).length (cf.P.cellsOf e) && zeroOK cf.P e then
      some (true,⟨toD dst (.tup []),[(nm,some ⟨false,b.tys,b.xs.take lo++List.replicate n z++b.xs.drop (lo+n)⟩)]⟩)
     else none
    | _,_=>none
   | _,_=>none
  | _,_=>none
 | .call { callee := .value f,args,argTypes },dst =>
  match opA st.env f with
  | .fn g caps =>
   match cf.F g with
   | .tree m =>
    match roVals cf.P st.heap argTypes.toList (args.toList.map (opA st.env)),capArgs st.heap caps with
    | some xs,some cs =>
     match m (xs++cs) with
     | some (g,r) =>
      match dst with
      | some d =>
       bif cleanS (d :: π) st && nodupN ((impV (1 :: d :: π) r).2.map (·.1)) then
        some (g,⟨[(d,(impV (1 :: d :: π) r).1)],(impV (1 :: d :: π) r).2.map fun x=>(x.1,some x.2)⟩)
       else none
      | none=>some (g,⟨[],[]⟩)
     | none=>none
    | _,_=>none
   | .wrt m=>mutW st.heap (args.toList.map (opA st.env)) caps m dst
   | .gen m =>
    match dst with
    | some d=>bif cleanS (d :: π) st then genW (d :: π) st.heap ((args.toList.map (opA st.env)).flatMap namesV++caps.flatMap namesK) (args.toList.map (opA st.env)++caps) m (some d) else none
    | none=>none
   | _=>none
  | _=>none
 | _,_=>none
def wrA (st:St) (o:Oper):Option (Bool × Wr) :=
 match valA cf.P st o.op with
 | some (g,v)=>some (g,⟨toD o.dst v,[]⟩)
 | none=>effW cf π st o
def inlO (st:St) (o:Oper) (k:St→Option AV):Option AV :=
 match o.op,o.dst with
 | .call { callee := .value f,args,.. },some d =>
  match opA st.env f with
  | .fn g caps =>
   match cf.F g with
   | .inl =>
    bif cleanS (d :: π) st then ce g (args.toList.map (opA st.env)++caps) (d :: π) st.heap fun v h=>k ⟨setE st.env d v,h⟩
    else none
   | _=>none
  | _=>none
 | _,_=>none
def oneA (st:St) (o:Oper) (k:St→Option AV):Option AV :=
 match wrA cf π st o with
 | some (g,wr)=>bif g then k (wr.on st) else none
 | none=>inlO cf ce π st o k
def opsA (ops:Array Oper):List Oper→St→(St→Option AV)→Option AV
 | [],st,k=>k st
 | o :: r,st,k =>
  match o.guard with
  | none=>oneA cf ce π st o fun st=>opsA ops r st k
  | some (j,want) =>
   match (ops[j]?).bind (·.dst) with
   | none=>none
   | some t =>
    match getE st.env t with
    | .bool b =>
     ifW want b
      (oneA cf ce π ⟨setE st.env t (.bool want),st.heap⟩ o fun st=>opsA ops r st k)
      (opsA ops r (St.set ⟨setE st.env t (.bool !want),st.heap⟩ o.dst (.tup [])) k)
    | .tup []=>opsA ops r (st.set o.dst (.tup [])) k
    | _=>none
structure FP where
 i:Nat
 o:Oper
 wr:Wr
 rn:List Nm
 anc:Nat
def readsN (st:St) (o:Oper):List Nm :=
 match o.op with
 | .load .. | .slice .. | .indexAddr .. | .store .. | .buildSlice .. | .convert ..=>o.op.operands.toList.flatMap fun x=>namesV (opA st.env x)
 | .call _=>(o.op.operands.toList.flatMap fun x=>namesV (opA st.env x))++(o.op.operands.toList.flatMap fun x=>namesV (opA st.env x)).flatMap (boxN st.heap)
 | _=>[]
def hasN (l:List Nat) (i:Nat):Bool:=l.any (Nat.beq i)
def hasA (m i:Nat):Bool:=Nat.beq (m / 2 ^ i % 2) 1
def getA:List FP→Nat→Nat
 | [],_=>0
 | p :: r,i=>bif Nat.beq p.i i then p.anc else getA r i
def ancE (acc:List FP) (i:Nat) (b:Bool) (s:Nat):Nat:=bif b && !hasA s i then s ||| (2 ^ i ||| getA acc i) else s
def ancL (acc:List FP):List Edge→Nat
 | []=>0
 | e :: r=>ancE acc e.on (Region.binds .any e) (ancL acc r)
def ancOf (acc:List FP) (o:Oper):Nat:=ancL acc o.after.toList
def turnOK (acc:List FP) (i:Nat) (o:Oper):Bool :=
 !(acc.any fun p=>Nat.beq p.i i) && o.after.toList.all fun e => !Region.binds .any e || acc.any fun p=>Nat.beq p.i e.on
def hasM (l:List Nm) (n:Nm):Bool:=l.any (nmEq n)
def creates (o:Oper):Bool :=
 match o.op with
 | .alloc _ | .box .. | .buildSlice .. | .makeSlice .. | .call { callee := .builtin .append,.. } | .call { callee := .value _,.. }=>true
 | _=>false
def cleanW (q:Nm) (wr:Wr):Bool :=
 cleanE q wr.es && wr.hs.all fun x => !under q x.1 && (match x.2 with|some b => !b.box || b.xs.all fun v => !menV (under q) v|none=>true)
def apartF (ops:Array Oper) (x y:FP):Bool :=
 (hasA x.anc y.i || hasA y.anc x.i ||
  (y.o.dst.toList.all (fun t => !hasN (x.o.looksAt ops) t && !hasN x.o.dst.toList t) && y.wr.hs.all (fun z => !hasM x.rn z.1 && x.wr.hs.all fun z' => !nmEq z'.1 z.1))) &&
 (hasA y.anc x.i || !creates x.o || x.o.dst.toList.all fun d=>cleanW (d :: π) y.wr)
def drawOK (ops:Array Oper) (acc:List FP):Bool:=acc.all fun x=>acc.all fun y=>Nat.beq x.i y.i || apartF π ops x y
def sortedE:List (Nat × AV)→Bool
 | []=>true
 | [_]=>true
 | x :: y :: r=>Nat.blt x.1 y.1 && sortedE (y :: r)
def sortedH:List (Nm × Blk)→Bool
 | []=>true
 | [_]=>true
 | x :: y :: r=>nmLt x.1 y.1 && sortedH (y :: r)
def opsT (ops:Array Oper):List Nat→List FP→St→(St→Option AV)→Option AV
 | [],acc,st,k=>bif drawOK π ops acc then k st else none
 | i :: r,acc,st,k =>
  match ops[i]? with
  | none=>none
  | some o =>
   bif !turnOK acc i o then none else
   match o.guard with
   | none =>
    match wrA cf π st o with
    | some (g,wr)=>bif g then opsT ops r (⟨i,o,wr,readsN st o,ancOf acc o⟩ :: acc) (wr.on st) k else none
    | none=>none
   | some (j,want) =>
    match (ops[j]?).bind (·.dst) with
    | none=>none
    | some t =>
     match getE st.env t with
     | .bool b =>
      ifW want b
       (match wrA cf π ⟨setE st.env t (.bool want),st.heap⟩ o with
       | some (g,wr)=>bif g then opsT ops r (⟨i,o,wr,readsN ⟨setE st.env t (.bool want),st.heap⟩ o,ancOf acc o⟩ :: acc) (wr.on ⟨setE st.env t (.bool want),st.heap⟩) k else none
       | none=>none)
       (opsT ops r (⟨i,o,⟨toD o.dst (.tup []),[]⟩,[],ancOf acc o⟩ :: acc) (Wr.on ⟨toD o.dst (.tup []),[]⟩ ⟨setE st.env t (.bool !want),st.heap⟩) k)
     | .tup []=>opsT ops r (⟨i,o,⟨toD o.dst (.tup []),[]⟩,[],ancOf acc o⟩ :: acc) (Wr.on ⟨toD o.dst (.tup []),[]⟩ st) k
     | _=>none
def drawA (ops:Array Oper) (st:St) (k:St→Option AV):Option AV :=
 bif sortedE st.env && sortedH st.heap && ops.toList.all (fun o => !creates o || o.dst.toList.all fun d=>cleanS (d :: π) st) && (List.range ops.size).all (hasN (Region.linearise .any ops 0)) then
  opsT cf π ops (Region.linearise .any ops 0) [] st k
 else none
def refs1 (path:Nm):AV→List (Nm × Nm)
 | .own nm | .sub nm _ _ | .ptr nm _ _=>[(nm,0 :: path)]
 | _=>[]
def refsCs (path:Nm):Nat→List AV→List (Nm × Nm)
 | _,[]=>[]
 | j,x :: xs=>refs1 (j :: path) x++refsCs path (j+1) xs
def refsV (path:Nm):AV→List (Nm × Nm)
 | .agg cs | .tup cs | .fn _ cs=>refsCs path 0 cs
 | x=>refs1 path x
def addRefs:List (Nm × Nm)→List (Nm × Nm)→List (Nm × Nm)
 | acc,[]=>acc
 | acc,(o,n) :: r=>bif !isLoc π o || acc.any (fun q=>nmEq q.1 o) then addRefs acc r else addRefs (acc++[(o,n)]) r
def moreRefs (heap:List (Nm × Blk)) (acc:List (Nm × Nm)):List (Nm × Nm) :=
 addRefs π acc (acc.flatMap fun q =>
  match getH heap q.1 with
  | some b=>bif b.box then (match b.xs with|[x]=>refsV (q.2.drop 1) x|_=>[]) else []
  | none=>[])
def homes (keep:List Nat) (st:St):List (Nm × Nm) :=
 let a:=addRefs π [] (keep.flatMap fun t=>refsV (t :: π) (getE st.env t))
 let a:=addRefs π a (st.heap.flatMap fun q=>bif !isLoc π q.1 && q.2.box then (match q.2.xs with|[x]=>refsV (q.1++7 :: π) x|_=>[]) else [])
 moreRefs π st.heap (moreRefs π st.heap a)
def renN (pairs:List (Nm × Nm)) (nm:Nm):Option Nm:=bif isLoc π nm then findN pairs nm else some nm
def ren1 (pairs:List (Nm × Nm)):AV→AV
 | .own nm=>match renN π pairs nm with|some n => .own n|none => .undef
 | .sub nm a b=>match renN π pairs nm with|some n => .sub n a b|none => .undef
 | .ptr nm a b=>match renN π pairs nm with|some n => .ptr n a b|none => .undef
 | .agg _ | .tup _ | .fn .. => .undef
 | x=>x
def renV (pairs:List (Nm × Nm)):AV→AV
 | .agg cs => .agg (cs.map (ren1 π pairs))
 | .tup cs => .tup (cs.map (ren1 π pairs))
 | .fn f cs => .fn f (cs.map (ren1 π pairs))
 | x=>ren1 π pairs x
def renB (pairs:List (Nm × Nm)) (b:Blk):Blk:=bif b.box then { b with xs:=b.xs.map (renV π pairs) } else b
def normA (keep:List Nat) (st:St):Option St :=
 let pairs:=homes π keep st
 bif nodupN (pairs.map (·.1)) && pairs.all (fun q=>isLoc π q.1 && isLoc π q.2) && nodupN (pairs.map (·.2)) then
  some { env:=keep.map fun t=>(t,renV π pairs (getE st.env t)),heap:=(pairs.foldl (fun h q=>match getH st.heap q.1 with|some b=>setH h q.2 (renB π pairs b)|none=>h)
       ((st.heap.filter fun q => !isLoc π q.1).map fun q=>(q.1,renB π pairs q.2))) }
 else none
def trimA (keep:Option (List Nat)) (st:St):St :=
 match keep with
 | some l=>{ st with env:=l.map fun t=>(t,getE st.env t) }
 | none=>st
def stepA (body:St→Kont→Option AV) (norm:St→Option St) (next:St→Option AV) (st:St) (k:Kont):Option AV :=
 body st fun e st =>
  match e with
  | .normal =>
   match norm st with
   | some st=>next st
   | none=>none
  | .ret=>k .ret st
  | .exit j=>k (.exit j) st
def loopA (body:St→Kont→Option AV) (norm:St→Option St):Nat→St→Kont→Option AV
 | 0,_,_=>none
 | n+1,st,k=>stepA body norm (fun st=>loopA body norm n st k) st k
def codeA (fid:Nat):Nat→Code→St→Kont→Option AV
 | _,.skip,st,k=>k .normal st
 | _,.region _ ops draw,st,k=>bif draw then drawA cf π ops st (k .normal) else opsA cf ce π ops ops.toList st (k .normal)
 | cur,.seq a b,st,k=>codeA fid cur a st fun e st =>
  match e with
  | .normal=>codeA fid cur b st k
  | .ret=>k .ret st
  | .exit j=>k (.exit j) st
 | cur,.cond c x y,st,k =>
  match opA st.env c with
  | .bool b=>bif b then codeA fid cur x st k else codeA fid cur y st k
  | _=>none
 | _,.block id body,st,k=>codeA fid id body st fun e st =>
  match e with
  | .exit j=>bif Nat.beq j id then k .normal st else k (.exit j) st
  | .normal=>k .normal (trimA (cf.H fid (1000+id)) st)
  | .ret=>k .ret st
 | cur,.loop _,st,k =>
  match cf.LM fid cur,normA π ((cf.H fid cur).getD []) st with
  | some m,some st=>m ce π st k
  | _,_=>none
 | _,.exit id,st,k=>k (.exit id) (trimA (cf.H fid (1000+id)) st)
 | _,.ret,st,k=>k .ret (trimA (cf.H fid 999) st)
 | _,_,_,_=>none
end
def resA (P:Program) (st:St):ResultVar→Option AV
 | .tmp t=>some (getE st.env t)
 | .cell a t =>
  match getE st.env a with
  | .ptr nm i off=>match getH st.heap nm with|some b=>partB P t b i off|none=>none
  | _=>none
def resAs (P:Program) (st:St):List ResultVar→Option (List AV)
 | []=>some []
 | r :: rs =>
  match resA P st r,resAs P st rs with
  | some v,some vs=>some (v :: vs)
  | _,_=>none
def env0:Nat→List AV→List (Nat × AV)
 | _,[]=>[]
 | j,v :: vs=>(j,v) :: env0 (j+1) vs
def fitsC (n:Nat):Code→Bool
 | .region _ ops _=>ops.toList.all fun o=>o.dst.toList.all fun d=>Nat.blt d n
 | .seq a b | .cond _ a b=>fitsC n a && fitsC n b
 | .block _ b | .loop b=>fitsC n b
 | _=>true
def loopsC:Nat→Code→List (Nat × Code)
 | cur,.seq a b|cur,.cond _ a b=>loopsC cur a++loopsC cur b
 | _,.block id b=>loopsC id b
 | cur,.loop b=>(cur,b) :: loopsC cur b
 | _,_=>[]
def inlA (cf:Cfg):Nat→CallE
 | 0=>fun _ _ _ _ _=>none
 | n+1=>fun f args π heap k =>
  match cf.SP f with
  | some s=>s args π heap k
  | none =>
  match cf.P.funcs[f]? with
  | some fn =>
   match fn.body with
   | some c=>bif fitsC fn.ntmps c && Nat.ble args.length fn.ntmps then codeA cf (inlA cf n) π f 0 c ⟨env0 0 args,heap⟩ fun e st =>
     match e with
     | .normal | .ret =>
      match resAs cf.P st fn.results.toList with
      | some vs=>k (packA vs) st.heap
      | none=>none
     | _=>none
    else none
   | none=>none
  | none=>none
def funA (cf:Cfg) (lvl:Nat) (f:Nat) (args:List AV):Option AV :=
 match cf.P.funcs[f]? with
 | some fn =>
  match fn.body with
  | some c=>bif fitsC fn.ntmps c && Nat.ble args.length fn.ntmps then codeA cf (inlA cf lvl) [] f 0 c ⟨env0 0 args,[]⟩ fun e st =>
    match e with
    | .normal | .ret =>
     match resAs cf.P st fn.results.toList with
     | some vs =>
      match retVs cf.P st.heap fn.resultTypes.toList vs with
      | some (ys,l)=>bif nodupN l then some (packA ys) else none
      | none=>none
     | none=>none
    | _=>none
   else none
  | none=>none
 | none=>none
end Go.Proofs.VE
