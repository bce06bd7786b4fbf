import Derived.Orders
import Derived.Deep.LoopGhost
import Derived.Laws.Cells
import Derived.Laws.IdiomCopy
import Derived.Laws.Sem
import Derived.Below
import Derived.Great.FillDense
import Derived.Great.BuildSlice
import Derived.Laws.StructEq
import Derived.Laws.BytesString
namespace Go.Proofs.VE
open Go
abbrev Nm:=List Nat
inductive CT where
 | int (k:IntKind)
 | bool
 | str
 | sl (e:List CT)
 | fnc (f:Nat)
 | oth
 deriving Inhabited
inductive AV where
 | undef
 | bool (b:Bool)
 | int (k:IntKind) (n:Int)
 | str (s:ByteArray)
 | nilp
 | ptr (nm:Nm) (i off:Nat)
 | rptr (tys:List CT) (x:AV) (off:Nat)
 | snil
 | sle (nil:Bool) (tys:List CT)
 | own (nm:Nm)
 | sub (nm:Nm) (lo len:Nat)
 | sl (tys:List CT) (xs:List AV)
 | fl (tys:List CT) (xs:List AV)
 | fn (f:Nat) (caps:List AV)
 | nilfn
 | agg (cs:List AV)
 | tup (vs:List AV)
 deriving Inhabited
structure Blk where
 box:Bool
 tys:List CT
 xs:List AV
 deriving Inhabited
structure St where
 env:List (Nat × AV)
 heap:List (Nm × Blk)
 deriving Inhabited
def AV.cells:AV→List AV
 | .agg cs=>cs
 | x=>[x]
def nmEq:Nm→Nm→Bool
 | [],[]=>true
 | a :: x,b :: y=>bif Nat.beq a b then nmEq x y else false
 | _,_=>false
def nmLt:Nm→Nm→Bool
 | _,[]=>false
 | [],_ :: _=>true
 | a :: x,b :: y=>bif Nat.blt a b then true else bif Nat.beq a b then nmLt x y else false
def getE:List (Nat × AV)→Nat→AV
 | [],_ => .undef
 | (t,v) :: r,d=>bif Nat.beq t d then v else getE r d
def setE:List (Nat × AV)→Nat→AV→List (Nat × AV)
 | [],d,v=>[(d,v)]
 | (t,u) :: r,d,v=>bif Nat.beq t d then (d,v) :: r else bif Nat.blt d t then (d,v) :: (t,u) :: r else (t,u) :: setE r d v
def getH:List (Nm × Blk)→Nm→Option Blk
 | [],_=>none
 | (n,b) :: r,m=>bif nmEq n m then some b else getH r m
def setH:List (Nm × Blk)→Nm→Blk→List (Nm × Blk)
 | [],m,b=>[(m,b)]
 | (n,c) :: r,m,b=>bif nmEq n m then (m,b) :: r else bif nmLt m n then (m,b) :: (n,c) :: r else (n,c) :: setH r m b
def delH:List (Nm × Blk)→Nm→List (Nm × Blk)
 | [],_=>[]
 | (n,c) :: r,m=>bif nmEq n m then delH r m else (n,c) :: delH r m
def St.get (st:St) (m:Nm):Option Blk:=getH st.heap m
def St.put (st:St) (m:Nm) (b:Blk):St:={ st with heap:=setH st.heap m b }
def St.set (st:St) (d:Option Nat) (v:AV):St :=
 match d with
 | some d=>{ st with env:=setE st.env d v }
 | none=>st
def ofVal1:Value→AV
 | .bool b => .bool b
 | .int k n => .int k n
 | .string s => .str s
 | .pointer none => .nilp
 | .slice none 0 0 => .snil
 | .nilFunc => .nilfn
 | _ => .undef
def ofVal:Value→AV
 | .agg cs=>bif cs.toList.all fun v=>match v with | .agg _ | .tuple _=>false|_=>true then .agg (cs.toList.map ofVal1) else .undef
 | .tuple vs => .tup (vs.toList.map ofVal1)
 | v=>ofVal1 v
def toV:AV→Option Value
 | .bool b=>some (.bool b)
 | .int k n=>some (.int k n)
 | .str s=>some (.string s)
 | _=>none
def ofV:Value→Option AV
 | .bool b=>some (.bool b)
 | .int k n=>some (.int k n)
 | .string s=>some (.str s)
 | _=>none
def okV:AV→Bool
 | .undef | .tup _=>false
 | _=>true
def kEq:IntKind→IntKind→Bool
 | .i8,.i8 | .i16,.i16 | .i32,.i32 | .i64,.i64 | .u8,.u8 | .u16,.u16 | .u32,.u32 | .u64,.u64=>true
 | _,_=>false
mutual
def ctEq:CT→CT→Bool
 | .int k,.int j=>kEq k j
 | .bool,.bool=>true
 | .str,.str=>true
 | .sl a,.sl b=>ctsEq a b
 | .fnc a,.fnc b=>Nat.beq a b
 | _,_=>false
def ctsEq:List CT→List CT→Bool
 | [],[]=>true
 | a :: x,b :: y=>ctEq a b && ctsEq x y
 | _,_=>false
end
def flatCT:CT→Bool
 | .int _ | .bool | .str=>true
 | _=>false
def confC:CT→AV→Bool
 | .int k,.int j _=>kEq k j
 | .bool,.bool _=>true
 | .str,.str _=>true
 | .sl e,.sl e' _=>ctsEq e e'
 | _,_=>false
def confCs:List CT→List AV→Bool
 | [],[]=>true
 | t :: ts,x :: xs=>confC t x && confCs ts xs
 | _,_=>false
def fI (x:AV) (o:Nat):Int:=match x.cells[o]? with|some (.int _ n)=>n|_=>0
def fB (x:AV) (o:Nat):Bool:=match x.cells[o]? with|some (.bool b)=>b|_=>false
def fS (x:AV) (o:Nat):ByteArray:=match x.cells[o]? with|some (.str s)=>s|_ => .empty
def fL (x:AV) (o:Nat):List AV:=match x.cells[o]? with|some (.sl _ xs)=>xs|_=>[]
def bytesA (xs:List AV):ByteArray:=xs.foldl (fun r x=>r.push (UInt8.ofNat (fI x 0).toNat)) .empty
def proj (x:AV) (o:Nat):CT→AV
 | .int k => .int k (fI x o)
 | .bool => .bool (fB x o)
 | .str => .str (fS x o)
 | .sl e => .sl e (fL x o)
 | .fnc f => .fn f []
 | .oth => .undef
def projs (x:AV):Nat→List CT→List AV
 | _,[]=>[]
 | o,c :: cs=>proj x o c :: projs x (o+1) cs
def runP (P:Program) {α:Type}:Sem α→Option α
 | .pure a=>some a
 | .program k=>runP P (k P)
 | _=>none
def aggT (P:Program) (t:TypeId):Option Bool :=
 match P.underlying t with
 | some (.struct _)|some (.array _ _)=>some true
 | some _=>some false
 | none=>none
def zeroA (P:Program) (t:TypeId):Option AV:=((P.info? t).bind (·.zero)).map ofVal
def ctsT (P:Program):Nat→TypeId→List CT
 | 0,_=>[.oth]
 | n+1,t =>
  match P.underlying t with
  | some .bool=>[.bool]
  | some (.int k)=>[.int k]
  | some .string=>[.str]
  | some (.slice e)=>[.sl (ctsT P n e)]
  | some (.struct fs)=>fs.toList.flatMap fun f=>ctsT P n f.type
  | some (.array k e)=>(List.replicate k e).flatMap fun e=>ctsT P n e
  | _=>[.oth]
def goodCT:CT→Bool
 | .oth=>false
 | .fnc _=>false
 | .sl e=>e.all flatCT
 | _=>true
def elemT (P:Program) (t:TypeId):Option TypeId :=
 match P.underlying t with
 | some (.slice e) =>
  match P.underlying e with
  | some _=>some e
  | none=>none
 | _=>none
def fieldT (P:Program) (t:TypeId) (f:Nat):Option Field :=
 match P.underlying t with
 | some (.struct fs)=>fs[f]?
 | _=>none
def partT (P:Program) (t:TypeId) (tys:List CT) (x:AV) (off:Nat):Option AV :=
 match aggT P t with
 | some true=>bif Nat.ble (off+P.cellsOf t) tys.length then some (.agg (projs x off ((tys.drop off).take (P.cellsOf t)))) else none
 | some false =>
  match tys[off]? with
  | some c=>some (proj x off c)
  | none=>none
 | none=>none
def partA (P:Program) (t:TypeId) (x:AV) (off:Nat):Option AV :=
 match aggT P t with
 | some true=>bif Nat.ble (off+P.cellsOf t) x.cells.length then some (.agg ((x.cells.drop off).take (P.cellsOf t))) else none
 | some false=>x.cells[off]?
 | none=>none
def partB (P:Program) (t:TypeId) (b:Blk) (i off:Nat):Option AV :=
 bif b.box then (bif Nat.beq i 0 then (match b.xs with|[x]=>partA P t x off|_=>none) else none)
 else partT P t b.tys (b.xs.getD i .undef) off
def pickA (c:Bool):AV→AV→AV
 | .bool x,.bool y => .bool (bif c then x else y)
 | a,b=>bif c then a else b
def sliceA (heap:List (Nm × Blk)) (sz:Nat) (x:AV) (lo hi:Option Int):Option (Bool × AV) :=
 match x with
 | .sl tys xs=>some (Nat.beq tys.length sz && (decide (0≤lo.getD 0) && decide (lo.getD 0≤hi.getD xs.length) && decide (hi.getD xs.length≤xs.length)),.sl tys ((xs.take (hi.getD xs.length).toNat).drop (lo.getD 0).toNat))
 | .own nm =>
  match getH heap nm with
  | some b=>some (!b.box && Nat.beq b.tys.length sz && (decide (0≤lo.getD 0) && decide (lo.getD 0≤hi.getD b.xs.length) && decide (hi.getD b.xs.length≤b.xs.length)),.sub nm (lo.getD 0).toNat ((hi.getD b.xs.length).toNat - (lo.getD 0).toNat))
  | none=>none
 | .sub nm o n =>
  match getH heap nm with
  | some b=>some (!b.box && Nat.beq b.tys.length sz && (decide (0≤lo.getD 0) && decide (lo.getD 0≤hi.getD n) && decide (hi.getD n≤n)),.sub nm (o+(lo.getD 0).toNat) ((hi.getD n).toNat - (lo.getD 0).toNat))
  | none=>none
 | .snil=>some (decide (0≤lo.getD 0) && decide (lo.getD 0≤hi.getD 0) && decide (hi.getD 0≤0),.snil)
 | _=>none
def sliceS (x:AV) (lo hi:Option Int):Option (Bool × AV) :=
 match x with
 | .str s=>some (decide (0≤lo.getD 0) && decide (lo.getD 0≤hi.getD s.size) && decide (hi.getD s.size≤s.size),.str (s.extract (lo.getD 0).toNat (hi.getD s.size).toNat))
 | _=>none
def intOf?:AV→Option Int
 | .int _ n=>some n
 | _=>none
def indexAddrA (P:Program) (heap:List (Nm × Blk)) (t:TypeId) (x:AV) (i:Int):Option (Bool × AV) :=
 match elemT P t with
 | some e =>
  match x with
  | .own nm =>
   match getH heap nm with
   | some b=>some (!b.box && Nat.beq b.tys.length (P.cellsOf e) && (decide (0≤i) && decide (i<b.xs.length)),.ptr nm i.toNat 0)
   | none=>none
  | .sub nm o n =>
   match getH heap nm with
   | some b=>some (!b.box && Nat.beq b.tys.length (P.cellsOf e) && (decide (0≤i) && decide (i<n) && decide (o+n≤b.xs.length)),.ptr nm (o+i.toNat) 0)
   | none=>none
  | .sl tys xs=>some (Nat.beq tys.length (P.cellsOf e) && (decide (0≤i) && decide (i<xs.length)),.rptr tys (xs.getD i.toNat .undef) 0)
  | _=>none
 | none =>
 match P.underlying t with
 | some (.array n e) =>
  match x with
  | .ptr nm j off =>
   some (decide (0≤i) && decide (i<n) && !Nat.beq (P.cellsOf e) 0,.ptr nm j (off+i.toNat*P.cellsOf e))
  | .rptr z y off =>
   some (decide (0≤i) && decide (i<n) && !Nat.beq (P.cellsOf e) 0,.rptr z y (off+i.toNat*P.cellsOf e))
  | _=>none
 | _=>none
def lenA (heap:List (Nm × Blk)):AV→Option Nat
 | .own nm=>match getH heap nm with|some b=>bif b.box then none else some b.xs.length|none=>none
 | .sub _ _ n=>some n
 | .sl _ xs=>some xs.length
 | .snil=>some 0
 | .sle _ _=>some 0
 | _=>none
def binA (P:Program) (op:BinOp) (t:TypeId) (x y:AV):Option (Bool × AV) :=
 match op,x,y with
 | .quo,.int .i64 a,.int .i64 b=>some (!decide (b=0),.int .i64 (IntKind.i64.wrap (a.tdiv b)))
 | .rem,.int .i64 a,.int .i64 b=>some (!decide (b=0),.int .i64 (a.tmod b))
 | .add,.str a,.str b=>some (decide (a.size+b.size≤4611686018427387904),.str (a++b))
 | op,x,y =>
  match toV x,toV y with
  | some v,some u=>((runP P (do eqGuard op t (.const v) (.const u) v u;binOp op t v u)).bind ofV).map fun v=>(true,v)
  | _,_=>none
def eqC (P:Program) (t:TypeId) (a b:AV):Option Bool :=
 match P.underlying t,a,b with
 | some (.int _),.int k a,.int j b=>bif kEq k j then some (decide (a=b)) else none
 | some .bool,.bool a,.bool b=>some (a == b)
 | some .string,.str a,.str b=>some (a == b)
 | _,_,_=>none
def eqFs (P:Program) (xs ys:List AV):List Field→Option Bool
 | []=>some true
 | f :: fs =>
  bif f.name == "_" then none else
  match partA P f.type (.agg xs) f.offset,partA P f.type (.agg ys) f.offset,eqFs P xs ys fs with
  | some a,some b,some q =>
   match eqC P f.type a b with
   | some p=>some (bif p then q else false)
   | none=>none
  | _,_,_=>none
def eqS (P:Program) (t:TypeId) (xs ys:List AV):Option Bool :=
 match P.underlying t with
 | some (.struct fs)=>bif !P.eqGuardType P.depth t && !P.stoodInHeld t then eqFs P xs ys fs.toList else none
 | _=>none
def nilS (P:Program) (t:TypeId) (x:AV):Option (Bool × Bool) :=
 match P.underlying t with
 | some (.slice _) =>
  match x with
  | .snil=>some (true,true)
  | .sle b _=>some (true,b)
  | .sl _ xs=>some (decide (0<xs.length),false)
  | _=>none
 | _=>none
def binX (P:Program) (op:BinOp) (t:TypeId) (x y:AV):Option (Bool × AV) :=
 match op,x,y with
 | .eql,.agg xs,.agg ys=>(eqS P t xs ys).map fun b=>(true,.bool b)
 | .neq,.agg xs,.agg ys=>(eqS P t xs ys).map fun b=>(true,.bool (!b))
 | .eql,x,.snil=>(nilS P t x).map fun b=>(b.1,.bool b.2)
 | .neq,x,.snil=>(nilS P t x).map fun b=>(b.1,.bool (!b.2))
 | op,x,y=>binA P op t x y
def foldMin:Int→List AV→Option Int
 | n,[]=>some n
 | n,.int .i64 m :: r=>foldMin (if m<n then m else n) r
 | _,_=>none
def foldMax:Int→List AV→Option Int
 | n,[]=>some n
 | n,.int .i64 m :: r=>foldMax (if m > n then m else n) r
 | _,_=>none
def strAt (s:ByteArray) (i:Nat):Int:=((s[i]?).getD 0).toNat
def layAt (cs:List AV) (off:Nat) (vs:List AV):List AV:=cs.take off++vs++cs.drop (off+vs.length)
def fillA (place:Nat→Option (Nat × Nat)) (cells:List AV):List (Nat × AV)→Option (List AV)
 | []=>some cells
 | (i,v) :: rest =>
  match place i with
  | none=>none
  | some (off,size) =>
   bif okV v && Nat.beq v.cells.length size && Nat.ble (off+v.cells.length) cells.length then fillA place (layAt cells off v.cells) rest else none
def opA (e:List (Nat × AV)):Operand→AV
 | .tmp t=>getE e t
 | .const v=>ofVal v
 | .global _ => .undef
 | .func f => .fn f []
def valA (P:Program) (st:St) (op:Op):Option (Bool × AV) :=
 match op with
 | .move x | .assign x=>some (true,opA st.env x)
 | .pick c a b =>
  match opA st.env c with
  | .bool c=>some (true,pickA c (opA st.env a) (opA st.env b))
  | _=>none
 | .load t a =>
  match opA st.env a with
  | .ptr nm i off =>
   match getH st.heap nm with
   | some b=>(partB P t b i off).map (true,·)
   | none=>none
  | .rptr tys x off=>(partT P t tys x off).map (true,·)
  | _=>none
 | .nilCheck x =>
  match opA st.env x with
  | .ptr nm i off=>some (true,.ptr nm i off)
  | .rptr z x off=>some (true,.rptr z x off)
  | .fn f cs=>some (true,.fn f cs)
  | _=>none
 | .binOp op t x y _=>binX P op t (opA st.env x) (opA st.env y)
 | .unOp op _ x =>
  match toV (opA st.env x) with
  | some v=>((runP P (Op.unary op v)).bind ofV).map (true,·)
  | none=>none
 | .convert s d x =>
  match opA st.env x with
  | .int k n=>((runP P (convert s d (.int k n))).bind ofV).map (true,·)
  | .own nm =>
   match (elemT P s).bind P.underlying,P.underlying d,getH st.heap nm with
   | some (.int .u8),some .string,some b=>bif !b.box && ctsEq b.tys [.int .u8] then some (true,.str (bytesA b.xs)) else none
   | _,_,_=>none
  | _=>none
 | .makeFunc (.func f) first caps=>bif first.isEmpty then some (true,.fn f (caps.toList.map (opA st.env))) else none
 | .slice t x lo hi mx =>
  match mx,lo.map (fun x=>intOf? (opA st.env x)),hi.map (fun x=>intOf? (opA st.env x)) with
  | some _,_,_=>none
  | none,some none,_=>none
  | none,_,some none=>none
  | none,l,h =>
   match elemT P t with
   | some e=>sliceA st.heap (P.cellsOf e) (opA st.env x) (l.bind id) (h.bind id)
   | none =>
    match P.underlying t with
    | some .string=>sliceS (opA st.env x) (l.bind id) (h.bind id)
    | _=>none
 | .fieldAddr s x f =>
  match fieldT P s f with
  | some fd =>
   bif Nat.beq (P.cellsOf fd.type) 0 then none else
   match opA st.env x with
   | .ptr nm i off=>some (true,.ptr nm i (off+fd.offset))
   | .rptr z y off=>some (true,.rptr z y (off+fd.offset))
   | _=>none
  | none=>none
 | .field t x f =>
  match fieldT P t f with
  | some fd =>
   match opA st.env x with
   | .agg cs=>(partA P fd.type (.agg cs) fd.offset).map (true,·)
   | _=>none
  | none=>none
 | .indexAddr t x i =>
  match intOf? (opA st.env i) with
  | some i=>indexAddrA P st.heap t (opA st.env x) i
  | none=>none
 | .index t x i =>
  match P.underlying t,opA st.env x,intOf? (opA st.env i) with
  | some .string,.str s,some i=>some (decide (0≤i) && decide (i<s.size),.int .u8 (strAt s i.toNat))
  | some (.array n e),.agg cs,some i=>(partA P e (.agg cs) (i.toNat*P.cellsOf e)).map (decide (0≤i) && decide (i<n),·)
  | _,_,_=>none
 | .extract x k =>
  match opA st.env x with
  | .tup vs=>vs[k]?.map (true,·)
  | _=>none
 | .build t parts =>
  match P.underlying t,zeroA P t with
  | some (.struct fs),some z =>
   bif okV z && fs.toList.all (fun f=>(P.info? f.type).isSome) then
    (fillA (fun i=>(fs[i]?).map fun f=>(f.offset,P.cellsOf f.type)) z.cells (parts.toList.map fun (i,x)=>(i,opA st.env x))).map fun cs=>(true,.agg cs)
   else none
  | some (.array _ e),some z =>
   bif okV z && (P.info? e).isSome then
    (fillA (fun i=>some (i*P.cellsOf e,P.cellsOf e)) z.cells (parts.toList.map fun (i,x)=>(i,opA st.env x))).map fun cs=>(true,.agg cs)
   else none
  | _,_=>none
 | .call { callee := .builtin .len,args,argTypes } =>
  match args.toList,(argTypes[0]?).bind P.underlying with
  | [x],some (.slice _)=>(lenA st.heap (opA st.env x)).map fun (n:Nat)=>(true,AV.int .i64 (n:Int))
  | [x],some .string =>
   match opA st.env x with
   | .str s=>some (true,.int .i64 s.size)
   | _=>none
  | _,_=>none
 | .call { callee := .builtin .min,args,.. } =>
  match args.toList.map (opA st.env) with
  | .int .i64 n :: r=>(foldMin n r).map fun n=>(true,.int .i64 n)
  | _=>none
 | .call { callee := .builtin .max,args,.. } =>
  match args.toList.map (opA st.env) with
  | .int .i64 n :: r=>(foldMax n r).map fun n=>(true,.int .i64 n)
  | _=>none
 | _=>none
end Go.Proofs.VE

namespace Go.Proofs.VE
open Go
def under (p n:Nm):Bool:=bif Nat.ble p.length n.length then nmEq (n.drop (n.length - p.length)) p else false
def isLoc (π nm:Nm):Bool:=bif Nat.ble (π.length+1) nm.length then nmEq (nm.drop (nm.length - π.length)) π else false
def menC (p:Nm→Bool):AV→Bool
 | .own n | .sub n _ _ | .ptr n _ _=>p n
 | .agg _ | .tup _ | .fn _ _=>true
 | _=>false
def menW (p:Nm→Bool):AV→Bool
 | .agg cs=>cs.any (menC p)
 | x=>menC p x
def menV (p:Nm→Bool):AV→Bool
 | .tup cs=>cs.any (menW p)
 | .agg cs | .fn _ cs=>cs.any (menC p)
 | x=>menC p x
def cleanE (q:Nm) (env:List (Nat × AV)):Bool:=env.all fun x => !menV (under q) x.2
def cleanH (q:Nm) (heap:List (Nm × Blk)):Bool:=heap.all fun x => !under q x.1 && (!x.2.box || x.2.xs.all fun v => !menV (under q) v)
def cleanS (q:Nm) (st:St):Bool:=cleanE q st.env && cleanH q st.heap
def cellTs (P:Program):Nat→TypeId→List TypeId
 | 0,t=>[t]
 | n+1,t =>
  match P.underlying t with
  | some (.struct fs)=>fs.toList.flatMap fun f=>cellTs P n f.type
  | some (.array k e)=>(List.replicate k e).flatMap fun e=>cellTs P n e
  | _=>[t]
def ctOf:AV→Option CT
 | .int k _=>some (.int k)
 | .bool _=>some .bool
 | .str _=>some .str
 | .sl tys _=>some (.sl tys)
 | .fn f []=>some (.fnc f)
 | _=>none
def ctsOf:List AV→Option (List CT)
 | []=>some []
 | c :: r =>
  match ctOf c,ctsOf r with
  | some t,some ts=>some (t :: ts)
  | _,_=>none
def capArg (heap:List (Nm × Blk)):AV→Option AV
 | .bool b=>some (.bool b)
 | .int k n=>some (.int k n)
 | .str s=>some (.str s)
 | .sl tys xs=>some (.sl tys xs)
 | .rptr tys x off=>some (.rptr tys x off)
 | .fn f []=>some (.fn f [])
 | .ptr nm i off =>
  match getH heap nm with
  | some b =>
   bif b.box && Nat.beq i 0 && Nat.beq off 0 then
    match b.xs with
    | [x] =>
     match ctsOf x.cells with
     | some tys=>some (.rptr tys x 0)
     | none=>none
    | _=>none
   else none
  | none=>none
 | _=>none
def capArgs (heap:List (Nm × Blk)):List AV→Option (List AV)
 | []=>some []
 | c :: r =>
  match capArg heap c,capArgs heap r with
  | some y,some ys=>some (y :: ys)
  | _,_=>none
def roArg (P:Program) (heap:List (Nm × Blk)) (t:TypeId):AV→Option AV
 | .own nm =>
  match getH heap nm with
  | some b=>bif b.box then none else some (.sl b.tys b.xs)
  | none=>none
 | .sub nm o n =>
  match getH heap nm with
  | some b=>bif b.box then none else some (.sl b.tys ((b.xs.drop o).take n))
  | none=>none
 | .snil =>
  match elemT P t with
  | some e=>some (.sl (ctsT P 6 e) [])
  | none=>none
 | .bool b=>some (.bool b)
 | .int k n=>some (.int k n)
 | .str s=>some (.str s)
 | .sl tys xs=>some (.sl tys xs)
 | .fn f caps =>
  match capArgs heap caps with
  | some ys=>some (.fn f ys)
  | none=>none
 | _=>none
def roArgs (P:Program) (heap:List (Nm × Blk)):List TypeId→List AV→Option (List AV)
 | [],[]=>some []
 | t :: ts,x :: xs =>
  match roArg P heap t x,roArgs P heap ts xs with
  | some y,some ys=>some (y :: ys)
  | _,_=>none
 | _,_=>none
def roVal (P:Program) (heap:List (Nm × Blk)) (t:TypeId):AV→Option AV
 | .agg cs=>(roArgs P heap (cellTs P 8 t) cs).map .agg
 | x=>roArg P heap t x
def roVals (P:Program) (heap:List (Nm × Blk)):List TypeId→List AV→Option (List AV)
 | [],[]=>some []
 | t :: ts,x :: xs =>
  match roVal P heap t x,roVals P heap ts xs with
  | some y,some ys=>some (y :: ys)
  | _,_=>none
 | _,_=>none
def imp1 (p:Nm):AV→AV × List (Nm × Blk)
 | .fl tys xs=>(.own p,[(p,⟨false,tys,xs⟩)])
 | x=>(x,[])
def impCs (p:Nm):Nat→List AV→List AV × List (Nm × Blk)
 | _,[]=>([],[])
 | j,x :: xs =>
  let r:=imp1 (j :: p) x
  let s:=impCs p (j+1) xs
  (r.1 :: s.1,r.2++s.2)
def imp2 (p:Nm):AV→AV × List (Nm × Blk)
 | .agg cs=>let r:=impCs p 0 cs;(.agg r.1,r.2)
 | x=>imp1 p x
def impVs (p:Nm):Nat→List AV→List AV × List (Nm × Blk)
 | _,[]=>([],[])
 | j,x :: xs =>
  let r:=imp2 (j :: p) x
  let s:=impVs p (j+1) xs
  (r.1 :: s.1,r.2++s.2)
def impV (p:Nm):AV→AV × List (Nm × Blk)
 | .tup vs=>let r:=impVs p 0 vs;(.tup r.1,r.2)
 | x=>imp2 p x
def addH:List (Nm × Blk)→List (Nm × Blk)→Option (List (Nm × Blk))
 | h,[]=>some h
 | h,(m,b) :: r =>
  match getH h m with
  | some _=>none
  | none=>addH (setH h m b) r
def ret1 (P:Program) (heap:List (Nm × Blk)) (t:TypeId):AV→Option (AV × List Nm)
 | .own nm =>
  match getH heap nm with
  | some b=>bif b.tys.all goodCT && !b.box then some (.fl b.tys b.xs,[nm]) else none
  | none=>none
 | .sub nm o n =>
  match getH heap nm with
  | some b=>bif b.tys.all goodCT && !b.box then some (.fl b.tys ((b.xs.drop o).take n),[nm]) else none
  | none=>none
 | .snil =>
  match elemT P t with
  | some e=>bif (ctsT P 6 e).all goodCT then some (.fl (ctsT P 6 e) [],[]) else none
  | none=>none
 | .bool b=>some (.bool b,[])
 | .int k n=>some (.int k n,[])
 | .str s=>some (.str s,[])
 | _=>none
def retCs (P:Program) (heap:List (Nm × Blk)):List TypeId→List AV→Option (List AV × List Nm)
 | [],[]=>some ([],[])
 | t :: ts,x :: xs =>
  match ret1 P heap t x,retCs P heap ts xs with
  | some (y,l),some (ys,ls)=>some (y :: ys,l++ls)
  | _,_=>none
 | _,_=>none
def ret2 (P:Program) (heap:List (Nm × Blk)) (t:TypeId):AV→Option (AV × List Nm)
 | .agg cs =>
  match retCs P heap (cellTs P 8 t) cs with
  | some (ys,l)=>some (.agg ys,l)
  | none=>none
 | x=>ret1 P heap t x
def retVs (P:Program) (heap:List (Nm × Blk)):List TypeId→List AV→Option (List AV × List Nm)
 | [],[]=>some ([],[])
 | t :: ts,x :: xs =>
  match ret2 P heap t x,retVs P heap ts xs with
  | some (y,l),some (ys,ls)=>some (y :: ys,l++ls)
  | _,_=>none
 | _,_=>none
def nodupN:List Nm→Bool
 | []=>true
 | m :: r => !(r.any (nmEq m)) && nodupN r
def namesK:AV→List Nm
 | .own n | .sub n _ _ | .ptr n _ _=>[n]
 | _=>[]
def namesC:AV→List Nm
 | .fn _ cs=>cs.flatMap namesK
 | x=>namesK x
def namesV:AV→List Nm
 | .agg cs=>cs.flatMap namesC
 | x=>namesC x
def findN:List (Nm × Nm)→Nm→Option Nm
 | [],_=>none
 | (o,n) :: r,m=>bif nmEq o m then some n else findN r m
def dedupN:List Nm→List Nm→List Nm
 | acc,[]=>acc
 | acc,n :: r=>bif acc.any (nmEq n) then dedupN acc r else dedupN (acc++[n]) r
def canN:Nat→List Nm→List (Nm × Nm)
 | _,[]=>[]
 | i,n :: r=>(n,[i]) :: canN (i+1) r
def canH:Nat→List Blk→List (Nm × Blk)
 | _,[]=>[]
 | i,b :: r=>([i],b) :: canH (i+1) r
def canK (pairs:List (Nm × Nm)):AV→Option AV
 | .own n=>(findN pairs n).map .own
 | .sub n a b=>(findN pairs n).map (.sub · a b)
 | .ptr n a b=>(findN pairs n).map (.ptr · a b)
 | .undef | .agg _ | .tup _ | .fn _ _=>none
 | x=>some x
def canL (f:AV→Option AV):List AV→Option (List AV)
 | []=>some []
 | x :: xs =>
  match f x,canL f xs with
  | some y,some ys=>some (y :: ys)
  | _,_=>none
def canC (pairs:List (Nm × Nm)):AV→Option AV
 | .fn f cs=>(canL (canK pairs) cs).map (.fn f)
 | x=>canK pairs x
def canV (pairs:List (Nm × Nm)):AV→Option AV
 | .agg cs=>(canL (canC pairs) cs).map .agg
 | x=>canC pairs x
def getAll (heap:List (Nm × Blk)):List Nm→Option (List Blk)
 | []=>some []
 | n :: r =>
  match getH heap n,getAll heap r with
  | some b,some bs=>some (b :: bs)
  | _,_=>none
def scalC:AV→Bool
 | .int _ _ | .bool _ | .str _=>true
 | _=>false
def scalR:AV→Bool
 | .agg cs | .tup cs=>cs.all scalC
 | x=>scalC x
def subC:AV→Bool
 | .sub [_] _ _ | .snil=>true
 | x=>scalC x
def retR:AV→Bool
 | .sub [_] _ _=>true
 | .agg cs=>cs.all subC
 | x=>scalR x
def uncanC (ns:List Nm):AV→AV
 | .sub [j] lo n =>
  match ns[j - 1]? with
  | some nm => .sub nm lo n
  | none => .undef
 | x=>x
def uncanR (ns:List Nm):AV→AV
 | .agg cs => .agg (cs.map (uncanC ns))
 | x=>uncanC ns x
def subR (hp:List (Nm × Blk)):AV→AV
 | .own n =>
  match getH hp n with
  | some b => .sub n 0 b.xs.length
  | none => .own n
 | x=>x
def flatB (b:Blk):Bool:=bif b.box then b.xs.all (fun x=>x.cells.all scalC) else b.tys.all flatCT
inductive CallM where
 | no
 | inl
 | tree (m:List AV→Option (Bool × AV))
 | wrt (m:List AV→List Blk→Option (Bool × AV × List Blk))
 | gen (m:List AV→List Blk→Option (Bool × List AV × List (Option Blk)))
inductive Ex where
 | normal|ret|exit (id:Nat)
abbrev CallE:=Nat→List AV→Nm→List (Nm × Blk)→(AV→List (Nm × Blk)→Option AV)→Option AV
abbrev Kont:=Ex→St→Option AV
abbrev SModel:=List AV→Nm→List (Nm × Blk)→(AV→List (Nm × Blk)→Option AV)→Option AV
structure Cfg where
 P:Program
 F:Nat→CallM
 H:Nat→Nat→Option (List Nat)
 LM:Nat→Nat→Option (CallE→Nm→St→Kont→Option AV)
 SP:Nat→Option SModel:=fun _=>none
def ifW {α:Type}:Bool→Bool→α→α→α
 | true,b,x,y=>bif b then x else y
 | false,b,x,y=>bif b then y else x
section
variable (cf:Cfg) (ce:CallE) (π:Nm)
def elemsA (heap:List (Nm × Blk)):AV→Option (List CT × List AV)
 | .own nm=>match getH heap nm with|some b=>bif b.box then none else some (b.tys,b.xs)|none=>none
 | .sub nm o n=>match getH heap nm with|some b=>bif !b.box && decide (o+n≤b.xs.length) then some (b.tys,(b.xs.drop o).take n) else none|none=>none
 | .sl tys xs=>some (tys,xs)
 | .sle _ tys=>some (tys,[])
 | _=>none
def storeA (b:Blk) (i off n:Nat) (v:AV):Option Blk :=
 bif !(okV v && Nat.beq v.cells.length n) then none else
 bif b.box then
  bif Nat.beq i 0 then
   match b.xs with
   | [.agg cs]=>bif Nat.ble (off+n) cs.length then some { b with xs:=[.agg (layAt cs off v.cells)] } else none
   | [.tup _]=>none
   | [_]=>bif Nat.beq off 0 && Nat.beq n 1 then (match v with | .agg _ | .tup _=>none|v=>some { b with xs:=[v] }) else none
   | _=>none
  else none
 else
  bif Nat.ble (off+n) b.tys.length && confCs ((b.tys.drop off).take n) v.cells then
   some { b with xs:=b.xs.set i (.agg (layAt (projs (b.xs.getD i .undef) 0 b.tys) off v.cells)) }
  else none
def frzC (heap:List (Nm × Blk)) (t:CT) (c:AV):Option (AV × List Nm) :=
 bif flatCT t then (bif confC t c then some (c,[]) else none) else
 match t,c with
 | .sl e,.own nm =>
  match getH heap nm with
  | some b=>bif !b.box && ctsEq b.tys e && e.all flatCT then some (.sl e b.xs,[nm]) else none
  | none=>none
 | .sl e,.snil=>bif e.all flatCT then some (.sl e [],[]) else none
 | _,_=>none
def dels (l:List Nm) (heap:List (Nm × Blk)):List (Nm × Blk):=l.foldl delH heap
def frzCs:List (Nm × Blk)→List CT→List AV→Option (List AV × List Nm)
 | _,[],[]=>some ([],[])
 | h,t :: ts,x :: xs =>
  match frzC h t x with
  | some (y,l) =>
   match frzCs (dels l h) ts xs with
   | some (ys,ls)=>some (y :: ys,l++ls)
   | none=>none
  | none=>none
 | _,_,_=>none
def frz1 (heap:List (Nm × Blk)) (ts:List CT) (v:AV):Option (AV × List Nm) :=
 match ts with
 | [t]=>frzC heap t v
 | _=>none
def frzV (heap:List (Nm × Blk)) (ts:List CT) (v:AV):Option (AV × List Nm) :=
 match v with
 | .agg cs =>
  match frzCs heap ts cs with
  | some (ys,l)=>some (.agg ys,l)
  | none=>none
 | .tup _ | .undef=>none
 | v=>frz1 heap ts v
def frzVs:List (Nm × Blk)→List CT→List AV→Option (List AV × List Nm)
 | _,_,[]=>some ([],[])
 | h,ts,v :: vs =>
  match frzV h ts v with
  | some (y,l) =>
   match frzVs (dels l h) ts vs with
   | some (ys,ls)=>some (y :: ys,l++ls)
   | none=>none
  | none=>none
def zf1 (t:CT) (c:AV):Option AV :=
 bif flatCT t then (bif confC t c then some c else none) else
 match t,c with
 | .sl e,.snil=>bif e.all flatCT then some (.sl e []) else none
 | _,_=>none
def zfs:List CT→List AV→Option (List AV)
 | [],[]=>some []
 | t :: ts,x :: xs =>
  match zf1 t x,zfs ts xs with
  | some y,some ys=>some (y :: ys)
  | _,_=>none
 | _,_=>none
def zfo (ts:List CT) (v:AV):Option AV :=
 match ts with
 | [t]=>zf1 t v
 | _=>none
def zfV (ts:List CT) (v:AV):Option AV :=
 match v with
 | .agg cs=>(zfs ts cs).map .agg
 | v=>zfo ts v
def gone (l:List Nm):List (Nm × Option Blk):=l.map fun n=>(n,none)
def elemsF (_:List (Nm × Blk)):AV→Bool
 | .sl tys _=>tys.all flatCT
 | _=>true
def zeroOK (P:Program) (e:TypeId):Bool :=
 match zeroA P e with
 | some z=>okV z && Nat.beq z.cells.length (P.cellsOf e)
 | none=>false
structure Wr where
 es:List (Nat × AV)
 hs:List (Nm × Option Blk)
def Wr.on (wr:Wr) (st:St):St :=
 ⟨wr.es.foldl (fun e x=>setE e x.1 x.2) st.env,wr.hs.foldl (fun h x=>match x.2 with|some b=>setH h x.1 b|none=>delH h x.1) st.heap⟩
def toD (d:Option Nat) (v:AV):List (Nat × AV) :=
 match d with
 | some d=>[(d,v)]
 | none=>[]
def mutW (heap:List (Nm × Blk)) (vals caps:List AV) (m:List AV→List Blk→Option (Bool × AV × List Blk)) (dst:Option Nat):Option (Bool × Wr) :=
 match getAll heap (dedupN [] (vals.flatMap namesV++caps.flatMap namesK)),canL (canV (canN 1 (dedupN [] (vals.flatMap namesV++caps.flatMap namesK)))) (vals++caps) with
 | some bs,some xs =>
  match m xs bs with
  | some (g,r,bs') =>
   bif bs.all flatB && bs'.all flatB && retR r && Nat.beq bs'.length bs.length then
    some (g,⟨toD dst (uncanR (dedupN [] (vals.flatMap namesV++caps.flatMap namesK)) r),(dedupN [] (vals.flatMap namesV++caps.flatMap namesK)).zip (bs'.map some)⟩)
   else none
  | none=>none
 | _,_=>none
def packA:List AV→AV
 | [v]=>v
 | vs => .tup vs
def boxN (heap:List (Nm × Blk)) (n:Nm):List Nm :=
 match getH heap n with
 | some b=>bif b.box then b.xs.flatMap namesV else []
 | none=>[]
def closeN (heap:List (Nm × Blk)) (l:List Nm):List Nm:=dedupN [] (l++l.flatMap (boxN heap))
def canB (pairs:List (Nm × Nm)) (b:Blk):Option Blk :=
 bif b.box then
  match b.xs with
  | [x]=>(canV pairs x).map fun y=>⟨true,b.tys,[y]⟩
  | _=>none
 else some b
def canBs (pairs:List (Nm × Nm)):List Blk→Option (List Blk)
 | []=>some []
 | b :: r =>
  match canB pairs b,canBs pairs r with
  | some c,some s=>some (c :: s)
  | _,_=>none
def argN (n:Nat):List Nm:=(List.range n).map fun j=>[1+j]
def isArg (n:Nat):Nm→Bool
 | [j]=>Nat.ble 1 j && Nat.ble j n
 | _=>false
def ex1 (n:Nat) (hp:List (Nm × Blk)):AV→Option (AV × List (Option Nm))
 | .own nm =>
  bif isArg n nm then some (.own nm,[]) else
  match getH hp nm with
  | some b=>bif b.box then none else some (.fl b.tys b.xs,[some nm])
  | none=>none
 | .sub nm a l=>bif isArg n nm then some (.sub nm a l,[]) else none
 | .ptr nm i o=>bif isArg n nm then some (.ptr nm i o,[]) else none
 | .bool b=>some (.bool b,[])
 | .int k i=>some (.int k i,[])
 | .str s=>some (.str s,[])
 | .nilp=>some (.nilp,[])
 | .nilfn=>some (.nilfn,[])
 | .snil=>some (.snil,[])
 | .sl tys xs=>some (.sl tys xs,[])
 | .rptr tys x o=>some (.rptr tys x o,[])
 | .fn f []=>some (.fn f [],[])
 | _=>none
def exT (P:Program) (n:Nat) (hp:List (Nm × Blk)) (t:Option TypeId):AV→Option (AV × List (Option Nm))
 | .snil =>
  match t.bind (elemT P) with
  | some e=>some (.fl (ctsT P 6 e) [],[none])
  | none=>some (.snil,[])
 | x=>ex1 n hp x
def exCs (P:Program) (n:Nat) (hp:List (Nm × Blk)):List (Option TypeId)→List AV→Option (List AV × List (Option Nm))
 | [],[]=>some ([],[])
 | t :: ts,x :: xs =>
  match exT P n hp t x,exCs P n hp ts xs with
  | some (y,l),some (ys,ls)=>some (y :: ys,l++ls)
  | _,_=>none
 | _,_=>none
def ex2 (P:Program) (n:Nat) (hp:List (Nm × Blk)) (t:Option TypeId):AV→Option (AV × List (Option Nm))
 | .agg cs =>
  match exCs P n hp (match t with|some t=>(cellTs P 8 t).map some|none=>cs.map fun _=>none) cs with
  | some (ys,l)=>some (.agg ys,l)
  | none=>none
 | x=>exT P n hp t x
def exVs (P:Program) (n:Nat) (hp:List (Nm × Blk)):List (Option TypeId)→List AV→Option (List AV × List (Option Nm))
 | [],[]=>some ([],[])
 | t :: ts,x :: xs =>
  match ex2 P 0 hp t x,exVs P n hp ts xs with
  | some (y,l),some (ys,ls)=>some (y :: ys,l++ls)
  | _,_=>none
 | _,_=>none
def argB (hp:List (Nm × Blk)) (n:Nat):List (Option Blk):=(argN n).map (getH hp)
def contO (bs:List (Option Blk)):List AV:=bs.flatMap fun b=>match b with|some b=>bif b.box then b.xs else []|none=>[]
def reBsO:List (Option Blk)→List AV→List (Option Blk)
 | [],_=>[]
 | some b :: r,ys =>
  bif b.box then
   match ys with
   | y :: ys=>some ⟨true,b.tys,[y]⟩ :: reBsO r ys
   | []=>some b :: reBsO r []
  else some b :: reBsO r ys
 | none :: r,ys=>none :: reBsO r ys
def isGone (k:Nat):Option Nm→Bool
 | some m=>nmEq m [1+k]
 | none=>false
def dropO (so:List (Option Nm)) (gs:List Nat):Nat→List (Option Blk)→List (Option Blk)
 | _,[]=>[]
 | k,some b :: r=>(bif !b.box && (so.any (isGone k) || gs.any (Nat.beq k)) then none else some b) :: dropO so gs (k+1) r
 | k,none :: r=>none :: dropO so gs (k+1) r
def un1 (ns:List Nm):AV→AV
 | .own [j]=>match ns[j - 1]? with|some n => .own n|none => .undef
 | .sub [j] a l=>match ns[j - 1]? with|some n => .sub n a l|none => .undef
 | .ptr [j] i o=>match ns[j - 1]? with|some n => .ptr n i o|none => .undef
 | x=>x
def un2 (ns:List Nm):AV→AV
 | .agg cs => .agg (cs.map (un1 ns))
 | x=>un1 ns x
def genW (q:Nm) (heap:List (Nm × Blk)) (l:List Nm) (vals:List AV) (m:List AV→List Blk→Option (Bool × List AV × List (Option Blk))) (dst:Option Nat):Option (Bool × Wr) :=
 match getAll heap (closeN heap l),canL (canV (canN 1 (closeN heap l))) vals with
 | some bs,some xs =>
  match canBs (canN 1 (closeN heap l)) bs with
  | some cs =>
   match m xs cs with
   | some (g,rs,bs') =>
    bif Nat.beq bs'.length (closeN heap l).length && nodupN ((impVs (1 :: q) 0 (rs++contO bs')).2.map (·.1)) then
     some (g,⟨toD dst (packA ((((impVs (1 :: q) 0 (rs++contO bs')).1).map (un2 (closeN heap l))).take rs.length)),
      (closeN heap l).zip ((reBsO bs' ((((impVs (1 :: q) 0 (rs++contO bs')).1).map (un2 (closeN heap l))).drop rs.length)))++(impVs (1 :: q) 0 (rs++contO bs')).2.map fun x=>(x.1,some x.2)⟩)
    else none
   | none=>none
  | none=>none
 | _,_=>none
def unpkA:List TypeId→AV→Option (List AV)
 | [_],v=>some [v]
 | _,.tup [_]=>none
 | _,.tup vs=>some vs
 | _,_=>none
def keepG (P:Program) (n:Nat) (ts:List TypeId) (gs:List Nat) (K:List AV→List (Option Blk)→Option AV) (v:AV) (hp:List (Nm × Blk)):Option AV :=
 match unpkA ts v with
 | some vs =>
  match exVs P n hp (ts.map some++(contO (argB hp n)).map fun _=>none) (vs++contO (argB hp n)) with
  | some (ys,so)=>bif nodupN (so.filterMap id) then K (ys.take vs.length) (dropO so gs 0 (reBsO (argB hp n) (ys.drop vs.length))) else none
  | none=>none
 | none=>none
def effW (st:St) (o:Oper):Option (Bool × Wr) :=
 match o.op,o.dst with
 | .alloc t,some d =>
  match zeroA cf.P t with
  | some z=>bif okV z && cleanS (d :: π) st then some (true,⟨[(d,.ptr (1 :: d :: π) 0 0)],[(1 :: d :: π,some ⟨true,[],[z]⟩)]⟩) else none
  | none=>none
 | .box _ x,some d =>
  bif okV (opA st.env x) && cleanS (d :: π) st then some (true,⟨[(d,.ptr (1 :: d :: π) 0 0)],[(1 :: d :: π,some ⟨true,[],[opA st.env x]⟩)]⟩) else none
 | .buildSlice t n parts,some d =>
  match elemT cf.P t with
  | some e =>
   match frzVs st.heap (ctsT cf.P 6 e) (parts.toList.map fun p=>opA st.env p.2) with
   | some (xs,ns) =>
    bif cleanS (d :: π) st && Nat.beq parts.size n && Nat.ble n 16777216 && (parts.toList.map (·.1) == List.range n) && Nat.ble (n*cf.P.cellsOf e) 16777216 && Nat.beq (ctsT cf.P 6 e).length (cf.P.cellsOf e) && zeroOK cf.P e then
     some (true,⟨[(d,.own (1 :: d :: π))],gone ns++[(1 :: d :: π,some ⟨false,ctsT cf.P 6 e,xs⟩)]⟩)
    else none
   | none=>none
  | none=>none
 | .makeSlice t l c,some d =>
  match elemT cf.P t,intOf? (opA st.env l),intOf? (opA st.env c) with
  | some e,some l,some c =>
   match (zeroA cf.P e).bind (zfV (ctsT cf.P 6 e)) with
   | some z =>
    bif cleanS (d :: π) st && zeroOK cf.P e && Nat.beq (ctsT cf.P 6 e).length (cf.P.cellsOf e) then
     some (decide (0≤l) && decide (l≤c) && decide (c*cf.P.bytesOf e≤140737488355328) && decide (c≤140737488355328),
      ⟨[(d,.own (1 :: d :: π))],[(1 :: d :: π,some ⟨false,ctsT cf.P 6 e,List.replicate l.toNat z⟩)]⟩)
    else none
   | none=>none
  | _,_,_=>none
 | .store t a x,dst =>
  match opA st.env a with
  | .ptr nm i off =>
   match getH st.heap nm with
   | some b =>
    match (bif b.box then some (opA st.env x,[]) else frzV st.heap ((b.tys.drop off).take (cf.P.cellsOf t)) (opA st.env x)) with
    | some (v,ns) =>
     match storeA b i off (cf.P.cellsOf t) v with
     | some b'=>bif Nat.beq (cf.P.cellsOf t) 0 || ns.any (nmEq nm) then none else some (true,⟨toD dst (.tup []),gone ns++[(nm,some b')]⟩)
     | none=>none
    | none=>none
   | none=>none
  | _=>none
 | .call { callee := .builtin .append,args,argTypes },some d =>
  match args.toList,argTypes.toList with
  | [x,y],[t,t'] =>
   match elemT cf.P t,elemsA st.heap (opA st.env y) with
   | some e,some (tys,ys) =>
    bif cleanS (d :: π) st && Nat.beq t t' && Nat.beq tys.length (cf.P.cellsOf e) && zeroOK cf.P e && !(Nat.beq tys.length 0) && elemsF st.heap (opA st.env y) then
     match opA st.env x with
     | .snil =>
      some (decide (ys.length*cf.P.bytesOf e≤140737488355328) && decide (ys.length≤140737488355328),⟨[(d,.own (1 :: d :: π))],[(1 :: d :: π,some ⟨false,tys,ys⟩)]⟩)
     | .own nm =>
      match getH st.heap nm with
      | some b =>
       bif !b.box && ctsEq tys b.tys then
        some (decide ((b.xs.length+ys.length)*cf.P.bytesOf e≤140737488355328) && decide (b.xs.length+ys.length≤140737488355328),
         ⟨[(d,.own (1 :: d :: π))],[(nm,none),(1 :: d :: π,some ⟨false,b.tys,b.xs++ys⟩)]⟩)
       else none
      | none=>none
     | _=>none
    else none
   | _,_=>none
  | _,_=>none
 | .call { callee := .builtin .clear,args,argTypes },dst =>
  match args.toList,argTypes.toList with
  | [x],[t] =>
   match elemT cf.P t,opA st.env x with
   | some e,.sub nm lo n =>
    match getH st.heap nm,(zeroA cf.P e).bind (zfV (ctsT cf.P 6 e)) with
    | some b,some z =>
     bif !b.box && ctsEq b.tys (ctsT cf.P 6 e) && Nat.beq (ctsT cf.P 6 e).length (cf.P.cellsOf e) && zeroOK cf.P e then
      some (true,⟨toD dst (.tup []),[(nm,some ⟨false,b.tys,b.xs.take lo++List.replicate n z++b.xs.drop (lo+n)⟩)]⟩)
     else none
    | _,_=>none
   | _,_=>none
  | _,_=>none
 | .call { callee := .value f,args,argTypes },dst =>
  match opA st.env f with
  | .fn g caps =>
   match cf.F g with
   | .tree m =>
    match roVals cf.P st.heap argTypes.toList (args.toList.map (opA st.env)),capArgs st.heap caps with
    | some xs,some cs =>
     match m (xs++cs) with
     | some (g,r) =>
      match dst with
      | some d =>
       bif cleanS (d :: π) st && nodupN ((impV (1 :: d :: π) r).2.map (·.1)) then
        some (g,⟨[(d,(impV (1 :: d :: π) r).1)],(impV (1 :: d :: π) r).2.map fun x=>(x.1,some x.2)⟩)
       else none
      | none=>some (g,⟨[],[]⟩)
     | none=>none
    | _,_=>none
   | .wrt m=>mutW st.heap (args.toList.map (opA st.env)) caps m dst
   | .gen m =>
    match dst with
    | some d=>bif cleanS (d :: π) st then genW (d :: π) st.heap ((args.toList.map (opA st.env)).flatMap namesV++caps.flatMap namesK) (args.toList.map (opA st.env)++caps) m (some d) else none
    | none=>none
   | _=>none
  | _=>none
 | _,_=>none
def wrA (st:St) (o:Oper):Option (Bool × Wr) :=
 match valA cf.P st o.op with
 | some (g,v)=>some (g,⟨toD o.dst v,[]⟩)
 | none=>effW cf π st o
def inlO (st:St) (o:Oper) (k:St→Option AV):Option AV :=
 match o.op,o.dst with
 | .call { callee := .value f,args,.. },some d =>
  match opA st.env f with
  | .fn g caps =>
   match cf.F g with
   | .inl =>
    bif cleanS (d :: π) st then ce g (args.toList.map (opA st.env)++caps) (d :: π) st.heap fun v h=>k ⟨setE st.env d v,h⟩
    else none
   | _=>none
  | _=>none
 | _,_=>none
def oneA (st:St) (o:Oper) (k:St→Option AV):Option AV :=
 match wrA cf π st o with
 | some (g,wr)=>bif g then k (wr.on st) else none
 | none=>inlO cf ce π st o k
def opsA (ops:Array Oper):List Oper→St→(St→Option AV)→Option AV
 | [],st,k=>k st
 | o :: r,st,k =>
  match o.guard with
  | none=>oneA cf ce π st o fun st=>opsA ops r st k
  | some (j,want) =>
   match (ops[j]?).bind (·.dst) with
   | none=>none
   | some t =>
    match getE st.env t with
    | .bool b =>
     ifW want b
      (oneA cf ce π ⟨setE st.env t (.bool want),st.heap⟩ o fun st=>opsA ops r st k)
      (opsA ops r (St.set ⟨setE st.env t (.bool !want),st.heap⟩ o.dst (.tup [])) k)
    | .tup []=>opsA ops r (st.set o.dst (.tup [])) k
    | _=>none
structure FP where
 i:Nat
 o:Oper
 wr:Wr
 rn:List Nm
 anc:Nat
def readsN (st:St) (o:Oper):List Nm :=
 match o.op with
 | .load .. | .slice .. | .indexAddr .. | .store .. | .buildSlice .. | .convert ..=>o.op.operands.toList.flatMap fun x=>namesV (opA st.env x)
 | .call _=>(o.op.operands.toList.flatMap fun x=>namesV (opA st.env x))++(o.op.operands.toList.flatMap fun x=>namesV (opA st.env x)).flatMap (boxN st.heap)
 | _=>[]
def hasN (l:List Nat) (i:Nat):Bool:=l.any (Nat.beq i)
def hasA (m i:Nat):Bool:=Nat.beq (m / 2 ^ i % 2) 1
def getA:List FP→Nat→Nat
 | [],_=>0
 | p :: r,i=>bif Nat.beq p.i i then p.anc else getA r i
def ancE (acc:List FP) (i:Nat) (b:Bool) (s:Nat):Nat:=bif b && !hasA s i then s ||| (2 ^ i ||| getA acc i) else s
def ancL (acc:List FP):List Edge→Nat
 | []=>0
 | e :: r=>ancE acc e.on (Region.binds .any e) (ancL acc r)
def ancOf (acc:List FP) (o:Oper):Nat:=ancL acc o.after.toList
def turnOK (acc:List FP) (i:Nat) (o:Oper):Bool :=
 !(acc.any fun p=>Nat.beq p.i i) && o.after.toList.all fun e => !Region.binds .any e || acc.any fun p=>Nat.beq p.i e.on
def hasM (l:List Nm) (n:Nm):Bool:=l.any (nmEq n)
def creates (o:Oper):Bool :=
 match o.op with
 | .alloc _ | .box .. | .buildSlice .. | .makeSlice .. | .call { callee := .builtin .append,.. } | .call { callee := .value _,.. }=>true
 | _=>false
def cleanW (q:Nm) (wr:Wr):Bool :=
 cleanE q wr.es && wr.hs.all fun x => !under q x.1 && (match x.2 with|some b => !b.box || b.xs.all fun v => !menV (under q) v|none=>true)
def apartF (ops:Array Oper) (x y:FP):Bool :=
 (hasA x.anc y.i || hasA y.anc x.i ||
  (y.o.dst.toList.all (fun t => !hasN (x.o.looksAt ops) t && !hasN x.o.dst.toList t) && y.wr.hs.all (fun z => !hasM x.rn z.1 && x.wr.hs.all fun z' => !nmEq z'.1 z.1))) &&
 (hasA y.anc x.i || !creates x.o || x.o.dst.toList.all fun d=>cleanW (d :: π) y.wr)
def drawOK (ops:Array Oper) (acc:List FP):Bool:=acc.all fun x=>acc.all fun y=>Nat.beq x.i y.i || apartF π ops x y
def sortedE:List (Nat × AV)→Bool
 | []=>true
 | [_]=>true
 | x :: y :: r=>Nat.blt x.1 y.1 && sortedE (y :: r)
def sortedH:List (Nm × Blk)→Bool
 | []=>true
 | [_]=>true
 | x :: y :: r=>nmLt x.1 y.1 && sortedH (y :: r)
def opsT (ops:Array Oper):List Nat→List FP→St→(St→Option AV)→Option AV
 | [],acc,st,k=>bif drawOK π ops acc then k st else none
 | i :: r,acc,st,k =>
  match ops[i]? with
  | none=>none
  | some o =>
   bif !turnOK acc i o then none else
   match o.guard with
   | none =>
    match wrA cf π st o with
    | some (g,wr)=>bif g then opsT ops r (⟨i,o,wr,readsN st o,ancOf acc o⟩ :: acc) (wr.on st) k else none
    | none=>none
   | some (j,want) =>
    match (ops[j]?).bind (·.dst) with
    | none=>none
    | some t =>
     match getE st.env t with
     | .bool b =>
      ifW want b
       (match wrA cf π ⟨setE st.env t (.bool want),st.heap⟩ o with
       | some (g,wr)=>bif g then opsT ops r (⟨i,o,wr,readsN ⟨setE st.env t (.bool want),st.heap⟩ o,ancOf acc o⟩ :: acc) (wr.on ⟨setE st.env t (.bool want),st.heap⟩) k else none
       | none=>none)
       (opsT ops r (⟨i,o,⟨toD o.dst (.tup []),[]⟩,[],ancOf acc o⟩ :: acc) (Wr.on ⟨toD o.dst (.tup []),[]⟩ ⟨setE st.env t (.bool !want),st.heap⟩) k)
     | .tup []=>opsT ops r (⟨i,o,⟨toD o.dst (.tup []),[]⟩,[],ancOf acc o⟩ :: acc) (Wr.on ⟨toD o.dst (.tup []),[]⟩ st) k
     | _=>none
def inLine (ops:Array Oper):Bool:=(List.range ops.size).all fun i =>
 match ops[i]? with
 | some o=>o.after.toList.all fun e => !Region.binds .any e || Nat.blt e.on i
 | none=>false
def lineOf (ops:Array Oper):List Nat:=bif inLine ops then List.range ops.size else Region.linearise .any ops 0
def drawA (ops:Array Oper) (st:St) (k:St→Option AV):Option AV :=
 bif sortedE st.env && sortedH st.heap && ops.toList.all (fun o => !creates o || o.dst.toList.all fun d=>cleanS (d :: π) st) && (List.range ops.size).all (hasN (lineOf ops)) then
  opsT cf π ops (lineOf ops) [] st k
 else none
def refs1 (path:Nm):AV→List (Nm × Nm)
 | .own nm | .sub nm _ _ | .ptr nm _ _=>[(nm,0 :: path)]
 | _=>[]
def refsCs (path:Nm):Nat→List AV→List (Nm × Nm)
 | _,[]=>[]
 | j,x :: xs=>refs1 (j :: path) x++refsCs path (j+1) xs
def refsV (path:Nm):AV→List (Nm × Nm)
 | .agg cs | .tup cs | .fn _ cs=>refsCs path 0 cs
 | x=>refs1 path x
def addRefs:List (Nm × Nm)→List (Nm × Nm)→List (Nm × Nm)
 | acc,[]=>acc
 | acc,(o,n) :: r=>bif !isLoc π o || acc.any (fun q=>nmEq q.1 o) then addRefs acc r else addRefs (acc++[(o,n)]) r
def moreRefs (heap:List (Nm × Blk)) (acc:List (Nm × Nm)):List (Nm × Nm) :=
 addRefs π acc (acc.flatMap fun q =>
  match getH heap q.1 with
  | some b=>bif b.box then (match b.xs with|[x]=>refsV (q.2.drop 1) x|_=>[]) else []
  | none=>[])
def homes (keep:List Nat) (st:St):List (Nm × Nm) :=
 let a:=addRefs π [] (keep.flatMap fun t=>refsV (t :: π) (getE st.env t))
 let a:=addRefs π a (st.heap.flatMap fun q=>bif !isLoc π q.1 && q.2.box then (match q.2.xs with|[x]=>refsV (q.1++7 :: π) x|_=>[]) else [])
 moreRefs π st.heap (moreRefs π st.heap a)
def renN (pairs:List (Nm × Nm)) (nm:Nm):Option Nm:=bif isLoc π nm then findN pairs nm else some nm
def ren1 (pairs:List (Nm × Nm)):AV→AV
 | .own nm=>match renN π pairs nm with|some n => .own n|none => .undef
 | .sub nm a b=>match renN π pairs nm with|some n => .sub n a b|none => .undef
 | .ptr nm a b=>match renN π pairs nm with|some n => .ptr n a b|none => .undef
 | .agg _ | .tup _ | .fn .. => .undef
 | x=>x
def renV (pairs:List (Nm × Nm)):AV→AV
 | .agg cs => .agg (cs.map (ren1 π pairs))
 | .tup cs => .tup (cs.map (ren1 π pairs))
 | .fn f cs => .fn f (cs.map (ren1 π pairs))
 | x=>ren1 π pairs x
def renB (pairs:List (Nm × Nm)) (b:Blk):Blk:=bif b.box then { b with xs:=b.xs.map (renV π pairs) } else b
def normA (keep:List Nat) (st:St):Option St :=
 let pairs:=homes π keep st
 bif nodupN (pairs.map (·.1)) && pairs.all (fun q=>isLoc π q.1 && isLoc π q.2) && nodupN (pairs.map (·.2)) then
  some { env:=keep.map fun t=>(t,renV π pairs (getE st.env t)),heap:=(pairs.foldl (fun h q=>match getH st.heap q.1 with|some b=>setH h q.2 (renB π pairs b)|none=>h)
       ((st.heap.filter fun q => !isLoc π q.1).map fun q=>(q.1,renB π pairs q.2))) }
 else none
def trimA (keep:Option (List Nat)) (st:St):St :=
 match keep with
 | some l=>{ st with env:=l.map fun t=>(t,getE st.env t) }
 | none=>st
def stepA (body:St→Kont→Option AV) (norm:St→Option St) (next:St→Option AV) (st:St) (k:Kont):Option AV :=
 body st fun e st =>
  match e with
  | .normal =>
   match norm st with
   | some st=>next st
   | none=>none
  | .ret=>k .ret st
  | .exit j=>k (.exit j) st
def loopA (body:St→Kont→Option AV) (norm:St→Option St):Nat→St→Kont→Option AV
 | 0,_,_=>none
 | n+1,st,k=>stepA body norm (fun st=>loopA body norm n st k) st k
def codeA (fid:Nat):Nat→Code→St→Kont→Option AV
 | _,.skip,st,k=>k .normal st
 | _,.region _ ops draw,st,k=>bif draw then drawA cf π ops st (k .normal) else opsA cf ce π ops ops.toList st (k .normal)
 | cur,.seq a b,st,k=>codeA fid cur a st fun e st =>
  match e with
  | .normal=>codeA fid cur b st k
  | .ret=>k .ret st
  | .exit j=>k (.exit j) st
 | cur,.cond c x y,st,k =>
  match opA st.env c with
  | .bool b=>bif b then codeA fid cur x st k else codeA fid cur y st k
  | _=>none
 | _,.block id body,st,k=>codeA fid id body st fun e st =>
  match e with
  | .exit j=>bif Nat.beq j id then k .normal st else k (.exit j) st
  | .normal=>k .normal (trimA (cf.H fid (1000+id)) st)
  | .ret=>k .ret st
 | cur,.loop _,st,k =>
  match cf.LM fid cur,normA π ((cf.H fid cur).getD []) st with
  | some m,some st=>m ce π st k
  | _,_=>none
 | _,.exit id,st,k=>k (.exit id) (trimA (cf.H fid (1000+id)) st)
 | _,.ret,st,k=>k .ret (trimA (cf.H fid 999) st)
 | _,_,_,_=>none
end
def resA (P:Program) (st:St):ResultVar→Option AV
 | .tmp t=>some (getE st.env t)
 | .cell a t =>
  match getE st.env a with
  | .ptr nm i off=>match getH st.heap nm with|some b=>partB P t b i off|none=>none
  | _=>none
def resAs (P:Program) (st:St):List ResultVar→Option (List AV)
 | []=>some []
 | r :: rs =>
  match resA P st r,resAs P st rs with
  | some v,some vs=>some (v :: vs)
  | _,_=>none
def env0:Nat→List AV→List (Nat × AV)
 | _,[]=>[]
 | j,v :: vs=>(j,v) :: env0 (j+1) vs
def fitsC (n:Nat):Code→Bool
 | .region _ ops _=>ops.toList.all fun o=>o.dst.toList.all fun d=>Nat.blt d n
 | .seq a b | .cond _ a b=>fitsC n a && fitsC n b
 | .block _ b | .loop b=>fitsC n b
 | _=>true
def loopsC:Nat→Code→List (Nat × Code)
 | cur,.seq a b|cur,.cond _ a b=>loopsC cur a++loopsC cur b
 | _,.block id b=>loopsC id b
 | cur,.loop b=>(cur,b) :: loopsC cur b
 | _,_=>[]
def inlA (cf:Cfg):Nat→CallE
 | 0=>fun _ _ _ _ _=>none
 | n+1=>fun f args π heap k =>
  match cf.SP f with
  | some s=>s args π heap k
  | none =>
  match cf.P.funcs[f]? with
  | some fn =>
   match fn.body with
   | some c=>bif fitsC fn.ntmps c && Nat.ble args.length fn.ntmps then codeA cf (inlA cf n) π f 0 c ⟨env0 0 args,heap⟩ fun e st =>
     match e with
     | .normal | .ret =>
      match resAs cf.P st fn.results.toList with
      | some vs=>k (packA vs) st.heap
      | none=>none
     | _=>none
    else none
   | none=>none
  | none=>none
def funA (cf:Cfg) (lvl:Nat) (f:Nat) (args:List AV):Option AV :=
 match cf.P.funcs[f]? with
 | some fn =>
  match fn.body with
  | some c=>bif fitsC fn.ntmps c && Nat.ble args.length fn.ntmps then codeA cf (inlA cf lvl) [] f 0 c ⟨env0 0 args,[]⟩ fun e st =>
    match e with
    | .normal | .ret =>
     match resAs cf.P st fn.results.toList with
     | some vs =>
      match retVs cf.P st.heap fn.resultTypes.toList vs with
      | some (ys,l)=>bif nodupN l then some (packA ys) else none
      | none=>none
     | none=>none
    | _=>none
   else none
  | none=>none
 | none=>none
end Go.Proofs.VE

namespace Go.Proofs.VE
open Go
theorem nmEq_iff:∀ a b:Nm,nmEq a b=true ↔ a=b
 | [],[]=>by simp [nmEq]
 | [],_ :: _=>by simp [nmEq]
 | _ :: _,[]=>by simp [nmEq]
 | a :: x,b :: y=>by
  have ih:=nmEq_iff x y
  unfold nmEq
  cases h:Nat.beq a b with
  | true=>simp [Nat.eq_of_beq_eq_true h,ih]
  | false=>simp [Nat.ne_of_beq_eq_false h]
theorem nmEq_refl (a:Nm):nmEq a a=true:=(nmEq_iff a a).2 rfl
theorem nmEq_ne {a b:Nm} (h:a ≠ b):nmEq a b=false:=by
 cases e:nmEq a b with
 | false=>rfl
 | true=>exact absurd ((nmEq_iff a b).1 e) h
theorem getE_setE:∀ (e:List (Nat × AV)) (d:Nat) (v:AV) (t:Nat),getE (setE e d v) t=if d=t then v else getE e t
 | [],d,v,t=>by
  unfold setE getE
  by_cases h:d=t
  ·subst h;simp
  ·have:Nat.beq d t=false:=by cases e:Nat.beq d t <;> simp_all
   simp [this,h,getE]
 | (s,u) :: r,d,v,t=>by
  have ih:=getE_setE r d v t
  unfold setE
  cases h1:Nat.beq s d with
  | true =>
   have e1:=Nat.eq_of_beq_eq_true h1
   subst e1
   simp only [cond_true,getE]
   by_cases h:s=t
   ·subst h;simp
   ·have:Nat.beq s t=false:=by cases e:Nat.beq s t <;> simp_all
    simp [this,h]
  | false =>
   have n1:=Nat.ne_of_beq_eq_false h1
   simp only [cond_false]
   cases h2:Nat.blt d s with
   | true =>
    simp only [cond_true]
    by_cases h:d=t
    ·subst h;simp [getE]
    ·have:Nat.beq d t=false:=by cases e:Nat.beq d t <;> simp_all
     conv=>lhs;unfold getE
     simp [this,h]
   | false =>
    simp only [cond_false]
    conv=>lhs;unfold getE
    cases h3:Nat.beq s t with
    | true =>
     have e3:=Nat.eq_of_beq_eq_true h3
     subst e3
     simp [getE,Ne.symm n1]
    | false =>
     simp only [cond_false,ih]
     conv=>rhs;unfold getE
     simp [h3]
theorem getH_setH:∀ (h:List (Nm × Blk)) (m:Nm) (b:Blk) (n:Nm),getH (setH h m b) n=if m=n then some b else getH h n
 | [],m,b,n=>by
  unfold setH getH
  by_cases e:m=n
  ·subst e;simp [nmEq_refl]
  ·simp [nmEq_ne e,e,getH]
 | (s,u) :: r,m,b,n=>by
  have ih:=getH_setH r m b n
  unfold setH
  by_cases e1:s=m
  ·subst e1
   simp only [nmEq_refl,cond_true,getH]
   by_cases e:s=n
   ·subst e;simp [nmEq_refl]
   ·simp [nmEq_ne e,e]
  ·simp only [nmEq_ne e1,cond_false]
   cases h2:nmLt m s with
   | true =>
    simp only [cond_true]
    by_cases e:m=n
    ·subst e;simp [getH,nmEq_refl]
    ·conv=>lhs;unfold getH
     simp [nmEq_ne e,e]
   | false =>
    simp only [cond_false]
    conv=>lhs;unfold getH
    by_cases e3:s=n
    ·subst e3
     simp [getH,nmEq_refl,Ne.symm e1]
    ·simp only [nmEq_ne e3,cond_false,ih]
     conv=>rhs;unfold getH
     simp [nmEq_ne e3]
theorem getH_delH:∀ (h:List (Nm × Blk)) (m n:Nm),getH (delH h m) n=if m=n then none else getH h n
 | [],m,n=>by simp [delH,getH]
 | (s,u) :: r,m,n=>by
  have ih:=getH_delH r m n
  unfold delH
  by_cases e1:s=m
  ·subst e1
   simp only [nmEq_refl,cond_true,ih]
   by_cases e:s=n
   ·subst e;simp
   ·simp [e,getH,nmEq_ne e]
  ·simp only [nmEq_ne e1,cond_false]
   conv=>lhs;unfold getH
   by_cases e3:s=n
   ·subst e3;simp [nmEq_refl,Ne.symm e1,getH]
   ·simp only [nmEq_ne e3,cond_false,ih]
    conv=>rhs;unfold getH
    simp [nmEq_ne e3]
theorem kEq_iff (a b:IntKind):kEq a b=true ↔ a=b:=by cases a <;> cases b <;> simp [kEq]
mutual
theorem ctEq_eq:∀ a b:CT,ctEq a b=true→a=b
 | .int k,b,h=>by cases b <;> simp_all [ctEq,kEq_iff]
 | .bool,b,h=>by cases b <;> simp_all [ctEq]
 | .str,b,h=>by cases b <;> simp_all [ctEq]
 | .sl a,.sl b,h=>by simp only [ctEq] at h;rw [ctsEq_eq a b h]
 | .sl a,.int _,h | .sl a,.bool,h | .sl a,.str,h | .sl a,.oth,h | .sl a,.fnc _,h=>by simp [ctEq] at h
 | .fnc a,b,h=>by cases b <;> simp_all [ctEq]
 | .oth,b,h=>by cases b <;> simp_all [ctEq]
theorem ctsEq_eq:∀ a b:List CT,ctsEq a b=true→a=b
 | [],[],_=>rfl
 | [],_ :: _,h=>by simp [ctsEq] at h
 | _ :: _,[],h=>by simp [ctsEq] at h
 | a :: x,b :: y,h=>by
  simp only [ctsEq,Bool.and_eq_true] at h
  rw [ctEq_eq a b h.1,ctsEq_eq x y h.2]
end
def at_ (b o sz i j:Nat):Addr:=⟨b,o+i*sz+j,none⟩
inductive VC (mem:Addr→Option Value):CT→AV→Value→Prop
 | int (k:IntKind) (n:Int):VC mem (.int k) (.int k n) (.int k n)
 | bool (b:Bool):VC mem .bool (.bool b) (.bool b)
 | str (s:ByteArray):VC mem .str (.str s) (.string s)
 | fn (f:Nat):VC mem (.fnc f) (.fn f []) (.func (.func f) #[] #[])
 | sl (e:List CT) (xs:List AV) (a:Option Addr) (cap:Nat) (U:Nat→Nat→Value) (hcap:xs.length≤cap) (hmax:xs.length≤maxLen)
   (hm:∀ i j,i<xs.length→j<e.length→∃ b o,a=some ⟨b,o,none⟩∧mem (at_ b o e.length i j)=some (U i j))
   (ha:0<xs.length→∃ b o,a=some ⟨b,o,none⟩)
   (hx:∀ (i:Nat) (x:AV),xs[i]?=some x→x.cells.length=e.length)
   (hv:∀ (i:Nat) (x:AV) (j:Nat) (ct:CT) (c:AV),xs[i]?=some x→e[j]?=some ct→x.cells[j]?=some c→VC mem ct c (U i j)) :
   VC mem (.sl e) (.sl e xs) (.slice a xs.length cap)
theorem VC.mono {mem mem':Addr→Option Value} (hm:∀ a v,mem a=some v→mem' a=some v) {ct:CT} {c:AV} {v:Value} (h:VC mem ct c v):VC mem' ct c v:=by
 induction h with
 | int k n=>exact .int k n
 | bool b=>exact .bool b
 | str s=>exact .str s
 | fn f=>exact .fn f
 | sl e xs a cap U hcap hmax h1 ha hx _ ih =>
  exact .sl e xs a cap U hcap hmax (fun i j hi hj=>by obtain ⟨b,o,e1,e2⟩:=h1 i j hi hj;exact ⟨b,o,e1,hm _ _ e2⟩) ha hx ih
theorem VC.flat {mem mem':Addr→Option Value} {ct:CT} {c:AV} {v:Value} (h:VC mem ct c v) (hf:flatCT ct=true):VC mem' ct c v:=by
 cases h with
 | int k n=>exact .int k n
 | bool b=>exact .bool b
 | str s=>exact .str s
 | fn=>cases hf
 | sl=>cases hf
theorem VC.oneCell' {mem:Addr→Option Value} {t:CT} {c:AV} {v:Value} (h:VC mem t c v):v.oneCell'=true:=by cases h <;> rfl
structure Dat where
 real:Bool
 loc:Nat × Nat
 width:Nat
 len:Nat
 room:Nat
structure Ctx where
 base:Nat
 w0:World
 mem:Addr→Option Value
 memF:Addr→Option Value:=fun _=>none
 fr:Nat→Prop:=fun _=>False
 dat:Nm→Dat
abbrev Ctx.real (C:Ctx) (nm:Nm):Bool:=(C.dat nm).real
abbrev Ctx.loc (C:Ctx) (nm:Nm):Nat × Nat:=(C.dat nm).loc
abbrev Ctx.width (C:Ctx) (nm:Nm):Nat:=(C.dat nm).width
abbrev Ctx.len (C:Ctx) (nm:Nm):Nat:=(C.dat nm).len
abbrev Ctx.room (C:Ctx) (nm:Nm):Nat:=(C.dat nm).room
def Ctx.at (C:Ctx) (nm:Nm) (i j:Nat):Addr:=at_ (C.loc nm).1 (C.loc nm).2 (C.width nm) i j
inductive VR (C:Ctx):AV→Value→Prop
 | undef (v:Value):VR C .undef v
 | bool (b:Bool):VR C (.bool b) (.bool b)
 | int (k:IntKind) (n:Int):VR C (.int k n) (.int k n)
 | str (s:ByteArray):VR C (.str s) (.string s)
 | nilp:VR C .nilp (.pointer none)
 | nilfn:VR C .nilfn .nilFunc
 | snil:VR C .snil (.slice none 0 0)
 | sle (b:Bool) (tys:List CT) (ad:Option Addr) (cap:Nat) (h:ad.isNone=b):VR C (.sle b tys) (.slice ad 0 cap)
 | ptr (nm:Nm) (i off:Nat) (hr:C.real nm=true) (hi:i<C.len nm):VR C (.ptr nm i off) (.pointer (some (C.at nm i off)))
 | rptr (tys:List CT) (x:AV) (off b o:Nat) (U:Nat→Value) (hm:∀ j,j<tys.length→C.mem ⟨b,o+j,none⟩=some (U j))
   (hx:x.cells.length=tys.length) (hv:∀ (j:Nat) (ct:CT) (c:AV),tys[j]?=some ct→x.cells[j]?=some c→VC C.mem ct c (U j)) :
   VR C (.rptr tys x off) (.pointer (some ⟨b,o+off,none⟩))
 | own (nm:Nm) (cap:Nat) (hr:C.real nm=true) (h1:C.len nm≤cap) (h2:cap≤C.room nm) :
   VR C (.own nm) (.slice (some (C.at nm 0 0)) (C.len nm) cap)
 | ownNil (nm:Nm) (h:C.len nm=0):VR C (.own nm) (.slice none 0 0)
 | sub (nm:Nm) (lo n cap:Nat) (a:Option Addr) (h1:n≤cap) (h2:0<n→C.real nm=true∧a=some (C.at nm lo 0))
   (h3:(C.real nm=true∧∃ l,a=some (C.at nm l 0)∧l+cap≤C.room nm)∨(a=none∧cap=0)) (h4:lo+n≤C.len nm) :
   VR C (.sub nm lo n) (.slice a n cap)
 | sl (tys:List CT) (xs:List AV) (v:Value) (h:VC C.mem (.sl tys) (.sl tys xs) v):VR C (.sl tys xs) v
 | fn (f:Nat) (cs:List AV) (vs:List Value) (h1:cs.length=vs.length) (h2:∀ (i:Nat) (c:AV) (v:Value),cs[i]?=some c→vs[i]?=some v→VR C c v) :
   VR C (.fn f cs) (.func (.func f) #[] vs.toArray)
 | agg (cs:List AV) (vs:List Value) (h1:cs.length=vs.length) (h2:∀ (i:Nat) (c:AV) (v:Value),cs[i]?=some c→vs[i]?=some v→VR C c v)
   (h3:∀ v,v ∈ vs→v.oneCell'=true):VR C (.agg cs) (.agg vs.toArray)
 | tup (cs:List AV) (vs:List Value) (h1:cs.length=vs.length) (h2:∀ (i:Nat) (c:AV) (v:Value),cs[i]?=some c→vs[i]?=some v→VR C c v) :
   VR C (.tup cs) (.tuple vs.toArray)
class Glob where
 ok:World→Prop
 n:Nat
 stable:∀ w w':World,(∀ k,k<n→w'.heap[k]?=w.heap[k]?)→ok w→ok w'
def cellR (C:Ctx) (b:Blk) (j:Nat) (c:AV) (u:Value):Prop :=
 u.oneCell'=true∧if b.box then VR C c u else ∃ ct,b.tys[j]?=some ct∧VC C.memF ct c u
structure BlkR (C:Ctx) (w:World) (nm:Nm) (b:Blk):Prop where
 max:b.xs.length≤maxLen
 len:C.len nm=b.xs.length
 width:b.box=false→C.width nm=b.tys.length
 box:b.box=true→b.xs.length=1∧C.real nm=true
 nilb:C.real nm=false→b.xs=[]
 cells:∀ i x,b.xs[i]?=some x→x.cells.length=C.width nm∧∀ j c,x.cells[j]?=some c→∃ u,w.cell? (C.at nm i j)=some u∧cellR C b j c u
 room:C.real nm=true→C.base≤(C.loc nm).1∧(C.loc nm).1<w.heap.size∧b.xs.length≤C.room nm∧∀ o,o<C.room nm*C.width nm →
  (w.cell? ⟨(C.loc nm).1,(C.loc nm).2+o,none⟩).isSome=true∧w.frozen? ⟨(C.loc nm).1,(C.loc nm).2+o,none⟩=false
 froz:C.real nm=true→0<C.room nm*C.width nm→∀ o,w.frozen? ⟨(C.loc nm).1,o,none⟩=false
structure HSim [Glob] (C:Ctx) (heap:List (Nm × Blk)) (w:World):Prop where
 blk:∀ nm b,getH heap nm=some b→BlkR C w nm b
 apart:∀ nm b nm' b',getH heap nm=some b→getH heap nm'=some b'→C.real nm=true→C.real nm'=true→nm ≠ nm'→(C.loc nm).1 ≠ (C.loc nm').1
 mem:∀ a v,C.mem a=some v→w.cell? a=some v∧a.block<w.heap.size∧∀ nm b,getH heap nm=some b→C.real nm=true→(C.loc nm).1 ≠ a.block
 grown:C.base≤w.heap.size
 kept:RowKit.Below C.base C.w0 w
 blk0:∀ a v,C.mem a=some v→C.memF a=none→w.heap[a.block]?=C.w0.heap[a.block]?
 own:∀ a v,C.memF a=some v→C.mem a=some v∧C.base≤a.block
 glob:Glob.ok C.w0∧Glob.n≤C.base
 frame:∀ k,C.fr k→k<C.w0.heap.size∧w.heap[k]?=C.w0.heap[k]?∧∀ nm b,getH heap nm=some b→C.real nm=true→(C.loc nm).1 ≠ k
theorem HSim.globW [Glob] {C:Ctx} {heap:List (Nm × Blk)} {w:World} (h:HSim C heap w):Glob.ok w∧Glob.n≤w.heap.size :=
 ⟨Glob.stable C.w0 w (fun k hk=>h.kept.block k (Nat.lt_of_lt_of_le hk h.glob.2)) h.glob.1,Nat.le_trans h.glob.2 h.grown⟩
structure Sim [Glob] (C:Ctx) (nt:Nat) (st:St) (a:Act) (w:World):Prop extends HSim C st.heap w where
 size:a.tmps.size=nt
 defers:a.defers=[]
 env:∀ t,VR C (getE st.env t) (a.tmps.getD t undef)
theorem VR.agg_inv {C:Ctx} {cs:List AV} {v:Value} (h:VR C (.agg cs) v):∃ vs:List Value,v = .agg vs.toArray∧cs.length=vs.length∧(∀ (i:Nat) (c:AV) (v:Value),cs[i]?=some c→vs[i]?=some v→VR C c v)∧∀ v,v ∈ vs→v.oneCell'=true:=by
 cases h with
 | agg cs vs h1 h2 h3=>exact ⟨vs,rfl,h1,h2,h3⟩
end Go.Proofs.VE

namespace Go.Proofs.VE
open Go
section
variable {P:Program} {C:Ctx} {nt:Nat} {st:St} {a:Act} {w:World}
theorem ofVal1_sound (v:Value):VR C (ofVal1 v) v:=by
 unfold ofVal1
 split <;> constructor
theorem ofVal_sound (v:Value):VR C (ofVal v) v:=by
 unfold ofVal
 split
 ·rename_i cs
  cases h:cs.toList.all fun v=>match v with | .agg _ | .tuple _=>false|_=>true with
  | false=>exact .undef _
  | true =>
   have e:(Value.agg cs) = .agg cs.toList.toArray:=by simp
   rw [e]
   refine VR.agg _ _ (by simp) (fun i c v h1 h2=>?_) (fun v hv=>?_)
   ·rw [List.getElem?_map,h2] at h1
    obtain rfl:=Option.some.inj h1
    exact ofVal1_sound v
   ·have:=List.all_eq_true.1 h v hv
    cases v <;> simp_all [Value.oneCell']
 ·rename_i vs
  have e:(Value.tuple vs) = .tuple vs.toList.toArray:=by simp
  rw [e]
  refine VR.tup _ _ (by simp) (fun i c v h1 h2=>?_)
  rw [List.getElem?_map,h2] at h1
  obtain rfl:=Option.some.inj h1
  exact ofVal1_sound v
 ·exact ofVal1_sound v
theorem opA_sound [Glob] (hs:Sim C nt st a w) (x:Operand):VR C (opA st.env x) (a.eval x):=by
 cases x with
 | tmp t=>exact hs.env t
 | const v=>exact ofVal_sound v
 | global g=>exact .undef _
 | func f=>exact VR.fn f [] [] rfl (fun i c v h _=>by simp at h)
theorem toV_sound {x:AV} {v u:Value} (h:VR C x u) (hv:toV x=some v):u=v:=by
 cases h <;> simp_all [toV]
theorem ofV_sound {v:Value} {x:AV} (h:ofV v=some x):VR C x v:=by
 cases v <;> simp [ofV] at h <;> subst h <;> constructor
theorem runP_sound {α:Type}:∀ {s:Sem α} {r:α},runP P s=some r→∀ w,s.run P w = .ok r w:=by
 intro s
 induction s with
 | pure a=>intro r h w;simp only [runP] at h;obtain rfl:=Option.some.inj h;rfl
 | program k ih=>intro r h w;simp only [runP] at h;exact ih P h w
 | _=>intro r h;simp [runP] at h
theorem pick_sound {c:Bool} {x y:AV} {u v:Value} (hx:VR C x u) (hy:VR C y v):VR C (pickA c x y) (if c then u else v):=by
 unfold pickA
 split
 ·cases hx;cases hy
  cases c <;> constructor
 ·cases c
  ·exact hy
  ·exact hx
theorem info_of_underlying {t:TypeId} {d:TypeDesc} (h:P.underlying t=some d):∃ i,P.info? t=some i:=by
 unfold Program.underlying at h
 split at h <;> first|exact ⟨_,by assumption⟩|cases h
theorem run_typeInfo {t:TypeId} {i:TypeInfo} (h:P.info? t=some i):(typeInfo t).run P w = .ok i w:=by
 simp [typeInfo,program,Sem.run,bind,Sem.bind,h,pure]
theorem run_underlying {t:TypeId} {d:TypeDesc} (h:P.underlying t=some d):(underlying t).run P w = .ok d w:=by
 simp [underlying,program,Sem.run,bind,Sem.bind,h,pure]
theorem run_sizeOf {t:TypeId} {d:TypeDesc} (h:P.underlying t=some d):(sizeOf t).run P w = .ok (P.cellsOf t) w:=by
 obtain ⟨i,hi⟩:=info_of_underlying h
 simp [sizeOf,typeInfo,program,Sem.run,bind,Sem.bind,hi,pure,Program.cellsOf]
theorem run_isAgg {t:TypeId} {b:Bool} (h:aggT P t=some b):(isAgg t).run P w = .ok b w:=by
 unfold aggT at h
 cases hu:P.underlying t with
 | none=>simp [hu] at h
 | some d =>
  simp only [hu] at h
  cases d <;> simp_all [isAgg,underlying,program,Sem.run,bind,Sem.bind,pure]
theorem aggT_underlying {t:TypeId} {b:Bool} (h:aggT P t=some b):∃ d,P.underlying t=some d:=by
 unfold aggT at h
 cases hu:P.underlying t with
 | none=>simp [hu] at h
 | some d=>exact ⟨d,rfl⟩
theorem run_bind' {α β:Type} {s:Sem α} {f:α→Sem β} {x:α} {w w':World} (h:s.run P w = .ok x w'):(s >>= f).run P w=(f x).run P w':=by
 rw [Sem.run_bind,h];rfl
theorem add_at (b o n:Nat):(⟨b,o,none⟩:Addr).add n=⟨b,o+n,none⟩:=by unfold Addr.add;split <;> simp_all
theorem run_loadVar_agg {t:TypeId} {b o:Nat} {vs:List Value} (h:aggT P t=some true) (hn:vs.length=P.cellsOf t) (hc:∀ j v,vs[j]?=some v→w.cell? ⟨b,o+j,none⟩=some v) :
  (loadVar t ⟨b,o,none⟩).run P w = .ok (.agg vs.toArray) w:=by
 obtain ⟨d,hd⟩:=aggT_underlying h
 unfold loadVar
 rw [run_bind' (run_isAgg h)]
 simp only [if_true]
 rw [run_bind' (run_sizeOf hd),← hn,run_bind' (run_loadCells_list (P:=P) w ⟨b,o,none⟩ vs (fun j v hj=>by rw [add_at];exact hc j v hj))]
 rfl
theorem run_loadVar_one {t:TypeId} {b o:Nat} {v:Value} (h:aggT P t=some false) (hc:w.cell? ⟨b,o,none⟩=some v) :
  (loadVar t ⟨b,o,none⟩).run P w = .ok v w:=by
 unfold loadVar
 rw [run_bind' (run_isAgg h)]
 simp [load,Sem.run,hc]
theorem proj_sound {mem:Addr→Option Value} {x:AV} {o:Nat} {ct:CT} {c:AV} {v:Value} (h:x.cells[o]?=some c) (hv:VC mem ct c v):proj x o ct=c:=by
 cases hv <;> simp [proj,fI,fB,fS,fL,h]
theorem VC.toVR {ct:CT} {c:AV} {v:Value} (h:VC C.mem ct c v):VR C c v:=by
 cases h with
 | int k n=>exact .int _ _
 | bool b=>exact .bool _
 | str s=>exact .str _
 | fn f=>exact .fn f [] [] rfl fun i c v h=>by simp at h
 | sl e xs a cap U h1 h1m h2 h3 h4 h5=>exact .sl _ _ _ (.sl e xs a cap U h1 h1m h2 h3 h4 h5)
theorem projs_get (x:AV):∀ (tys:List CT) (o j:Nat),(projs x o tys)[j]?=(tys[j]?).map fun c=>proj x (o+j) c
 | [],_,_=>by simp [projs]
 | c :: cs,o,0=>by simp [projs]
 | c :: cs,o,j+1=>by
  simp only [projs,List.getElem?_cons_succ,projs_get x cs (o+1) j]
  rw [show o+1+j=o+(j+1) by omega]
theorem projs_length (x:AV):∀ (tys:List CT) (o:Nat),(projs x o tys).length=tys.length
 | [],_=>rfl
 | _ :: cs,o=>by simp [projs,projs_length x cs]
theorem partT_sound {t:TypeId} {tys:List CT} {x:AV} {off:Nat} {v:AV} {b o:Nat} {U:Nat→Value} (h:partT P t tys x off=some v)
  (hl:x.cells.length=tys.length) (hc:∀ j,j<tys.length→w.cell? ⟨b,o+j,none⟩=some (U j)) (hv:∀ (j:Nat) (ct:CT) (c:AV),tys[j]?=some ct→x.cells[j]?=some c→VC C.mem ct c (U j)) :
  ∃ u,(loadVar t ⟨b,o+off,none⟩).run P w = .ok u w∧VR C v u:=by
 have get:∀ j ct,tys[j]?=some ct→∃ c,x.cells[j]?=some c∧VC C.mem ct c (U j)∧proj x j ct=c:=by
  intro j ct hj
  have hlt:j<x.cells.length:=by rw [hl];exact (List.getElem?_eq_some_iff.1 hj).1
  refine ⟨x.cells[j],List.getElem?_eq_getElem hlt,?_,?_⟩
  ·exact hv j ct _ hj (List.getElem?_eq_getElem hlt)
  ·exact proj_sound (List.getElem?_eq_getElem hlt) (hv j ct _ hj (List.getElem?_eq_getElem hlt))
 unfold partT at h
 split at h
 ·rename_i ha
  cases hb:Nat.ble (off+P.cellsOf t) tys.length with
  | false=>simp [hb] at h
  | true =>
   rw [hb] at h
   simp only [cond_true,Option.some.injEq] at h
   subst h
   have hle:=Nat.le_of_ble_eq_true hb
   refine ⟨_,run_loadVar_agg (vs:=(List.range (P.cellsOf t)).map fun j=>U (off+j)) ha (by simp) (fun j u hj=>?_),?_⟩
   ·rw [List.getElem?_map] at hj
    by_cases hlt:j<P.cellsOf t
    ·rw [List.getElem?_range hlt] at hj
     simp at hj;subst hj
     rw [show o+off+j=o+(off+j) by omega]
     exact hc _ (by omega)
    ·rw [List.getElem?_eq_none (by simp;omega)] at hj;simp at hj
   ·refine VR.agg _ _ (by rw [projs_length];simp;omega) (fun i c v h1 h2=>?_) (fun v hv'=>?_)
    ·rw [projs_get] at h1
     have hi:i<P.cellsOf t:=by
      have:=(List.getElem?_eq_some_iff.1 h2).1;simpa using this
     rw [List.getElem?_map,List.getElem?_range hi] at h2
     simp at h2;subst h2
     rw [List.getElem?_take_of_lt hi,List.getElem?_drop] at h1
     cases ht:tys[off+i]? with
     | none=>simp [ht] at h1
     | some ct =>
      simp only [ht,Option.map_some,Option.some.injEq] at h1
      obtain ⟨c',hc',hvc,hp⟩:=get _ _ ht
      rw [hp] at h1
      rw [← h1]
      exact hvc.toVR
    ·rw [List.mem_map] at hv'
     obtain ⟨j,hj,rfl⟩:=hv'
     rw [List.mem_range] at hj
     have hlt:off+j<tys.length:=by omega
     obtain ⟨c',_,hvc,_⟩:=get (off+j) _ (List.getElem?_eq_getElem hlt)
     exact hvc.oneCell'
 ·rename_i ha
  split at h
  ·rename_i ct ht
   obtain rfl:=Option.some.inj h
   obtain ⟨c',hc',hvc,hp⟩:=get _ _ ht
   refine ⟨U off,run_loadVar_one ha (hc _ (List.getElem?_eq_some_iff.1 ht).1),?_⟩
   rw [hp];exact hvc.toVR
  ·cases h
 ·cases h
theorem partA_sound {t:TypeId} {x:AV} {off:Nat} {v:AV} {b o:Nat} (h:partA P t x off=some v)
  (hc:∀ (j:Nat) (c:AV),x.cells[j]?=some c→∃ u,w.cell? ⟨b,o+j,none⟩=some u∧u.oneCell'=true∧VR C c u) :
  ∃ u,(loadVar t ⟨b,o+off,none⟩).run P w = .ok u w∧VR C v u:=by
 unfold partA at h
 split at h
 ·rename_i ha
  cases hb:Nat.ble (off+P.cellsOf t) x.cells.length with
  | false=>simp [hb] at h
  | true =>
   rw [hb] at h
   simp only [cond_true,Option.some.injEq] at h
   subst h
   have hle:=Nat.le_of_ble_eq_true hb
   have hex:∀ j,j<x.cells.length→∃ u,w.cell? ⟨b,o+j,none⟩=some u∧u.oneCell'=true∧VR C (x.cells.getD j .undef) u:=fun j hj=>by
    obtain ⟨u,h1,h2,h3⟩:=hc j x.cells[j] (List.getElem?_eq_getElem hj)
    exact ⟨u,h1,h2,by simpa [List.getD,List.getElem?_eq_getElem hj] using h3⟩
   let U:Nat→Value:=fun j=>(w.cell? ⟨b,o+j,none⟩).getD undef
   have hU:∀ j,j<x.cells.length→w.cell? ⟨b,o+j,none⟩=some (U j)∧(U j).oneCell'=true∧VR C (x.cells.getD j .undef) (U j):=fun j hj=>by
    obtain ⟨u,h1,h2,h3⟩:=hex j hj
    simp only [U,h1,Option.getD_some]
    exact ⟨trivial,h2,h3⟩
   refine ⟨_,run_loadVar_agg (vs:=(List.range (P.cellsOf t)).map fun j=>U (off+j)) ha (by simp) (fun j u hj=>?_),?_⟩
   ·rw [List.getElem?_map] at hj
    by_cases hlt:j<P.cellsOf t
    ·rw [List.getElem?_range hlt] at hj
     simp only [Option.map_some,Option.some.injEq] at hj
     subst hj
     rw [show o+off+j=o+(off+j) by omega]
     exact (hU _ (by omega)).1
    ·rw [List.getElem?_eq_none (by simp;omega)] at hj;simp at hj
   ·refine VR.agg _ _ (by simp;omega) (fun i c v h1 h2=>?_) (fun v hv'=>?_)
    ·have hi:i<P.cellsOf t:=by
      have:=(List.getElem?_eq_some_iff.1 h2).1;simpa using this
     rw [List.getElem?_map,List.getElem?_range hi] at h2
     simp only [Option.map_some,Option.some.injEq] at h2
     subst h2
     rw [List.getElem?_take_of_lt hi,List.getElem?_drop] at h1
     have:=(hU (off+i) (by omega)).2.2
     simpa [List.getD,h1] using this
    ·rw [List.mem_map] at hv'
     obtain ⟨j,hj,rfl⟩:=hv'
     rw [List.mem_range] at hj
     exact (hU _ (by omega)).2.1
 ·rename_i ha
  obtain ⟨u,h1,_,h3⟩:=hc off v h
  exact ⟨u,run_loadVar_one ha h1,h3⟩
 ·cases h
end
end Go.Proofs.VE

namespace Go.Proofs.VE
open Go
section
variable {P:Program} {C:Ctx} {nt:Nat} {st:St} {a:Act} {w:World}
theorem run_v {s:Sem Value} {u:Value} {w':World} (h:s.run P w = .ok u w'):(do pure (Next.value (← s)):Sem Next).run P w = .ok (.value u) w':=by
 rw [run_bind' h];rfl
theorem load_sound [Glob] {t:TypeId} {nm:Nm} {i off:Nat} {b:Blk} {v:AV} (hs:Sim C nt st a w) (hb:getH st.heap nm=some b) (h:partB P t b i off=some v)
  (hi:i<C.len nm):∃ u,(loadVar t (C.at nm i off)).run P w = .ok u w∧VR C v u:=by
 have B:=hs.blk nm b hb
 unfold partB at h
 cases hbox:b.box with
 | true =>
  rw [hbox] at h
  simp only [cond_true] at h
  cases h0:Nat.beq i 0 with
  | false=>simp [h0] at h
  | true =>
   have:=Nat.eq_of_beq_eq_true h0
   subst this
   simp only [h0,cond_true] at h
   split at h
   ·rename_i x hx
    have hc:=(B.cells 0 x (by simp [hx])).2
    have:=partA_sound (C:=C) (w:=w) (b:=(C.loc nm).1) (o:=(C.loc nm).2+0*C.width nm) h (fun j c hj=>by
     obtain ⟨u,h1,h2,h3⟩:=hc j c hj
     rw [hbox] at h3
     exact ⟨u,h1,h2,by simpa using h3⟩)
    exact this
   ·cases h
 | false =>
  rw [hbox] at h
  simp only [cond_false] at h
  have hlen:=B.len
  have hix:i<b.xs.length:=by omega
  have hg:b.xs.getD i .undef=b.xs[i]:=by simp [List.getD,List.getElem?_eq_getElem hix]
  rw [hg] at h
  obtain ⟨hl,hc⟩:=B.cells i b.xs[i] (List.getElem?_eq_getElem hix)
  have hw:=B.width hbox
  let U:Nat→Value:=fun j=>(w.cell? (C.at nm i j)).getD undef
  have hU:∀ (j:Nat) (c:AV),b.xs[i].cells[j]?=some c→w.cell? (C.at nm i j)=some (U j)∧∃ ct,b.tys[j]?=some ct∧VC C.mem ct c (U j):=fun j c hj=>by
   obtain ⟨u,h1,h2,h3⟩:=hc j c hj
   rw [hbox] at h3
   simp only [U,h1,Option.getD_some]
   simp only [Bool.false_eq_true,if_false] at h3
   obtain ⟨ct,h4,h5⟩:=h3
   exact ⟨trivial,ct,h4,h5.mono fun a v h=>(hs.own a v h).1⟩
  exact partT_sound (C:=C) (w:=w) (b:=(C.loc nm).1) (o:=(C.loc nm).2+i*C.width nm) (U:=U) h (by rw [hl,hw])
   (fun j hj=>by
    have hj':j<b.xs[i].cells.length:=by rw [hl,hw];exact hj
    exact (hU j _ (List.getElem?_eq_getElem hj')).1)
   (fun j ct c h1 h2=>by
    obtain ⟨_,ct',h3,h4⟩:=hU j c h2
    rw [h1] at h3
    obtain rfl:=Option.some.inj h3
    exact h4)
theorem rload_sound [Glob] {t:TypeId} {tys:List CT} {x:AV} {off b o:Nat} {U:Nat→Value} {v:AV} (hs:Sim C nt st a w)
  (hm:∀ j,j<tys.length→C.mem ⟨b,o+j,none⟩=some (U j)) (hx:x.cells.length=tys.length)
  (hv:∀ (j:Nat) (ct:CT) (c:AV),tys[j]?=some ct→x.cells[j]?=some c→VC C.mem ct c (U j)) (h:partT P t tys x off=some v) :
  ∃ u,(loadVar t ⟨b,o+off,none⟩).run P w = .ok u w∧VR C v u :=
 partT_sound h hx (fun j hj=>(hs.mem _ _ (hm j hj)).1) hv
theorem eqGuard_const {op:BinOp} {t:TypeId} {x y x' y':Operand} {v u:Value} {X:AV} (h:toV X=some v):eqGuard op t x y v u=eqGuard op t x' y' v u:=by
 cases X <;> simp [toV] at h <;> subst h <;> cases u <;> rfl
theorem bin_sound {op:BinOp} {t:TypeId} {xo yo:Operand} {x y v:AV} {u u':Value} (hx:VR C x u) (hy:VR C y u') (h:binA P op t x y=some (true,v)) :
  ∃ r,(do eqGuard op t xo yo u u';binOp op t u u':Sem Value).run P w = .ok r w∧VR C v r:=by
 unfold binA at h
 split at h
 ·cases hx;cases hy
  rename_i a b
  simp only [Option.some.injEq,Prod.mk.injEq] at h
  obtain ⟨h1,rfl⟩:=h
  have hb:¬ b=0:=by simpa using h1
  refine ⟨.int .i64 (IntKind.i64.wrap (a.tdiv b)),?_,.int _ _⟩
  have:(do eqGuard .quo t xo yo (.int .i64 a) (.int .i64 b);binOp .quo t (.int .i64 a) (.int .i64 b):Sem Value)=(pure (.int .i64 (IntKind.i64.wrap (a.tdiv b)))):=by
   simp only [eqGuard,binOp,Op.intDiv]
   simp [hb]
  rw [this];rfl
 ·cases hx;cases hy
  rename_i a b
  simp only [Option.some.injEq,Prod.mk.injEq] at h
  obtain ⟨h1,rfl⟩:=h
  have hb:¬ b=0:=by simpa using h1
  refine ⟨.int .i64 (a.tmod b),?_,.int _ _⟩
  have:(do eqGuard .rem t xo yo (.int .i64 a) (.int .i64 b);binOp .rem t (.int .i64 a) (.int .i64 b):Sem Value)=(pure (.int .i64 (a.tmod b))):=by
   simp only [eqGuard,binOp,Op.intDiv]
   simp [hb]
  rw [this];rfl
 ·cases hx;cases hy
  rename_i s r
  simp only [Option.some.injEq,Prod.mk.injEq] at h
  obtain ⟨h1,rfl⟩:=h
  have hb:s.size+r.size≤4611686018427387904:=by simpa using h1
  refine ⟨.string (s++r),?_,.str _⟩
  have:(do eqGuard .add t xo yo (.string s) (.string r);binOp .add t (.string s) (.string r):Sem Value)=(pure (.string (s++r))):=by
   simp only [eqGuard,binOp,Op.stringOp]
   have:¬ ((s.size+r.size:Nat):Int) > IntKind.i64.max:=by
    have:IntKind.i64.max=9223372036854775807:=by decide
    omega
   simp only [this,if_false]
   rfl
  rw [this];rfl
 ·split at h
  ·rename_i v1 u1 hv hu
   have e1:=toV_sound hx hv
   have e2:=toV_sound hy hu
   subst e1
   subst e2
   simp only [Option.map_eq_some_iff,Option.bind_eq_some_iff,Prod.mk.injEq] at h
   obtain ⟨v2,⟨r,h1,h2⟩,_,rfl⟩:=h
   rw [eqGuard_const (x' := .const u) (y' := .const u') hv]
   exact ⟨r,runP_sound h1 w,ofV_sound h2⟩
  ·cases h
theorem intOf_sound {x:AV} {n:Int} {u:Value} (hx:VR C x u) (h:intOf? x=some n):∃ k,u = .int k n:=by
 cases hx <;> simp [intOf?] at h
 subst h
 exact ⟨_,rfl⟩
theorem run_sliceBound {k:IntKind} {i:Int} {y:Nat} {code:BoundsCode} (h0:0≤i) (h1:i≤y):(Instr.sliceBound (.int k i) y code).run P w = .ok i.toNat w:=by
 unfold Instr.sliceBound
 simp only [asIntOf]
 rw [run_bind' (w':=w) (x:=(k,i)) rfl]
 simp only [h0,h1,and_self,if_true]
 rfl
inductive BoundR:Option Int→Option Value→Prop
 | none:BoundR none none
 | some (k:IntKind) (n:Int):BoundR (some n) (some (.int k n))
theorem run_sliceBounds {isS:Bool} {len cap:Nat} {lo hi:Option Int} {lo' hi':Option Value} (hl:BoundR lo lo') (hh:BoundR hi hi')
  (h0:0≤lo.getD 0) (h1:lo.getD 0≤hi.getD len) (h2:hi.getD len≤cap) :
  (Instr.sliceBounds isS len cap lo' hi' none).run P w = .ok ((lo.getD 0).toNat,(hi.getD len).toNat,cap) w:=by
 unfold Instr.sliceBounds
 cases hh with
 | none =>
  simp only [Option.getD_none] at *
  cases hl with
  | none=>simp
  | some k n =>
   simp only [Option.getD_some] at *
   have:=run_sliceBound (P:=P) (w:=w) (k:=k) (code := .sliceB) h0 h1
   simp only [pure_bind]
   rw [run_bind' (x:=n.toNat) (w':=w) (by simpa using this)]
   simp
 | some k m =>
  simp only [Option.getD_some] at *
  have hm:=run_sliceBound (P:=P) (w:=w) (k:=k) (y:=cap) (code:=if isS then .sliceAcap else .sliceAlen) (i:=m) (by omega) h2
  simp only [pure_bind]
  rw [run_bind' hm]
  cases hl with
  | none=>simp
  | some k' n =>
   simp only [Option.getD_some] at *
   have:=run_sliceBound (P:=P) (w:=w) (k:=k') (y:=m.toNat) (code := .sliceB) (i:=n) h0 (by omega)
   rw [run_bind' (x:=n.toNat) (w':=w) (by simpa using this)]
   rfl
theorem addat (nm:Nm) (i j n:Nat):(C.at nm i j).add (n*C.width nm)=C.at nm (i+n) j:=by
 unfold Ctx.at at_
 rw [add_at]
 simp only [Addr.mk.injEq,and_true,true_and]
 rw [Nat.add_mul];omega
theorem addoff (nm:Nm) (i j n:Nat):(C.at nm i j).add n=C.at nm i (j+n):=by
 unfold Ctx.at at_
 rw [add_at]
 simp only [Addr.mk.injEq,and_true,true_and]
 omega
theorem toList_getElem? {α:Type} (l:List α) (n m i:Nat):((l.take m).drop n)[i]?=if n+i<m then l[n+i]? else none:=by
 rw [List.getElem?_drop,List.getElem?_take]
theorem VC.part {mem:Addr→Option Value} {e:List CT} {xs:List AV} {av:Option Addr} {n cap l h:Nat} (hv:VC mem (.sl e) (.sl e xs) (.slice av n cap)) (h1:l≤h) (h2:h≤xs.length) (c2:Nat) (hc2:h - l≤c2)
  (av':Option Addr) (ha':0<h - l→∀ b o,av=some ⟨b,o,none⟩→av'=some ⟨b,o+l*e.length,none⟩):VC mem (.sl e) (.sl e ((xs.take h).drop l)) (.slice av' (h - l) c2):=by
 cases hv with
 | sl e xs a cap U hcap hmax hm ha hx hv =>
  have hlen:((xs.take h).drop l).length=h - l:=by simp;omega
  have key:=VC.sl (mem:=mem) e ((xs.take h).drop l) av' c2 (fun i j=>U (l+i) j) (by omega) (by omega) (fun i j hi hj=>?_) (fun hp=>?_) (fun i x hi=>?_) (fun i x j ct c hi hj hc=>?_)
  ·rw [hlen] at key;exact key
  ·rw [hlen] at hi
   obtain ⟨b,o,rfl,hu⟩:=hm (l+i) j (by omega) hj
   refine ⟨b,o+l*e.length,ha' (by omega) b o rfl,?_⟩
   rw [← hu]
   congr 1
   unfold at_
   simp only [Addr.mk.injEq,and_true,true_and]
   rw [Nat.add_mul];omega
  ·rw [hlen] at hp
   obtain ⟨b,o,rfl⟩:=ha (by omega)
   exact ⟨b,_,ha' hp b o rfl⟩
  ·rw [toList_getElem?] at hi
   split at hi
   ·exact hx _ _ hi
   ·cases hi
  ·rw [toList_getElem?] at hi
   split at hi
   ·exact hv _ _ _ _ _ hi hj hc
   ·cases hi
theorem elemT_spec {t e:TypeId} (h:elemT P t=some e):P.underlying t=some (.slice e)∧∃ d,P.underlying e=some d:=by
 unfold elemT at h
 split at h
 ·rename_i e' he
  split at h
  ·rename_i d hd
   obtain rfl:=Option.some.inj h
   exact ⟨he,d,hd⟩
  ·cases h
 ·cases h
theorem run_slice {t e:TypeId} {av:Option Addr} {n cap:Nat} {lo hi:Option Int} {lo' hi':Option Value} (ht:elemT P t=some e) (hl:BoundR lo lo') (hh:BoundR hi hi')
  (h0:0≤lo.getD 0) (h1:lo.getD 0≤hi.getD n) (h2:hi.getD n≤cap) :
  (Instr.sliceAt t (.slice av n cap) lo' hi' none).run P w = .ok (.slice (if cap=(lo.getD 0).toNat then av else av.map (·.add ((lo.getD 0).toNat*P.cellsOf e))) ((hi.getD n).toNat - (lo.getD 0).toNat) (cap - (lo.getD 0).toNat)) w:=by
 obtain ⟨hu,d,hd⟩:=elemT_spec ht
 unfold Instr.sliceAt
 rw [run_bind' (run_underlying hu)]
 simp only
 unfold Instr.slice
 rw [run_bind' (run_underlying hu)]
 simp only
 rw [run_bind' (run_sliceBounds (isS:=true) hl hh h0 h1 h2)]
 simp only
 rw [run_bind' (run_sizeOf hd)]
 rfl
theorem slice_sound [Glob] {t e:TypeId} {x v:AV} {u:Value} {lo hi:Option Int} {lo' hi':Option Value} (hs:Sim C nt st a w) (hx:VR C x u) (hl:BoundR lo lo') (hh:BoundR hi hi')
  (ht:elemT P t=some e) (h:sliceA st.heap (P.cellsOf e) x lo hi=some (true,v)):∃ r,(Instr.sliceAt t u lo' hi' none).run P w = .ok r w∧VR C v r:=by
 unfold sliceA at h
 split at h
 ·rename_i tys xs
  simp only [Option.some.injEq,Prod.mk.injEq,Bool.and_eq_true,decide_eq_true_eq] at h
  obtain ⟨⟨hw,⟨h0,h1⟩,h2⟩,rfl⟩:=h
  have hw:=Nat.eq_of_beq_eq_true hw
  cases hx with
  | sl _ _ _ hv =>
   obtain ⟨av,cap,rfl,hcap⟩:∃ av cap,u=Value.slice av xs.length cap∧xs.length≤cap:=by cases hv;exact ⟨_,_,rfl,by assumption⟩
   refine ⟨_,run_slice ht hl hh h0 h1 (by omega),.sl _ _ _ (VC.part hv (by omega) (by omega) _ (by omega) _ (fun hp b o hb=>?_))⟩
   rw [if_neg (by omega),hb,← hw]
   simp [add_at]
 ·rename_i nm
  split at h
  ·rename_i b hb
   simp only [Option.some.injEq,Prod.mk.injEq,Bool.and_eq_true,decide_eq_true_eq,Bool.not_eq_true'] at h
   obtain ⟨⟨⟨hbox,hw⟩,⟨h0,h1⟩,h2⟩,rfl⟩:=h
   have hw:=Nat.eq_of_beq_eq_true hw
   have B:=hs.blk nm b hb
   have hlen:=B.len
   have hwid:=B.width hbox
   cases hx with
   | own nm cap hr c1 c2 =>
    rw [hlen] at c1 ⊢
    refine ⟨_,run_slice ht hl hh h0 h1 (by omega),.sub _ _ _ _ _ (by omega) (fun hp=>⟨hr,?_⟩) (.inl ⟨hr,if cap=(lo.getD 0).toNat then 0 else (lo.getD 0).toNat,?_,?_⟩) ?_⟩
    ·rw [if_neg (by omega),← hw,← hwid]
     simp only [Option.map_some,addat,Nat.zero_add]
    ·split
     ·rfl
     ·rw [← hw,← hwid]
      simp only [Option.map_some,addat,Nat.zero_add]
    ·split <;> omega
    ·omega
   | ownNil nm hz =>
    rw [hlen] at hz
    rw [hz] at h1 h2 ⊢
    exact ⟨_,run_slice ht hl hh h0 h1 h2,.sub _ _ _ _ _ (by omega) (fun hp=>by omega) (.inr ⟨by split <;> rfl,by omega⟩) (by omega)⟩
  ·cases h
 ·rename_i nm o n
  split at h
  ·rename_i b hb
   simp only [Option.some.injEq,Prod.mk.injEq,Bool.and_eq_true,decide_eq_true_eq,Bool.not_eq_true'] at h
   obtain ⟨⟨⟨hbox,hw⟩,⟨h0,h1⟩,h2⟩,rfl⟩:=h
   have hw:=Nat.eq_of_beq_eq_true hw
   have B:=hs.blk nm b hb
   have hwid:=B.width hbox
   cases hx with
   | sub nm o n cap av c1 c2 c3 c4 =>
    refine ⟨_,run_slice ht hl hh h0 h1 (by omega),.sub _ _ _ _ _ (by omega) (fun hp=>?_) ?_ (by clear c2 c3;omega)⟩
    ·clear c3
     obtain ⟨hr,rfl⟩:=c2 (by omega)
     refine ⟨hr,?_⟩
     rw [if_neg (by omega),← hw,← hwid]
     simp only [Option.map_some,addat]
    ·rcases c3 with ⟨hr,l,rfl,hl⟩|⟨rfl,hz⟩
     ·refine .inl ⟨hr,if cap=(lo.getD 0).toNat then l else l+(lo.getD 0).toNat,?_,?_⟩
      ·split
       ·rfl
       ·rw [← hw,← hwid]
        simp only [Option.map_some,addat]
      ·split <;> omega
     ·exact .inr ⟨by split <;> rfl,by omega⟩
  ·cases h
 ·simp only [Option.some.injEq,Prod.mk.injEq,Bool.and_eq_true,decide_eq_true_eq] at h
  obtain ⟨⟨⟨h0,h1⟩,h2⟩,rfl⟩:=h
  cases hx
  refine ⟨_,run_slice ht hl hh h0 h1 (by simpa using h2),?_⟩
  have e1:(lo.getD 0).toNat=0:=by omega
  have e2:(hi.getD ((0:Nat):Int)).toNat=0:=by
   have:hi.getD ((0:Nat):Int)=hi.getD 0:=rfl
   omega
  rw [e1,e2]
  exact .snil
 ·cases h
theorem sliceS_sound {t:TypeId} {x v:AV} {u:Value} {lo hi:Option Int} {lo' hi':Option Value} (hx:VR C x u) (hl:BoundR lo lo') (hh:BoundR hi hi')
  (ht:P.underlying t=some .string) (h:sliceS x lo hi=some (true,v)):∃ r,(Instr.sliceAt t u lo' hi' none).run P w = .ok r w∧VR C v r:=by
 unfold sliceS at h
 split at h
 ·rename_i s
  simp only [Option.some.injEq,Prod.mk.injEq,Bool.and_eq_true,decide_eq_true_eq] at h
  obtain ⟨⟨⟨h0,h1⟩,h2⟩,rfl⟩:=h
  cases hx
  refine ⟨.string (s.extract (lo.getD 0).toNat (hi.getD s.size).toNat),?_,.str _⟩
  unfold Instr.sliceAt
  rw [run_bind' (run_underlying ht)]
  simp only
  unfold Instr.slice
  rw [run_bind' (run_underlying ht)]
  simp only
  simp only [Option.isSome_none,Bool.false_eq_true,if_false]
  rw [run_bind' (run_sliceBounds (isS:=false) hl hh h0 h1 h2)]
  rfl
 ·cases h
end
end Go.Proofs.VE

namespace Go.Proofs.VE
open Go
section
variable {P:Program} {C:Ctx} {nt:Nat} {st:St} {a:Act} {w:World}
theorem run_sizeOf' {t:TypeId} (h:P.cellsOf t ≠ 0):(sizeOf t).run P w = .ok (P.cellsOf t) w:=by
 cases hi:P.info? t with
 | none=>simp [Program.cellsOf,hi] at h
 | some i=>simp [sizeOf,typeInfo,program,Sem.run,bind,Sem.bind,hi,pure,Program.cellsOf]
theorem run_indexAt_slice {t e:TypeId} {av:Addr} {n cap:Nat} {k:IntKind} {i:Int} (ht:elemT P t=some e) (h0:0≤i) (h1:i<n) :
  (Instr.indexAt t (.slice (some av) n cap) (.int k i)).run P w = .ok (.pointer (some (av.add (i.toNat*P.cellsOf e)))) w:=by
 obtain ⟨hu,d,hd⟩:=elemT_spec ht
 unfold Instr.indexAt
 rw [run_bind' (x:=(k,i)) (w':=w) rfl]
 simp only
 rw [run_bind' (run_underlying hu)]
 simp only
 rw [run_bind' (x:=(some av,n,e)) (w':=w) rfl]
 simp only
 rw [run_bind' (run_underlying hu)]
 simp only [h0,h1,and_self,if_true]
 rw [run_bind' (run_sizeOf hd)]
 rfl
theorem run_indexAt_array {t e:TypeId} {av:Addr} {n:Nat} {k:IntKind} {i:Int} (ht:P.underlying t=some (.array n e)) (hc:P.cellsOf e ≠ 0) (h0:0≤i) (h1:i<n) :
  (Instr.indexAt t (.pointer (some av)) (.int k i)).run P w = .ok (.pointer (some (av.add (i.toNat*P.cellsOf e)))) w:=by
 unfold Instr.indexAt
 rw [run_bind' (x:=(k,i)) (w':=w) rfl]
 simp only
 rw [run_bind' (run_underlying ht)]
 simp only
 rw [show Instr.sureAddr (Value.pointer (some av))=pure av from rfl]
 simp only [pure_bind]
 rw [run_bind' (run_underlying ht)]
 simp only [h0,h1,and_self,if_true]
 rw [run_bind' (run_sizeOf' hc)]
 rfl
theorem indexAddr_sound [Glob] {t:TypeId} {x v:AV} {u:Value} {k:IntKind} {i:Int} (hs:Sim C nt st a w) (hx:VR C x u) (h:indexAddrA P st.heap t x i=some (true,v)) :
  ∃ r,(Instr.indexAt t u (.int k i)).run P w = .ok r w∧VR C v r:=by
 unfold indexAddrA at h
 split at h
 ·rename_i e ht
  split at h
  ·rename_i nm
   split at h
   ·rename_i b hb
    simp only [Option.some.injEq,Prod.mk.injEq,Bool.and_eq_true,decide_eq_true_eq,Bool.not_eq_true'] at h
    obtain ⟨⟨⟨hbox,hw⟩,h0,h1⟩,rfl⟩:=h
    have hw:=Nat.eq_of_beq_eq_true hw
    have B:=hs.blk nm b hb
    have hlen:=B.len
    cases hx with
    | own _ cap hr c1 c2 =>
     refine ⟨_,run_indexAt_slice ht h0 (by omega),?_⟩
     rw [← hw,← B.width hbox,addat,Nat.zero_add]
     exact .ptr _ _ _ hr (by omega)
    | ownNil _ hz=>omega
   ·cases h
  ·rename_i nm o n
   split at h
   ·rename_i b hb
    simp only [Option.some.injEq,Prod.mk.injEq,Bool.and_eq_true,decide_eq_true_eq,Bool.not_eq_true'] at h
    obtain ⟨⟨⟨hbox,hw⟩,⟨h0,h1⟩,h2⟩,rfl⟩:=h
    have hw:=Nat.eq_of_beq_eq_true hw
    have B:=hs.blk nm b hb
    have hlen:=B.len
    cases hx with
    | sub _ _ _ cap av c1 c2 _ _ =>
     obtain ⟨hr,rfl⟩:=c2 (by omega)
     refine ⟨_,run_indexAt_slice ht h0 (by omega),?_⟩
     rw [← hw,← B.width hbox,addat]
     exact .ptr _ _ _ hr (by omega)
   ·cases h
  ·rename_i tys xs
   simp only [Option.some.injEq,Prod.mk.injEq,Bool.and_eq_true,decide_eq_true_eq] at h
   obtain ⟨⟨hw,h0,h1⟩,rfl⟩:=h
   have hw:=Nat.eq_of_beq_eq_true hw
   cases hx with
   | sl _ _ _ hv =>
    cases hv with
    | sl e' xs av cap U hcap hmax hm ha hx hv =>
     obtain ⟨b,o,rfl⟩:=ha (by omega)
     have hlt:i.toNat<xs.length:=by omega
     refine ⟨_,run_indexAt_slice ht h0 (by omega),?_⟩
     have hg:xs.getD i.toNat .undef=xs[i.toNat]:=by simp [List.getD,List.getElem?_eq_getElem hlt]
     rw [hg,add_at,← hw]
     have:=VR.rptr (C:=C) tys xs[i.toNat] 0 b (o+i.toNat*tys.length) (U i.toNat) (fun j hj=>?_) (hx _ _ (List.getElem?_eq_getElem hlt)) (fun j ct c h1 h2=>hv _ _ _ _ _ (List.getElem?_eq_getElem hlt) h1 h2)
     ·exact this
     ·obtain ⟨b',o',hb',hu⟩:=hm i.toNat j hlt hj
      simp only [Option.some.injEq,Addr.mk.injEq,and_true] at hb'
      obtain ⟨rfl,rfl⟩:=hb'
      exact hu
  ·cases h
 ·split at h
  ·rename_i n e ht
   split at h
   ·rename_i nm j off
    cases hc:decide (0≤i) && decide (i<n) && !Nat.beq (P.cellsOf e) 0 with
    | false=>rw [hc] at h;simp at h
    | true =>
     rw [hc] at h
     simp only [Option.some.injEq,Prod.mk.injEq,true_and] at h
     subst h
     simp only [Bool.and_eq_true,decide_eq_true_eq,Bool.not_eq_true'] at hc
     obtain ⟨⟨h0,h1⟩,h2⟩:=hc
     have h2:=Nat.ne_of_beq_eq_false h2
     cases hx with
     | ptr _ _ _ hr hi =>
      refine ⟨_,run_indexAt_array ht h2 h0 h1,?_⟩
      rw [addoff]
      exact .ptr _ _ _ hr hi
   ·rename_i tys y off
    cases hc:decide (0≤i) && decide (i<n) && !Nat.beq (P.cellsOf e) 0 with
    | false=>rw [hc] at h;simp at h
    | true =>
     rw [hc] at h
     simp only [Option.some.injEq,Prod.mk.injEq,true_and] at h
     subst h
     simp only [Bool.and_eq_true,decide_eq_true_eq,Bool.not_eq_true'] at hc
     obtain ⟨⟨h0,h1⟩,h2⟩:=hc
     have h2:=Nat.ne_of_beq_eq_false h2
     cases hx with
     | rptr _ _ _ b o U hm hx hv =>
      refine ⟨_,run_indexAt_array ht h2 h0 h1,?_⟩
      rw [add_at,Nat.add_assoc]
      exact .rptr _ _ _ b o U hm hx hv
   ·cases h
  ·cases h
theorem fieldT_spec {t:TypeId} {f:Nat} {fd:Field} (h:fieldT P t f=some fd):∃ fs,P.underlying t=some (.struct fs)∧fs[f]?=some fd:=by
 unfold fieldT at h
 split at h
 ·exact ⟨_,by assumption,h⟩
 ·cases h
theorem run_fieldAt {t:TypeId} {f:Nat} {fd:Field} {av:Addr} (h:fieldT P t f=some fd) (hc:P.cellsOf fd.type ≠ 0) :
  (Instr.fieldAt t (.pointer (some av)) f).run P w = .ok (.pointer (some (av.add fd.offset))) w:=by
 obtain ⟨fs,hu,hf⟩:=fieldT_spec h
 unfold Instr.fieldAt
 rw [run_bind' (run_underlying hu)]
 simp only [hf]
 rw [run_bind' (x:=av) (w':=w) rfl]
 unfold fieldPlace
 rw [run_bind' (x:=av.add fd.offset) (w':=w) (by rw [run_bind' (run_sizeOf' hc)];simp [hc])]
 rfl
theorem part_sound {t:TypeId} {cs:List AV} {vs:List Value} {off:Nat} {v:AV} (h1:cs.length=vs.length) (h2:∀ (i:Nat) (c:AV) (v:Value),cs[i]?=some c→vs[i]?=some v→VR C c v)
  (h3:∀ v,v ∈ vs→v.oneCell'=true) (h:partA P t (.agg cs) off=some v):∃ u,(part t vs.toArray off).run P w = .ok u w∧VR C v u:=by
 unfold partA at h
 split at h
 ·rename_i ha
  obtain ⟨d,hd⟩:=aggT_underlying ha
  cases hb:Nat.ble (off+P.cellsOf t) (AV.agg cs).cells.length with
  | false=>simp [hb] at h
  | true =>
   rw [hb] at h
   simp only [cond_true,Option.some.injEq,AV.cells] at h
   subst h
   have hle:off+P.cellsOf t≤cs.length:=Nat.le_of_ble_eq_true hb
   refine ⟨.agg ((vs.drop off).take (P.cellsOf t)).toArray,?_,.agg _ _ (by simp;omega) (fun i c v hc hv=>?_) (fun v hv=>h3 _ (List.mem_of_mem_drop (List.mem_of_mem_take hv)))⟩
   ·unfold part
    rw [run_bind' (run_isAgg ha)]
    simp only [if_true]
    rw [run_bind' (run_sizeOf hd)]
    show Result.ok _ _=_
    congr 2
    apply Array.ext'
    simp [List.take_drop]
   ·rw [List.getElem?_take] at hc hv
    split at hc
    ·rename_i hlt
     rw [if_pos hlt] at hv
     rw [List.getElem?_drop] at hc hv
     exact h2 _ _ _ hc hv
    ·cases hc
 ·rename_i ha
  have hlt:off<cs.length:=(List.getElem?_eq_some_iff.1 h).1
  refine ⟨vs[off]'(by omega),?_,h2 _ _ _ h (List.getElem?_eq_getElem (by omega))⟩
  unfold part
  rw [run_bind' (run_isAgg ha)]
  have:vs.toArray[off]?=some (vs[off]'(by omega)):=by simp [List.getElem?_eq_getElem (show off<vs.length by omega)]
  simp only [Bool.false_eq_true,if_false,this]
  rfl
 ·cases h
theorem run_field {t:TypeId} {f:Nat} {fd:Field} {vs:Array Value} {u:Value} (h:fieldT P t f=some fd) (hp:(part fd.type vs fd.offset).run P w = .ok u w) :
  (Instr.field t (.agg vs) f).run P w = .ok u w:=by
 obtain ⟨fs,hu,hf⟩:=fieldT_spec h
 unfold Instr.field
 rw [run_bind' (run_underlying hu)]
 simp only [hf]
 rw [run_bind' (x:=vs) (w':=w) rfl]
 exact hp
theorem run_index_str {t:TypeId} {s:ByteArray} {k:IntKind} {i:Int} (ht:P.underlying t=some .string) (h0:0≤i) (h1:i<s.size) :
  (Instr.index t (.string s) (.int k i)).run P w = .ok (.int .u8 (strAt s i.toNat)) w:=by
 unfold Instr.index
 rw [run_bind' (x:=(k,i)) (w':=w) rfl]
 simp only
 rw [run_bind' (run_underlying ht)]
 simp only [h0,if_true]
 have hlt:i.toNat<s.size:=by omega
 have:s[i.toNat]?=some s[i.toNat]:=by simp [hlt]
 simp only [this,strAt,Option.getD_some]
 rfl
theorem run_index_arr {t e:TypeId} {n:Nat} {vs:Array Value} {k:IntKind} {i:Int} {u:Value} (ht:P.underlying t=some (.array n e)) (hc:(sizeOf e).run P w = .ok (P.cellsOf e) w) (h0:0≤i) (h1:i<n)
  (hp:(part e vs (i.toNat*P.cellsOf e)).run P w = .ok u w) :
  (Instr.index t (.agg vs) (.int k i)).run P w = .ok u w:=by
 unfold Instr.index
 rw [run_bind' (x:=(k,i)) (w':=w) rfl]
 simp only
 rw [run_bind' (run_underlying ht)]
 simp only [h0,h1,and_self,if_true]
 rw [run_bind' hc]
 exact hp
theorem partA_size {t:TypeId} {x v:AV} {off:Nat} (h:partA P t x off=some v):(sizeOf t).run P w = .ok (P.cellsOf t) w:=by
 unfold partA at h
 split at h
 ·rename_i ha;obtain ⟨d,hd⟩:=aggT_underlying ha;exact run_sizeOf hd
 ·rename_i ha;obtain ⟨d,hd⟩:=aggT_underlying ha;exact run_sizeOf hd
 ·cases h
structure CellsR (C:Ctx) (cs:List AV) (vs:Array Value):Prop where
 size:cs.length=vs.size
 get:∀ (i:Nat) (c:AV) (u:Value),cs[i]?=some c→vs[i]?=some u→VR C c u
 one:∀ (i:Nat) (u:Value),vs[i]?=some u→u.oneCell'=true
theorem one_cells {v:Value} (h:v.oneCell'=true):v.cells=#[v]:=by cases v <;> first|rfl|(simp [Value.oneCell'] at h)
theorem okV_one {x:AV} {v:Value} (hv:VR C x v) (h:okV x=true) (ha:∀ cs,x ≠ .agg cs):v.oneCell'=true:=by
 cases hv <;> first|rfl|(simp [okV] at h;done)|(exact absurd rfl (ha _))|skip
 rename_i h
 exact h.oneCell'
theorem okV_cells {x:AV} {v:Value} (hv:VR C x v) (h:okV x=true):CellsR C x.cells v.cells:=by
 by_cases ha:∃ cs,x = .agg cs
 ·obtain ⟨cs,rfl⟩:=ha
  obtain ⟨vs,rfl,h1,h2,h3⟩:=hv.agg_inv
  refine ⟨by simp [AV.cells,Value.cells,h1],fun i c u hc hu=>?_,fun i u hu=>?_⟩
  ·simp only [AV.cells,Value.cells,List.getElem?_toArray] at hc hu
   exact h2 _ _ _ hc hu
  ·simp only [Value.cells,List.getElem?_toArray] at hu
   exact h3 _ (List.mem_of_getElem? hu)
 ·have hone:=okV_one hv h (fun cs e=>ha ⟨cs,e⟩)
  have hx:x.cells=[x]:=by cases x <;> first|rfl|(exact absurd ⟨_,rfl⟩ ha)
  rw [one_cells hone,hx]
  refine ⟨rfl,fun i c u hc hu=>?_,fun i u hu=>?_⟩
  ·cases i with
   | zero=>simp at hc hu;subst hc;subst hu;exact hv
   | succ i=>simp at hc
  ·cases i with
   | zero=>simp at hu;subst hu;exact hone
   | succ i=>simp at hu
theorem layAt_get (cs vs:List AV) (off i:Nat) (h:off+vs.length≤cs.length):(layAt cs off vs)[i]?=if off≤i∧i<off+vs.length then vs[i - off]? else cs[i]?:=by
 unfold layAt
 by_cases h1:i<off
 ·rw [if_neg (by omega),List.append_assoc,List.getElem?_append_left (by simp;omega),List.getElem?_take_of_lt h1]
 ·by_cases h2:i<off+vs.length
  ·rw [if_pos (by omega),List.append_assoc,List.getElem?_append_right (by simp;omega),List.getElem?_append_left (by simp;omega)]
   congr 1
   simp;omega
  ·rw [if_neg (by omega),List.getElem?_append_right (by simp;omega),List.getElem?_drop]
   congr 1
   simp;omega
theorem layAt_length (cs vs:List AV) (off:Nat) (h:off+vs.length≤cs.length):(layAt cs off vs).length=cs.length:=by
 unfold layAt;simp;omega
theorem CellsR.lay {cs vs:List AV} {us ws:Array Value} {off:Nat} (h1:CellsR C cs us) (h2:CellsR C vs ws) (hl:off+vs.length≤cs.length) :
  CellsR C (layAt cs off vs) (ws.zipIdx.foldl (fun cs (c,j)=>cs.setIfInBounds (off+j) c) us):=by
 have e:(ws.zipIdx.foldl (fun cs (c,j)=>cs.setIfInBounds (off+j) c) us)=((ws.toList.zipIdx 0).foldl (fun cs (x:Value × Nat)=>cs.setIfInBounds (off+x.2) x.1) us):=by
  rw [← Array.foldl_toList,Array.toList_zipIdx]
 obtain ⟨g1,g2⟩:=Go.Great.foldl_set off ws.toList 0 us
 rw [← e] at g1 g2
 have hs1:=h1.size
 have hs2:=h2.size
 refine ⟨by rw [g1,layAt_length _ _ _ hl];exact hs1,fun i c u hc hu=>?_,fun i u hu=>?_⟩
 ·rw [layAt_get _ _ _ _ hl] at hc
  rw [g2 i] at hu
  simp only [Nat.add_zero,Array.length_toList] at hu
  by_cases hin:off≤i∧i<off+vs.length
  ·rw [if_pos hin] at hc
   rw [if_pos (by omega)] at hu
   exact h2.get _ _ _ hc (by simpa using hu)
  ·rw [if_neg hin] at hc
   rw [if_neg (by omega)] at hu
   exact h1.get _ _ _ hc hu
 ·rw [g2 i] at hu
  split at hu
  ·exact h2.one _ _ (by simpa using hu)
  ·exact h1.one _ _ hu
inductive PartsR (C:Ctx):List (Nat × AV)→List (Nat × Value)→Prop
 | nil:PartsR C [] []
 | cons (i:Nat) (x:AV) (v:Value) (r:List (Nat × AV)) (r':List (Nat × Value)) (h:VR C x v) (hr:PartsR C r r'):PartsR C ((i,x) :: r) ((i,v) :: r')
theorem fill_sound {place:Nat→Option (Nat × Nat)} {l:List (Nat × AV)} {l':List (Nat × Value)} (hp:PartsR C l l'):∀ {cs:List AV} {us:Array Value} {r:List AV},CellsR C cs us→fillA place cs l=some r →
  ∃ r',Instr.fill place us l'=some r'∧CellsR C r r':=by
 induction hp with
 | nil=>intro cs us r h hf;simp only [fillA,Option.some.injEq] at hf;subst hf;exact ⟨us,rfl,h⟩
 | cons i x v l l' hx _ ih =>
  intro cs us r h hf
  unfold fillA at hf
  split at hf
  ·cases hf
  ·rename_i off size hpl
   cases hc:okV x && Nat.beq x.cells.length size && Nat.ble (off+x.cells.length) cs.length with
   | false=>rw [hc] at hf;simp at hf
   | true =>
    rw [hc] at hf
    simp only [Bool.and_eq_true] at hc
    obtain ⟨⟨hok,hsz⟩,hle⟩:=hc
    have hsz:=Nat.eq_of_beq_eq_true hsz
    have hle:=Nat.le_of_ble_eq_true hle
    have hxc:=okV_cells hx hok
    obtain ⟨r',h1,h2⟩:=ih (h.lay hxc hle) hf
    refine ⟨r',?_,h2⟩
    unfold Instr.fill
    simp only [hpl]
    have e1:=hxc.size
    have e2:=h.size
    rw [if_neg (by simp;omega)]
    exact h1
theorem run_places' (fs:List Field) (h:fs.all (fun f=>(P.info? f.type).isSome)=true):fs.mapM (fun f=>(P.info? f.type).map fun i=>(f.offset,i.size))=some (fs.map fun f=>(f.offset,P.cellsOf f.type)):=by
 induction fs with
 | nil=>rfl
 | cons f fs ih =>
  simp only [List.all_cons,Bool.and_eq_true] at h
  obtain ⟨i,hi⟩:=Option.isSome_iff_exists.1 h.1
  simp [List.mapM_cons,hi,ih h.2,Program.cellsOf]
theorem build_sound {t:TypeId} {fs:Array Field} {z:AV} {l:List (Nat × AV)} {l':Array (Nat × Value)} {r:List AV} (hu:P.underlying t=some (.struct fs)) (hz:zeroA P t=some z) (hok:okV z=true)
  (hi:fs.toList.all (fun f=>(P.info? f.type).isSome)=true) (hp:PartsR C l l'.toList) (hf:fillA (fun i=>(fs[i]?).map fun f=>(f.offset,P.cellsOf f.type)) z.cells l=some r) :
  ∃ u,(Instr.build t l').run P w = .ok u w∧VR C (.agg r) u:=by
 unfold zeroA at hz
 obtain ⟨zv,hzv,rfl⟩:=Option.map_eq_some_iff.1 hz
 obtain ⟨it,hit,hzero⟩:=Option.bind_eq_some_iff.1 hzv
 obtain ⟨r',h1,h2⟩:=fill_sound hp (okV_cells (ofVal_sound zv) hok) hf
 refine ⟨.agg r',run_build w t l' r' ?_,?_⟩
 ·unfold Program.built
  simp only [hit,hu,hzero,run_places' _ hi]
  rw [← h1]
  congr 1
  funext i
  simp
 ·have:Value.agg r' = .agg r'.toList.toArray:=by simp
  rw [this]
  exact .agg _ _ (by simpa using h2.size) (fun i c v hc hv=>h2.get _ _ _ hc (by simpa using hv)) (fun v hv=>by
   obtain ⟨i,hi⟩:=List.getElem?_of_mem hv
   exact h2.one i v (by simpa using hi))
theorem build_soundA {t e:TypeId} {n:Nat} {z:AV} {l:List (Nat × AV)} {l':Array (Nat × Value)} {r:List AV} (hu:P.underlying t=some (.array n e)) (hz:zeroA P t=some z) (hok:okV z=true)
  (hi:(P.info? e).isSome=true) (hp:PartsR C l l'.toList) (hf:fillA (fun i=>some (i*P.cellsOf e,P.cellsOf e)) z.cells l=some r) :
  ∃ u,(Instr.build t l').run P w = .ok u w∧VR C (.agg r) u:=by
 unfold zeroA at hz
 obtain ⟨zv,hzv,rfl⟩:=Option.map_eq_some_iff.1 hz
 obtain ⟨it,hit,hzero⟩:=Option.bind_eq_some_iff.1 hzv
 obtain ⟨ie,hie⟩:=Option.isSome_iff_exists.1 hi
 have hce:P.cellsOf e=ie.size:=by unfold Program.cellsOf;rw [hie];rfl
 rw [hce] at hf
 obtain ⟨r',h1,h2⟩:=fill_sound hp (okV_cells (ofVal_sound zv) hok) hf
 refine ⟨.agg r',run_build w t l' r' ?_,?_⟩
 ·unfold Program.built
  simp only [hit,hu,hzero,hie]
  exact h1
 ·have:Value.agg r' = .agg r'.toList.toArray:=by simp
  rw [this]
  exact .agg _ _ (by simpa using h2.size) (fun i c v hc hv=>h2.get _ _ _ hc (by simpa using hv)) (fun v hv=>by
   obtain ⟨i,hi⟩:=List.getElem?_of_mem hv
   exact h2.one i v (by simpa using hi))
end
end Go.Proofs.VE

namespace Go.Proofs.VE
open Go
section
variable {P:Program} {C:Ctx} {nt:Nat} {st:St} {a:Act} {w:World}
theorem map_pair {x:Option AV} {v:AV} (h:x.map (fun v=>(true,v))=some (true,v)):x=some v:=by
 cases x with
 | none=>cases h
 | some y=>simp at h;rw [h]
theorem map_pair' {α:Type} {x:Option α} {f:α→AV} {v:AV} (h:x.map (fun y=>(true,f y))=some (true,v)):∃ y,x=some y∧f y=v:=by
 cases x with
 | none=>cases h
 | some y=>simp at h;exact ⟨y,rfl,h⟩
theorem boundR_of [Glob] (hs:Sim C nt st a w) (lo:Option Operand) (h:lo.map (fun x=>intOf? (opA st.env x)) ≠ some none) :
  BoundR ((lo.map (fun x=>intOf? (opA st.env x))).bind id) (lo.map a.eval):=by
 cases lo with
 | none=>exact .none
 | some x =>
  simp only [Option.map_some,Option.bind_some,id] at h ⊢
  cases hi:intOf? (opA st.env x) with
  | none=>rw [hi] at h;exact absurd rfl h
  | some n =>
   obtain ⟨k,hk⟩:=intOf_sound (opA_sound hs x) hi
   rw [hk]
   exact .some k n
theorem partsR_of [Glob] (hs:Sim C nt st a w):∀ (l:List (Nat × Operand)),PartsR C (l.map fun (i,x)=>(i,opA st.env x)) (l.map fun (i,x)=>(i,a.eval x))
 | [] => .nil
 | (i,x) :: r => .cons i _ _ _ _ (opA_sound hs x) (partsR_of hs r)
theorem run_len {t:TypeId} {ts:Array TypeId} {ty:TypeId} {u:Value} {n:Nat} (ht0:ts[0]?=some t)
  (ht:(∃ e av c,P.underlying t=some (.slice e)∧u = .slice av n c)∨∃ s:ByteArray,P.underlying t=some .string∧u = .string s∧n=s.size) :
  (Builtin.len_ ts ty #[u]).run P w = .ok (.int .i64 n) w:=by
 have e:(#[u])[0]?=some u:=rfl
 unfold Builtin.len_
 rcases ht with ⟨e',av,c,he,rfl⟩|⟨s,hs,rfl,rfl⟩
 ·simp only [ht0,e]
  rw [run_bind' (run_underlying he)]
  rfl
 ·simp only [ht0,e]
  rw [run_bind' (run_underlying hs)]
  rfl
theorem len_sound [Glob] {x:AV} {u:Value} {n:Nat} (hs:Sim C nt st a w) (hx:VR C x u) (h:lenA st.heap x=some n):∃ av c,u = .slice av n c:=by
 unfold lenA at h
 split at h
 ·rename_i nm
  split at h
  ·rename_i b hb
   have B:=hs.blk nm b hb
   cases hbox:b.box with
   | true=>rw [hbox] at h;simp at h
   | false =>
    rw [hbox] at h
    simp only [cond_false,Option.some.injEq] at h
    have:=B.len
    cases hx with
    | own _ cap _ _ _=>rw [this,h];exact ⟨_,_,rfl⟩
    | ownNil _ hz =>
             rw [this] at hz;obtain rfl:n=0:=by omega
             exact ⟨_,_,rfl⟩
  ·cases h
 ·obtain rfl:=Option.some.inj h
  cases hx;exact ⟨_,_,rfl⟩
 ·obtain rfl:=Option.some.inj h
  cases hx with
  | sl _ _ _ hv=>cases hv;exact ⟨_,_,rfl⟩
 ·obtain rfl:=Option.some.inj h
  cases hx;exact ⟨_,_,rfl⟩
 ·obtain rfl:=Option.some.inj h
  cases hx;exact ⟨_,_,rfl⟩
 ·cases h
theorem eqC_sound {t:TypeId} {x y:AV} {u u':Value} {b:Bool} (d:Nat) (hx:VR C x u) (hy:VR C y u') (h:eqC P t x y=some b):(Op.equalIn (d+1) t u u').run P w = .ok b w:=by
 unfold eqC at h
 split at h
 ·rename_i k k' a j c ht
  cases hk:kEq k' j with
  | false=>rw [hk] at h;simp at h
  | true =>
   rw [hk] at h
   simp only [cond_true,Option.some.injEq] at h
   subst h
   obtain rfl:=(kEq_iff _ _).1 hk
   cases hx;cases hy
   rw [run_equalIn_int w d t _ _ a c ht]
   congr 1
 ·rename_i a c ht
  obtain rfl:=Option.some.inj h
  cases hx;cases hy
  exact run_equalIn_bool' w d t a c ht
 ·rename_i a c ht
  obtain rfl:=Option.some.inj h
  cases hx;cases hy
  rw [run_equalIn_string w d t a c ht,beq_toListBytes]
 ·cases h
theorem eqFs_sound {xs ys:List AV} {us vs:List Value} (d:Nat) (h1:xs.length=us.length) (h2:∀ (i:Nat) (c:AV) (v:Value),xs[i]?=some c→us[i]?=some v→VR C c v) (h3:∀ v,v ∈ us→v.oneCell'=true)
  (k1:ys.length=vs.length) (k2:∀ (i:Nat) (c:AV) (v:Value),ys[i]?=some c→vs[i]?=some v→VR C c v) (k3:∀ v,v ∈ vs→v.oneCell'=true) :
  ∀ {fs:List Field} {b:Bool},eqFs P xs ys fs=some b→(Op.eqFields (d+1) us.toArray vs.toArray fs).run P w = .ok b w
 | [],b,h=>by
  simp only [eqFs,Option.some.injEq] at h
  subst h
  rfl
 | f :: fs,b,h=>by
  simp only [eqFs] at h
  cases hn:f.name == "_" with
  | true=>rw [hn] at h;simp at h
  | false =>
   rw [hn] at h
   simp only [cond_false] at h
   split at h
   ·rename_i x y q e1 e2 e3
    split at h
    ·rename_i p e4
     obtain rfl:=Option.some.inj h
     obtain ⟨u,g1,g2⟩:=part_sound (P:=P) (w:=w) h1 h2 h3 e1
     obtain ⟨v,g3,g4⟩:=part_sound (P:=P) (w:=w) k1 k2 k3 e2
     have ih:=eqFs_sound d h1 h2 h3 k1 k2 k3 e3
     have hn':f.name ≠ "_" := by simpa using hn
     simp only [Op.eqFields]
     rw [if_pos hn']
     rw [run_bind' g1,run_bind' g3,run_bind' (eqC_sound d g2 g4 e4)]
     cases p with
     | true=>simpa using ih
     | false=>rfl
    ·cases h
   ·cases h
theorem eqS_sound {t:TypeId} {xs ys:List AV} {u u':Value} {b:Bool} {op:BinOp} {xo yo:Operand} (hx:VR C (.agg xs) u) (hy:VR C (.agg ys) u') (h:eqS P t xs ys=some b) :
  (op = .eql→(do eqGuard op t xo yo u u';binOp op t u u':Sem Value).run P w = .ok (.bool b) w)∧(op = .neq→(do eqGuard op t xo yo u u';binOp op t u u':Sem Value).run P w = .ok (.bool (!b)) w):=by
 unfold eqS at h
 split at h
 ·rename_i fs ht
  cases hc : !P.eqGuardType P.depth t && !P.stoodInHeld t with
  | false=>rw [hc] at h;simp at h
  | true =>
   rw [hc] at h
   simp only [Bool.and_eq_true,Bool.not_eq_true'] at hc
   simp only [cond_true] at h
   obtain ⟨us,rfl,h1,h2,h3⟩:=hx.agg_inv
   obtain ⟨vs,rfl,k1,k2,k3⟩:=hy.agg_inv
   have hf:P.fieldsOf t=fs:=by simp [Program.fieldsOf,ht]
   have e:(Op.equalIn 10000 t (.agg us.toArray) (.agg vs.toArray)).run P w = .ok b w:=by
    rw [show (10000:Nat)=9998+1+1 from rfl,run_equalIn_struct w (9998+1) t us.toArray vs.toArray (by rw [hf];exact ht) hc.2,hf]
    exact eqFs_sound 9998 h1 h2 h3 k1 k2 k3 h
   constructor
   ·rintro rfl
    rw [run_bind' (run_eqGuard_agg w .eql t xo yo us.toArray vs.toArray hc.1),run_eql_struct,e]
    rfl
   ·rintro rfl
    rw [run_bind' (run_eqGuard_agg w .neq t xo yo us.toArray vs.toArray hc.1),run_neq_struct,e]
    rfl
 ·cases h
theorem nilS_sound {t:TypeId} {x:AV} {u:Value} {b:Bool} {op:BinOp} {xo yo:Operand} (hx:VR C x u) (h:nilS P t x=some (true,b)) :
  (op = .eql→(do eqGuard op t xo yo u (.slice none 0 0);binOp op t u (.slice none 0 0):Sem Value).run P w = .ok (.bool b) w)∧(op = .neq→(do eqGuard op t xo yo u (.slice none 0 0);binOp op t u (.slice none 0 0):Sem Value).run P w = .ok (.bool (!b)) w):=by
 unfold nilS at h
 split at h
 ·rename_i e ht
  have key:∀ (ad:Option Addr) (n cap:Nat),u = .slice ad n cap→ad.isNone=b →
    (op = .eql→(do eqGuard op t xo yo u (.slice none 0 0);binOp op t u (.slice none 0 0):Sem Value).run P w = .ok (.bool b) w)∧(op = .neq→(do eqGuard op t xo yo u (.slice none 0 0);binOp op t u (.slice none 0 0):Sem Value).run P w = .ok (.bool (!b)) w):=by
   intro ad n cap hu hb
   subst hu
   have e:(Op.equal t (.slice ad n cap) (.slice none 0 0)).run P w = .ok b w:=by
    unfold Op.equal
    rw [show Op.maxDepth=9999+1 from rfl]
    unfold Op.equalIn
    rw [run_bind' (run_underlying ht)]
    cases ad <;> (subst hb;rfl)
   constructor
   ·rintro rfl
    have g:(eqGuard .eql t xo yo (.slice ad n cap) (.slice none 0 0)).run P w = .ok () w:=by simp [eqGuard]
    rw [run_bind' g]
    show (do pure (Value.bool (← Op.equal t (.slice ad n cap) (.slice none 0 0))):Sem Value).run P w=_
    rw [run_bind' e]
    rfl
   ·rintro rfl
    have g:(eqGuard .neq t xo yo (.slice ad n cap) (.slice none 0 0)).run P w = .ok () w:=by simp [eqGuard]
    rw [run_bind' g]
    show (do pure (Value.bool (!(← Op.equal t (.slice ad n cap) (.slice none 0 0)))):Sem Value).run P w=_
    rw [run_bind' e]
    rfl
  split at h
  ·simp only [Option.some.injEq,Prod.mk.injEq,true_and] at h
   subst h
   cases hx
   exact key _ _ _ rfl rfl
  ·simp only [Option.some.injEq,Prod.mk.injEq,true_and] at h
   subst h
   cases hx with
   | sle _ _ ad cap hb=>exact key _ _ _ rfl hb
  ·simp only [Option.some.injEq,Prod.mk.injEq,decide_eq_true_eq] at h
   obtain ⟨h0,rfl⟩:=h
   cases hx with
   | sl _ _ _ hv =>
    cases hv with
    | sl _ _ a cap U _ _ _ ha =>
     obtain ⟨bb,o,rfl⟩:=ha h0
     exact key _ _ _ rfl rfl
  ·cases h
 ·cases h
theorem binX_sound {op:BinOp} {t:TypeId} {xo yo:Operand} {x y v:AV} {u u':Value} (hx:VR C x u) (hy:VR C y u') (h:binX P op t x y=some (true,v)) :
  ∃ r,(do eqGuard op t xo yo u u';binOp op t u u':Sem Value).run P w = .ok r w∧VR C v r:=by
 unfold binX at h
 split at h
 ·obtain ⟨b,h1,h2⟩:=Option.map_eq_some_iff.1 h
  simp only [Prod.mk.injEq,true_and] at h2
  subst h2
  exact ⟨_,(eqS_sound hx hy h1).1 rfl,.bool b⟩
 ·obtain ⟨b,h1,h2⟩:=Option.map_eq_some_iff.1 h
  simp only [Prod.mk.injEq,true_and] at h2
  subst h2
  exact ⟨_,(eqS_sound hx hy h1).2 rfl,.bool _⟩
 ·obtain ⟨⟨g,b⟩,h1,h2⟩:=Option.map_eq_some_iff.1 h
  simp only [Prod.mk.injEq] at h2
  obtain ⟨rfl,rfl⟩:=h2
  cases hy
  exact ⟨_,(nilS_sound hx h1).1 rfl,.bool b⟩
 ·obtain ⟨⟨g,b⟩,h1,h2⟩:=Option.map_eq_some_iff.1 h
  simp only [Prod.mk.injEq] at h2
  obtain ⟨rfl,rfl⟩:=h2
  cases hy
  exact ⟨_,(nilS_sound hx h1).2 rfl,.bool _⟩
 ·exact bin_sound hx hy h
theorem foldMin_sound:∀ (l:List AV) (us:List Value) (n m:Int),l.length=us.length→(∀ (i:Nat) (c:AV) (u:Value),l[i]?=some c→us[i]?=some u→VR C c u)→foldMin n l=some m →
  (us.foldlM Builtin.min2 (.int .i64 n)).run P w = .ok (.int .i64 m) w
 | [],us,n,m,hl,_,h=>by
  cases us with
  | nil=>simp only [foldMin,Option.some.injEq] at h;subst h;rfl
  | cons u us=>simp at hl
 | c :: l,us,n,m,hl,hv,h=>by
  cases us with
  | nil=>simp at hl
  | cons u us =>
   have hc:=hv 0 c u rfl rfl
   cases c <;> try (simp [foldMin] at h;done)
   rename_i k z
   cases k <;> try (simp [foldMin] at h;done)
   cases hc
   simp only [foldMin] at h
   simp only [List.foldlM_cons]
   rw [run_bind' (x := .int .i64 (if z<n then z else n)) (w':=w) rfl]
   exact foldMin_sound l us _ m (by simpa using hl) (fun i c u h1 h2=>hv (i+1) c u (by simpa using h1) (by simpa using h2)) h
theorem foldMax_sound:∀ (l:List AV) (us:List Value) (n m:Int),l.length=us.length→(∀ (i:Nat) (c:AV) (u:Value),l[i]?=some c→us[i]?=some u→VR C c u)→foldMax n l=some m →
  (us.foldlM Builtin.max2 (.int .i64 n)).run P w = .ok (.int .i64 m) w
 | [],us,n,m,hl,_,h=>by
  cases us with
  | nil=>simp only [foldMax,Option.some.injEq] at h;subst h;rfl
  | cons u us=>simp at hl
 | c :: l,us,n,m,hl,hv,h=>by
  cases us with
  | nil=>simp at hl
  | cons u us =>
   have hc:=hv 0 c u rfl rfl
   cases c <;> try (simp [foldMax] at h;done)
   rename_i k z
   cases k <;> try (simp [foldMax] at h;done)
   cases hc
   simp only [foldMax] at h
   simp only [List.foldlM_cons]
   rw [run_bind' (x := .int .i64 (if z > n then z else n)) (w':=w) rfl]
   exact foldMax_sound l us _ m (by simpa using hl) (fun i c u h1 h2=>hv (i+1) c u (by simpa using h1) (by simpa using h2)) h
theorem ops_VR [Glob] (hs:Sim C nt st a w) (l:List Operand):∀ (i:Nat) (c:AV) (u:Value),(l.map (opA st.env))[i]?=some c→(l.map a.eval)[i]?=some u→VR C c u:=by
 intro i c u h1 h2
 rw [List.getElem?_map] at h1 h2
 cases hl:l[i]? with
 | none=>simp [hl] at h1
 | some x =>
  simp only [hl,Option.map_some,Option.some.injEq] at h1 h2
  rw [← h1,← h2]
  exact opA_sound hs x
theorem run_builtin {o:Oper} {b:Builtin} {args:Array Operand} {argTypes:Array TypeId} {u:Value} {s:Sem Value} (ho:o.op = .call { callee := .builtin b,args,argTypes })
  (hb:∀ cs,builtin b argTypes o.type cs (args.map a.eval)=(do pure (Next.value (← s)))) (h:s.run P w = .ok u w) :
  (execOp a.eval o).run P w = .ok (.value u) w:=by
 unfold execOp
 simp only [ho]
 unfold resolve
 simp only [pure_bind]
 unfold invoke
 exact (congrArg (fun s=>Sem.run P s w) (hb _)).trans (run_v h)
theorem val_sound [Glob] {o:Oper} {v:AV} (hs:Sim C nt st a w) (h:valA P st o.op=some (true,v)):∃ u,(execOp a.eval o).run P w = .ok (.value u) w∧VR C v u:=by
 obtain ⟨dst,op,type,pos,after,guard⟩:=o
 simp only at h
 cases op with
 | move x=>simp only [valA,Option.some.injEq,Prod.mk.injEq,true_and] at h;subst h;exact ⟨_,rfl,opA_sound hs x⟩
 | assign x=>simp only [valA,Option.some.injEq,Prod.mk.injEq,true_and] at h;subst h;exact ⟨_,rfl,opA_sound hs x⟩
 | pick c x y =>
  simp only [valA] at h
  split at h
  ·rename_i b hb
   simp only [Option.some.injEq,Prod.mk.injEq,true_and] at h
   subst h
   have hc:=opA_sound hs c
   rw [hb] at hc
   refine ⟨if b then a.eval x else a.eval y,?_,pick_sound (opA_sound hs x) (opA_sound hs y)⟩
   generalize ha:a.eval c=u at hc
   cases hc
   simp only [execOp,ha]
   rfl
  ·cases h
 | load t x =>
  simp only [valA] at h
  have hx:=opA_sound hs x
  split at h
  ·rename_i nm i off hp
   rw [hp] at hx
   split at h
   ·rename_i b hb
    have h:=map_pair h
    generalize ha:a.eval x=u at hx
    cases hx with
    | ptr _ _ _ hr hi =>
     obtain ⟨r,h1,h2⟩:=load_sound hs hb h hi
     refine ⟨r,?_,h2⟩
     simp only [execOp,ha]
     exact run_v (by unfold Instr.loadAt;rw [run_bind' (x:=C.at nm i off) (w':=w) rfl];exact h1)
   ·cases h
  ·rename_i tys y off hp
   rw [hp] at hx
   have h:=map_pair h
   generalize ha:a.eval x=u at hx
   cases hx with
   | rptr _ _ _ b o U hm hx hv =>
    obtain ⟨r,h1,h2⟩:=rload_sound hs hm hx hv h
    refine ⟨r,?_,h2⟩
    simp only [execOp,ha]
    exact run_v (by unfold Instr.loadAt;rw [run_bind' (x:=⟨b,o+off,none⟩) (w':=w) rfl];exact h1)
  ·cases h
 | nilCheck x =>
  simp only [valA] at h
  have hx:=opA_sound hs x
  split at h
  all_goals first|(cases h;done)|skip
  all_goals
   rename_i hp
   rw [hp] at hx
   simp only [Option.some.injEq,Prod.mk.injEq,true_and] at h
   subst h
   refine ⟨a.eval x,?_,hx⟩
   generalize ha:a.eval x=u at hx
   cases hx
   simp only [execOp,ha]
   rfl
 | binOp op t x y yt =>
  simp only [valA] at h
  obtain ⟨r,h1,h2⟩:=binX_sound (P:=P) (w:=w) (xo:=x) (yo:=y) (opA_sound hs x) (opA_sound hs y) h
  exact ⟨r,by simp only [execOp];exact run_v h1,h2⟩
 | unOp op t x =>
  simp only [valA] at h
  split at h
  ·rename_i v' hv'
   have h:=map_pair h
   obtain ⟨r,h1,h2⟩:=Option.bind_eq_some_iff.1 h
   have e:=toV_sound (opA_sound hs x) hv'
   refine ⟨r,?_,ofV_sound h2⟩
   simp only [execOp,e]
   exact run_v (runP_sound h1 w)
  ·cases h
 | convert s d x =>
  simp only [valA] at h
  have hx:=opA_sound hs x
  split at h
  ·rename_i k n hp
   rw [hp] at hx
   have h:=map_pair h
   obtain ⟨r,h1,h2⟩:=Option.bind_eq_some_iff.1 h
   generalize ha:a.eval x=u at hx
   cases hx
   refine ⟨r,?_,ofV_sound h2⟩
   simp only [execOp,ha]
   exact run_v (runP_sound h1 w)
  ·rename_i nm hp
   rw [hp] at hx
   split at h
   ·rename_i b he hd hb
    cases hg : !b.box && ctsEq b.tys [.int .u8] with
    | false=>rw [hg] at h;cases h
    | true =>
     rw [hg] at h
     simp only [cond_true,Option.some.injEq,Prod.mk.injEq,true_and] at h
     subst h
     simp only [Bool.and_eq_true,Bool.not_eq_true'] at hg
     obtain ⟨gb,gt⟩:=hg
     have gt:=ctsEq_eq _ _ gt
     obtain ⟨e,he1,he2⟩:=Option.bind_eq_some_iff.1 he
     have hs1:P.underlying s=some (.slice e):=by
      unfold elemT at he1
      split at he1
      ·rename_i e' hu
       split at he1
       ·obtain rfl:=Option.some.inj he1
        exact hu
       ·cases he1
      ·cases he1
     have B:=hs.blk nm b hb
     have hw1:C.width nm=1:=by rw [B.width gb,gt];rfl
     generalize ha:a.eval x=u at hx
     refine ⟨.string (bytesA b.xs),?_,.str _⟩
     simp only [execOp,ha]
     refine run_v ?_
     cases hx with
     | ownNil _ hz =>
      rw [run_convert_bytes_string w s d e none 0 0 hs1 he2 hd]
      have:b.xs=[]:=List.eq_nil_of_length_eq_zero (by rw [← B.len];exact hz)
      rw [this]
      rfl
     | own _ cap hr h1 h2 =>
      rw [run_convert_bytes_string w s d e _ _ _ hs1 he2 hd,B.len]
      have hcs:∀ j v,((b.xs.map fun x=>fI x 0).map (Value.int .u8))[j]?=some v→w.cell? ((C.at nm 0 0).add j)=some v:=fun j v hj=>by
       rw [List.getElem?_map,List.getElem?_map] at hj
       cases hx:b.xs[j]? with
       | none=>rw [hx] at hj;cases hj
       | some y =>
        rw [hx] at hj
        obtain rfl:=Option.some.inj hj
        obtain ⟨g1,g2⟩:=B.cells j y hx
        rw [hw1] at g1
        obtain ⟨u,g3,g4,g5⟩:=g2 0 y.cells[0] (List.getElem?_eq_getElem (by omega))
        simp only [gb,Bool.false_eq_true,if_false] at g5
        obtain ⟨ct,g6,g7⟩:=g5
        rw [gt] at g6
        obtain rfl:CT.int .u8=ct:=Option.some.inj g6
        unfold Ctx.at at_ at g3 ⊢
        rw [add_at]
        simp only [hw1,Nat.add_zero,Nat.mul_one] at g3 ⊢
        rw [g3]
        unfold fI
        rw [List.getElem?_eq_getElem (by omega)]
        generalize y.cells[0]=c at g7
        cases g7
        rfl
      have hl:=run_loadCells_list (P:=P) w (C.at nm 0 0) _ hcs
      rw [List.length_map,List.length_map] at hl
      rw [run_bytesToString w (C.at nm 0 0) b.xs.length cap (b.xs.map fun x=>fI x 0) hl]
      unfold bytesA
      rw [List.foldl_map]
   ·cases h
  ·cases h
 | makeFunc fn first caps =>
  cases fn with
  | func f =>
   simp only [valA] at h
   cases he:first.isEmpty with
   | false=>rw [he] at h;simp at h
   | true =>
    rw [he] at h
    simp only [cond_true,Option.some.injEq,Prod.mk.injEq,true_and] at h
    subst h
    refine ⟨.func (.func f) #[] (caps.toList.map a.eval).toArray,?_,.fn f _ _ (by simp) (ops_VR hs _)⟩
    simp only [execOp]
    have:first=#[]:=by simpa using he
    subst this
    refine run_v ?_
    have e:(caps.toList.map a.eval).toArray=caps.map a.eval:=by apply Array.ext';simp
    have e2:(#[]:Array Operand).map a.eval=#[]:=by simp
    rw [e,e2]
    rfl
  | _=>simp [valA] at h
 | slice t x lo hi mx =>
  simp only [valA] at h
  have hx:=opA_sound hs x
  split at h
  ·cases h
  ·cases h
  ·cases h
  ·rename_i h1 h2
   have b1:=boundR_of hs lo (fun e=>h1 e)
   have b2:=boundR_of hs hi (fun e=>h2 e)
   split at h
   ·rename_i e he
    obtain ⟨r,h3,h4⟩:=slice_sound hs hx b1 b2 he h
    refine ⟨r,?_,h4⟩
    simp only [execOp]
    exact run_v h3
   ·split at h
    ·rename_i ht
     obtain ⟨r,h3,h4⟩:=sliceS_sound (P:=P) (w:=w) hx b1 b2 ht h
     refine ⟨r,?_,h4⟩
     simp only [execOp]
     exact run_v h3
    ·cases h
 | fieldAddr s x f =>
  simp only [valA] at h
  have hx:=opA_sound hs x
  split at h
  ·rename_i fd hfd
   cases hc:Nat.beq (P.cellsOf fd.type) 0 with
   | true=>rw [hc] at h;simp at h
   | false =>
    rw [hc] at h
    simp only [cond_false] at h
    have hc:=Nat.ne_of_beq_eq_false hc
    split at h
    ·rename_i nm i off hp
     rw [hp] at hx
     simp only [Option.some.injEq,Prod.mk.injEq,true_and] at h
     subst h
     generalize ha:a.eval x=u at hx
     cases hx with
     | ptr _ _ _ hr hi =>
      refine ⟨.pointer (some (C.at nm i (off+fd.offset))),?_,.ptr _ _ _ hr hi⟩
      simp only [execOp,ha]
      refine run_v ?_
      rw [run_fieldAt hfd hc,addoff]
    ·rename_i tys y off hp
     rw [hp] at hx
     simp only [Option.some.injEq,Prod.mk.injEq,true_and] at h
     subst h
     generalize ha:a.eval x=u at hx
     cases hx with
     | rptr _ _ _ b o U hm hx hv =>
      refine ⟨.pointer (some ⟨b,o+(off+fd.offset),none⟩),?_,.rptr _ _ _ b o U hm hx hv⟩
      simp only [execOp,ha]
      refine run_v ?_
      rw [run_fieldAt hfd hc,add_at,Nat.add_assoc]
    ·cases h
  ·cases h
 | field t x f =>
  simp only [valA] at h
  have hx:=opA_sound hs x
  split at h
  ·rename_i fd hfd
   split at h
   ·rename_i cs hp
    rw [hp] at hx
    have h:=map_pair h
    obtain ⟨vs,ha,h1,h2,h3⟩:=hx.agg_inv
    obtain ⟨r,h4,h5⟩:=part_sound (P:=P) (w:=w) h1 h2 h3 h
    refine ⟨r,?_,h5⟩
    simp only [execOp,ha]
    exact run_v (run_field hfd h4)
   ·cases h
  ·cases h
 | indexAddr t x i =>
  simp only [valA] at h
  split at h
  ·rename_i n hn
   obtain ⟨k,hk⟩:=intOf_sound (opA_sound hs i) hn
   obtain ⟨r,h1,h2⟩:=indexAddr_sound (k:=k) hs (opA_sound hs x) h
   refine ⟨r,?_,h2⟩
   simp only [execOp,hk]
   exact run_v h1
  ·cases h
 | index t x i =>
  simp only [valA] at h
  have hx:=opA_sound hs x
  split at h
  ·rename_i s n ht hp hn
   rw [hp] at hx
   obtain ⟨k,hk⟩:=intOf_sound (opA_sound hs i) hn
   simp only [Option.some.injEq,Prod.mk.injEq,Bool.and_eq_true,decide_eq_true_eq] at h
   obtain ⟨⟨h0,h1⟩,rfl⟩:=h
   generalize ha:a.eval x=u at hx
   cases hx
   refine ⟨_,?_,.int _ _⟩
   simp only [execOp,hk,ha]
   exact run_v (run_index_str ht h0 h1)
  ·rename_i m e cs n ht hp hn
   rw [hp] at hx
   obtain ⟨k,hk⟩:=intOf_sound (opA_sound hs i) hn
   cases hpa:partA P e (.agg cs) (n.toNat*P.cellsOf e) with
   | none=>rw [hpa] at h;cases h
   | some v' =>
    rw [hpa] at h
    simp only [Option.map_some,Option.some.injEq,Prod.mk.injEq,Bool.and_eq_true,decide_eq_true_eq] at h
    obtain ⟨⟨h0,h1⟩,rfl⟩:=h
    obtain ⟨vs,ha,g1,g2,g3⟩:=hx.agg_inv
    obtain ⟨r,h4,h5⟩:=part_sound (P:=P) (w:=w) g1 g2 g3 hpa
    refine ⟨r,?_,h5⟩
    simp only [execOp,hk,ha]
    exact run_v (run_index_arr ht (partA_size hpa) h0 h1 h4)
  ·cases h
 | extract x k =>
  simp only [valA] at h
  have hx:=opA_sound hs x
  split at h
  ·rename_i vs hp
   rw [hp] at hx
   have h:=map_pair h
   generalize ha:a.eval x=u at hx
   cases hx with
   | tup _ us h1 h2 =>
    have hlt:k<vs.length:=(List.getElem?_eq_some_iff.1 h).1
    have hu:us[k]?=some (us[k]'(by omega)):=List.getElem?_eq_getElem (by omega)
    refine ⟨us[k]'(by omega),?_,h2 k _ _ h hu⟩
    simp only [execOp,ha]
    refine run_v ?_
    unfold Instr.extract
    have:us.toArray[k]?=some (us[k]'(by omega)):=by simp
    simp only [this]
    rfl
  ·cases h
 | build t parts =>
  simp only [valA] at h
  split at h
  ·rename_i fs z hu hz
   cases hc:okV z && fs.toList.all (fun f=>(P.info? f.type).isSome) with
   | false=>rw [hc] at h;simp at h
   | true =>
    rw [hc] at h
    simp only [Bool.and_eq_true] at hc
    simp only [cond_true] at h
    obtain ⟨r,h1,rfl⟩:=map_pair' h
    obtain ⟨u,h2,h3⟩:=build_sound (w:=w) (l':=parts.map fun (i,x)=>(i,a.eval x)) hu hz hc.1 hc.2 (by rw [Array.toList_map];exact partsR_of hs parts.toList) h1
    refine ⟨u,?_,h3⟩
    simp only [execOp]
    exact run_v h2
  ·rename_i n e z hu hz
   cases hc:okV z && (P.info? e).isSome with
   | false=>rw [hc] at h;simp at h
   | true =>
    rw [hc] at h
    simp only [Bool.and_eq_true] at hc
    simp only [cond_true] at h
    obtain ⟨r,h1,rfl⟩:=map_pair' h
    obtain ⟨u,h2,h3⟩:=build_soundA (w:=w) (l':=parts.map fun (i,x)=>(i,a.eval x)) hu hz hc.1 hc.2 (by rw [Array.toList_map];exact partsR_of hs parts.toList) h1
    refine ⟨u,?_,h3⟩
    simp only [execOp]
    exact run_v h2
  ·cases h
 | call c =>
  obtain ⟨callee,args,argTypes⟩:=c
  cases callee with
  | builtin b =>
   cases b <;> try (simp [valA] at h;done)
   case len =>
    simp only [valA] at h
    split at h
    ·rename_i x e hargs ht
     obtain ⟨n,hn,rfl⟩:=map_pair' h
     obtain ⟨av,c,hu⟩:=len_sound hs (opA_sound hs x) hn
     obtain ⟨t,ht0,ht⟩:=Option.bind_eq_some_iff.1 ht
     have ea:args.map a.eval=#[a.eval x]:=by apply Array.ext';simp [hargs]
     exact ⟨_,run_builtin (o:=⟨dst,_,type,pos,after,guard⟩) rfl (fun _=>by rw [ea];rfl) (run_len ht0 (.inl ⟨e,av,c,ht,hu⟩)),.int _ _⟩
    ·rename_i x hargs ht
     split at h
     ·rename_i s hp
      simp only [Option.some.injEq,Prod.mk.injEq,true_and] at h
      subst h
      obtain ⟨t,ht0,ht⟩:=Option.bind_eq_some_iff.1 ht
      have hx:=opA_sound hs x
      rw [hp] at hx
      generalize hu:a.eval x=u at hx
      cases hx
      have ea:args.map a.eval=#[a.eval x]:=by apply Array.ext';simp [hargs]
      exact ⟨_,run_builtin (o:=⟨dst,_,type,pos,after,guard⟩) rfl (fun _=>by rw [ea];rfl) (run_len ht0 (.inr ⟨s,ht,hu,rfl⟩)),.int _ _⟩
     ·cases h
    ·cases h
   case min =>
    simp only [valA] at h
    split at h
    ·rename_i n r hargs
     obtain ⟨m,hm,rfl⟩:=map_pair' h
     cases hl:args.toList with
     | nil=>rw [hl] at hargs;simp at hargs
     | cons x xs =>
      rw [hl] at hargs
      simp only [List.map_cons,List.cons.injEq] at hargs
      have hx:=opA_sound hs x
      rw [hargs.1] at hx
      generalize hu:a.eval x=u at hx
      cases hx
      have ea:(args.map a.eval).toList = .int .i64 n :: xs.map a.eval:=by simp [hl,hu]
      refine ⟨_,run_builtin (o:=⟨dst,_,type,pos,after,guard⟩) (s:=Builtin.min_ argTypes type (args.map a.eval)) rfl (fun _=>rfl) ?_,.int _ _⟩
      unfold Builtin.min_
      rw [ea]
      exact foldMin_sound r _ n m (by rw [← hargs.2];simp) (by rw [← hargs.2];exact ops_VR hs xs) hm
    ·cases h
   case max =>
    simp only [valA] at h
    split at h
    ·rename_i n r hargs
     obtain ⟨m,hm,rfl⟩:=map_pair' h
     cases hl:args.toList with
     | nil=>rw [hl] at hargs;simp at hargs
     | cons x xs =>
      rw [hl] at hargs
      simp only [List.map_cons,List.cons.injEq] at hargs
      have hx:=opA_sound hs x
      rw [hargs.1] at hx
      generalize hu:a.eval x=u at hx
      cases hx
      have ea:(args.map a.eval).toList = .int .i64 n :: xs.map a.eval:=by simp [hl,hu]
      refine ⟨_,run_builtin (o:=⟨dst,_,type,pos,after,guard⟩) (s:=Builtin.max_ argTypes type (args.map a.eval)) rfl (fun _=>rfl) ?_,.int _ _⟩
      unfold Builtin.max_
      rw [ea]
      exact foldMax_sound r _ n m (by rw [← hargs.2];simp) (by rw [← hargs.2];exact ops_VR hs xs) hm
    ·cases h
  | _=>simp [valA] at h
 | _=>simp [valA] at h
end
end Go.Proofs.VE

namespace Go.Proofs.VE
open Go
structure Agree (p:Nm→Bool) (C C':Ctx):Prop where
 base:C'.base=C.base
 w0:C'.w0=C.w0
 mem:∀ a v,C.mem a=some v→C'.mem a=some v
 memF:∀ a v,C.memF a=some v→C'.memF a=some v
 old:∀ a v,C.mem a=some v→C.memF a=none→C'.memF a=none
 dat:∀ nm,p nm=false→C'.dat nm=C.dat nm
 fr:C'.fr=C.fr
 new:∀ a v,C'.mem a=some v→C.mem a=some v∨(C'.memF a=some v∧¬ C.fr a.block)
theorem Agree.refl (p:Nm→Bool) (C:Ctx):Agree p C C:=⟨rfl,rfl,fun _ _ h=>h,fun _ _ h=>h,fun _ _ _ h=>h,fun _ _=>rfl,rfl,fun _ _ h => .inl h⟩
theorem Agree.trans {p:Nm→Bool} {C C' C'':Ctx} (h:Agree p C C') (k:Agree p C' C''):Agree p C C'' :=
 ⟨k.base.trans h.base,k.w0.trans h.w0,fun a v e=>k.mem a v (h.mem a v e),fun a v e=>k.memF a v (h.memF a v e),fun a v e f=>k.old a v (h.mem a v e) (h.old a v e f),fun nm hn=>(k.dat nm hn).trans (h.dat nm hn),k.fr.trans h.fr,fun a v e=>(k.new a v e).elim (fun e=>(h.new a v e).imp id fun e=>⟨k.memF a v e.1,e.2⟩) fun e => .inr ⟨e.1,by rw [← h.fr];exact e.2⟩⟩
theorem Agree.mono {p q:Nm→Bool} {C C':Ctx} (h:Agree p C C') (hpq:∀ nm,p nm=true→q nm=true):Agree q C C' :=
 ⟨h.base,h.w0,h.mem,h.memF,h.old,fun nm hn=>h.dat nm (by cases hp:p nm with|false=>rfl|true=>rw [hpq nm hp] at hn;cases hn),h.fr,h.new⟩
section
variable {p:Nm→Bool} {C C':Ctx}
theorem Agree.at (h:Agree p C C') {nm:Nm} (hn:p nm=false) (i j:Nat):C'.at nm i j=C.at nm i j:=by
 unfold Ctx.at Ctx.loc Ctx.width
 rw [h.dat nm hn]
theorem menC_menV {c:AV} (h:menC p c=false):menV p c=false:=by
 cases c <;> first|exact h|(simp [menC] at h)
theorem menV_cells {x:AV} (h:menV p x=false) {j:Nat} {c:AV} (hc:x.cells[j]?=some c):menV p c=false:=by
 have one:∀ y:AV,y.cells=[y]→menV p y=false→y.cells[j]?=some c→menV p c=false:=by
  intro y hy hm hj
  rw [hy] at hj
  cases j with
  | zero=>simp at hj;rw [← hj];exact hm
  | succ j=>simp at hj
 cases x with
 | agg cs =>
  simp only [AV.cells] at hc
  simp only [menV,List.any_eq_false] at h
  exact menC_menV (by simpa using h c (List.mem_of_getElem? hc))
 | _=>exact one _ rfl h hc
theorem VR.moveC (ha:Agree p C C') {c:AV} {v:Value} (h:VR C c v) (hm:menC p c=false):VR C' c v:=by
 cases h with
 | undef v=>exact .undef v
 | bool b=>exact .bool b
 | int k n=>exact .int k n
 | str s=>exact .str s
 | nilp=>exact .nilp
 | nilfn=>exact .nilfn
 | snil=>exact .snil
 | ptr nm i off hr hi =>
  simp only [menC] at hm
  rw [← ha.at hm i off]
  refine .ptr nm i off ?_ ?_
  ·unfold Ctx.real;rw [ha.dat nm hm];exact hr
  ·unfold Ctx.len;rw [ha.dat nm hm];exact hi
 | rptr tys x off b o U h1 h2 h3=>exact .rptr tys x off b o U (fun j hj=>ha.mem _ _ (h1 j hj)) h2 fun j ct c ht hc=>(h3 j ct c ht hc).mono ha.mem
 | own nm cap hr h1 h2 =>
  simp only [menC] at hm
  have e:C.len nm=C'.len nm:=by unfold Ctx.len;rw [ha.dat nm hm]
  rw [← ha.at hm 0 0,e]
  refine .own nm cap ?_ ?_ ?_
  ·unfold Ctx.real;rw [ha.dat nm hm];exact hr
  ·rw [← e];exact h1
  ·unfold Ctx.room;rw [ha.dat nm hm];exact h2
 | ownNil nm h =>
  simp only [menC] at hm
  exact .ownNil nm (by unfold Ctx.len;rw [ha.dat nm hm];exact h)
 | sub nm lo n cap av h1 h2 hc h4 =>
  simp only [menC] at hm
  refine .sub nm lo n cap av h1 (fun hn=>?_) ?_ (by unfold Ctx.len;rw [ha.dat nm hm];exact h4)
  ·obtain ⟨h3,h4⟩:=h2 hn
   refine ⟨?_,?_⟩
   ·unfold Ctx.real;rw [ha.dat nm hm];exact h3
   ·rw [ha.at hm];exact h4
  ·rcases hc with ⟨h3,l,h4,h5⟩|h3
   ·refine .inl ⟨?_,l,?_,?_⟩
    ·unfold Ctx.real;rw [ha.dat nm hm];exact h3
    ·rw [ha.at hm];exact h4
    ·unfold Ctx.room;rw [ha.dat nm hm];exact h5
   ·exact .inr h3
 | sl tys xs v h=>exact .sl tys xs v (h.mono ha.mem)
 | sle b tys ad cap h=>exact .sle b tys ad cap h
 | fn f cs vs _ _=>simp [menC] at hm
 | agg cs vs _ _ _=>simp [menC] at hm
 | tup cs vs _ _=>simp [menC] at hm
theorem VR.moveW (ha:Agree p C C') {c:AV} {v:Value} (h:VR C c v) (hm:menW p c=false):VR C' c v:=by
 unfold menW at hm
 split at hm
 ·cases h with
  | agg _ vs h1 h2 h3=>exact .agg _ vs h1 (fun i c v hc hv=>(h2 i c v hc hv).moveC ha (by
    simp only [List.any_eq_false] at hm
    simpa using hm _ (List.mem_of_getElem? hc))) h3
 ·exact h.moveC ha hm
theorem VR.move (ha:Agree p C C') {c:AV} {v:Value} (h:VR C c v) (hm:menV p c=false):VR C' c v:=by
 have cell:∀ {cs:List AV} {i:Nat} {c:AV},cs.any (menC p)=false→cs[i]?=some c→menC p c=false:=fun h hc=>by
  simp only [List.any_eq_false] at h
  simpa using h _ (List.mem_of_getElem? hc)
 cases h with
 | fn f cs vs h1 h2=>exact .fn f cs vs h1 fun i c v hc hv=>(h2 i c v hc hv).moveC ha (cell hm hc)
 | agg cs vs h1 h2 h3=>exact .agg cs vs h1 (fun i c v hc hv=>(h2 i c v hc hv).moveC ha (cell hm hc)) h3
 | tup cs vs h1 h2=>exact .tup cs vs h1 fun i c v hc hv=>(h2 i c v hc hv).moveW ha (by
   simp only [menV,List.any_eq_false] at hm
   simpa using hm _ (List.mem_of_getElem? hc))
 | undef v=>exact .undef v
 | bool b=>exact .bool b
 | int k n=>exact .int k n
 | str s=>exact .str s
 | nilp=>exact .nilp
 | nilfn=>exact .nilfn
 | snil=>exact .snil
 | ptr nm i off hr hi=>exact (VR.ptr nm i off hr hi).moveC ha hm
 | rptr tys x off b o U h1 h2 h3=>exact (VR.rptr tys x off b o U h1 h2 h3).moveC ha hm
 | own nm cap hr h1 h2=>exact (VR.own nm cap hr h1 h2).moveC ha hm
 | ownNil nm h=>exact (VR.ownNil nm h).moveC ha hm
 | sub nm lo n cap av h1 h2 h3 h4=>exact (VR.sub nm lo n cap av h1 h2 h3 h4).moveC ha hm
 | sl tys xs v h=>exact (VR.sl tys xs v h).moveC ha hm
 | sle b tys ad cap h=>exact .sle b tys ad cap h
theorem BlkR.move (ha:Agree p C C') {w:World} {nm:Nm} {b:Blk} (h:BlkR C w nm b) (hn:p nm=false) (hm:b.box=true→∀ x ∈ b.xs,menV p x=false):BlkR C' w nm b:=by
 have d:=ha.dat nm hn
 refine ⟨h.max,by unfold Ctx.len;rw [d];exact h.len,by unfold Ctx.width;rw [d];exact h.width,by unfold Ctx.real;rw [d];exact h.box,by unfold Ctx.real;rw [d];exact h.nilb,?_,?_,by unfold Ctx.real Ctx.loc Ctx.room Ctx.width;rw [d];exact h.froz⟩
 ·intro i x hx
  obtain ⟨h1,h2⟩:=h.cells i x hx
  refine ⟨by unfold Ctx.width;rw [d];exact h1,fun j c hc=>?_⟩
  obtain ⟨u,h3,h4,h5⟩:=h2 j c hc
  refine ⟨u,by rw [ha.at hn];exact h3,h4,?_⟩
  cases hb:b.box with
  | true =>
   rw [hb] at h5
   simp only [if_true] at h5 ⊢
   exact h5.move ha (menV_cells (hm hb x (List.mem_of_getElem? hx)) hc)
  | false =>
   rw [hb] at h5
   simp only [Bool.false_eq_true,if_false] at h5 ⊢
   obtain ⟨ct,k1,k2⟩:=h5
   exact ⟨ct,k1,k2.mono ha.memF⟩
 ·intro hr
  unfold Ctx.real at hr
  rw [d] at hr
  have:=h.room hr
  unfold Ctx.loc Ctx.room Ctx.width
  rw [d,ha.base]
  exact this
theorem HSim.ctx [Glob] (ha:Agree p C C') (he:C'.mem=C.mem) (hf:C'.memF=C.memF) {heap:List (Nm × Blk)} {w:World} (h:HSim C heap w)
  (hh:∀ nm b,getH heap nm=some b→p nm=false∧(b.box=true→∀ x ∈ b.xs,menV p x=false)):HSim C' heap w:=by
 refine ⟨fun nm b hb=>(h.blk nm b hb).move ha (hh nm b hb).1 (hh nm b hb).2,?_,?_,by rw [ha.base];exact h.grown,by rw [ha.base,ha.w0];exact h.kept,fun x v hv hn=>by rw [he] at hv;rw [hf] at hn;rw [ha.w0];exact h.blk0 x v hv hn,fun x v hv=>by rw [hf] at hv;rw [he,ha.base];exact h.own x v hv,by rw [ha.base,ha.w0];exact h.glob,fun k hk=>by
  rw [ha.fr] at hk
  obtain ⟨f1,f2,f3⟩:=h.frame k hk
  refine ⟨by rw [ha.w0];exact f1,by rw [ha.w0];exact f2,fun nm b hb hr=>?_⟩
  unfold Ctx.real Ctx.loc at *
  rw [ha.dat nm (hh nm b hb).1] at *
  exact f3 nm b hb hr⟩
 ·intro nm b nm' b' h1 h2 h3 h4 h5
  unfold Ctx.real Ctx.loc at *
  rw [ha.dat nm (hh nm b h1).1] at *
  rw [ha.dat nm' (hh nm' b' h2).1] at *
  exact h.apart nm b nm' b' h1 h2 h3 h4 h5
 ·intro x v hv
  rw [he] at hv
  obtain ⟨h1,h2,h3⟩:=h.mem x v hv
  refine ⟨h1,h2,fun nm b hb hr=>?_⟩
  unfold Ctx.real Ctx.loc at *
  rw [ha.dat nm (hh nm b hb).1] at *
  exact h3 nm b hb hr
end
section
variable {C:Ctx} {heap:List (Nm × Blk)} {w w':World}
theorem BlkR.world {nm:Nm} {b:Blk} (h:BlkR C w nm b) (hk:C.real nm=true→w'.heap[(C.loc nm).1]?=w.heap[(C.loc nm).1]?) (hs:w.heap.size≤w'.heap.size):BlkR C w' nm b:=by
 refine ⟨h.max,h.len,h.width,h.box,h.nilb,?_,?_,fun hr h0 o=>by rw [World.frozen?_of_block (w:=w) (a:=⟨(C.loc nm).1,o,none⟩) (hk hr)];exact h.froz hr h0 o⟩
 ·intro i x hx
  obtain ⟨h1,h2⟩:=h.cells i x hx
  refine ⟨h1,fun j c hc=>?_⟩
  obtain ⟨u,h3,h4⟩:=h2 j c hc
  refine ⟨u,?_,h4⟩
  cases hr:C.real nm with
  | false=>rw [h.nilb hr] at hx;cases hx
  | true=>rw [World.cell?_of_block (w:=w) (a:=C.at nm i j) (hk hr)];exact h3
 ·intro hr
  obtain ⟨h1,h2,h3,h4⟩:=h.room hr
  refine ⟨h1,Nat.lt_of_lt_of_le h2 hs,h3,fun o ho=>?_⟩
  rw [World.cell?_of_block (w:=w) (a:=⟨(C.loc nm).1,(C.loc nm).2+o,none⟩) (hk hr),World.frozen?_of_block (w:=w) (a:=⟨(C.loc nm).1,(C.loc nm).2+o,none⟩) (hk hr)]
  exact h4 o ho
theorem HSim.world [Glob] {r:Option Nat} (h:HSim C heap w) (hg:w.grownBy w' r)
  (hr:∀ k,r=some k→C.base≤k∧(∀ nm b,getH heap nm=some b→C.real nm=true→(C.loc nm).1 ≠ k)∧(∀ a v,C.mem a=some v→a.block ≠ k)∧¬ C.fr k):HSim C heap w':=by
 refine ⟨fun nm b hb=>(h.blk nm b hb).world (fun hreal=>?_) hg.size,h.apart,?_,Nat.le_trans h.grown hg.size,h.kept.grown hg h.grown fun k hk=>(hr k hk).1,fun a v hv hn=>(hg.block a.block (h.mem a v hv).2.1 fun e=>(hr _ e.symm).2.2.1 a v hv rfl).trans (h.blk0 a v hv hn),h.own,h.glob,fun k hk=>by
  obtain ⟨f1,f2,f3⟩:=h.frame k hk
  exact ⟨f1,(hg.block k (Nat.lt_of_lt_of_le f1 h.kept.size) fun e=>(hr _ e.symm).2.2.2 hk).trans f2,f3⟩⟩
 ·refine hg.block _ ((h.blk nm b hb).room hreal).2.1 fun e=>?_
  exact (hr _ e.symm).2.1 nm b hb hreal rfl
 ·intro a v hv
  obtain ⟨h1,h2,h3⟩:=h.mem a v hv
  refine ⟨?_,Nat.lt_of_lt_of_le h2 hg.size,h3⟩
  rw [World.cell?_of_block (w:=w) (hg.block a.block h2 fun e=>(hr _ e.symm).2.2.1 a v hv rfl)]
  exact h1
theorem HSim.del [Glob] (h:HSim C heap w) (n:Nm):HSim C (delH heap n) w:=by
 have get:∀ nm b,getH (delH heap n) nm=some b→getH heap nm=some b:=fun nm b hb=>by
  rw [getH_delH] at hb
  split at hb
  ·cases hb
  ·exact hb
 refine ⟨fun nm b hb=>h.blk nm b (get nm b hb),fun nm b nm' b' h1 h2=>h.apart nm b nm' b' (get nm b h1) (get nm' b' h2),fun a v hv=>?_,h.grown,h.kept,h.blk0,h.own,h.glob,fun k hk=>⟨(h.frame k hk).1,(h.frame k hk).2.1,fun nm b hb=>(h.frame k hk).2.2 nm b (get nm b hb)⟩⟩
 obtain ⟨h1,h2,h3⟩:=h.mem a v hv
 exact ⟨h1,h2,fun nm b hb=>h3 nm b (get nm b hb)⟩
theorem HSim.setBlk [Glob] {n:Nm} {b:Blk} (h:HSim C heap w) (hb:BlkR C w n b)
  (ha:C.real n=true→(∀ nm b',nm ≠ n→getH heap nm=some b'→C.real nm=true→(C.loc nm).1 ≠ (C.loc n).1)∧(∀ a v,C.mem a=some v→a.block ≠ (C.loc n).1)∧¬ C.fr (C.loc n).1):HSim C (setH heap n b) w:=by
 have get:∀ nm b',getH (setH heap n b) nm=some b'→(nm=n∧b'=b)∨(nm ≠ n∧getH heap nm=some b'):=fun nm b' hb'=>by
  rw [getH_setH] at hb'
  split at hb'
  ·rename_i e;exact .inl ⟨e.symm,(Option.some.inj hb').symm⟩
  ·rename_i e;exact .inr ⟨fun e'=>e e'.symm,hb'⟩
 refine ⟨fun nm b' hb'=>?_,fun nm b1 nm' b2 h1 h2 h3 h4 h5=>?_,fun a v hv=>?_,h.grown,h.kept,h.blk0,h.own,h.glob,fun k hk=>⟨(h.frame k hk).1,(h.frame k hk).2.1,fun nm b' hb' hr=>?_⟩⟩
 rotate_right
 ·rcases get nm b' hb' with ⟨rfl,rfl⟩|⟨n1,g1⟩
  ·exact fun e=>(ha hr).2.2 (e ▸ hk)
  ·exact (h.frame k hk).2.2 nm b' g1 hr
 ·rcases get nm b' hb' with ⟨rfl,rfl⟩|⟨_,hg⟩
  ·exact hb
  ·exact h.blk nm b' hg
 ·rcases get nm b1 h1 with ⟨rfl,rfl⟩|⟨n1,g1⟩
  ·rcases get nm' b2 h2 with ⟨rfl,rfl⟩|⟨n2,g2⟩
   ·exact absurd rfl h5
   ·exact fun e=>(ha h3).1 nm' b2 n2 g2 h4 e.symm
  ·rcases get nm' b2 h2 with ⟨rfl,rfl⟩|⟨n2,g2⟩
   ·exact (ha h4).1 nm b1 n1 g1 h3
   ·exact h.apart nm b1 nm' b2 g1 g2 h3 h4 h5
 ·obtain ⟨h1,h2,h3⟩:=h.mem a v hv
  refine ⟨h1,h2,fun nm b' hb' hr=>?_⟩
  rcases get nm b' hb' with ⟨rfl,rfl⟩|⟨n1,g1⟩
  ·exact fun e=>(ha hr).2.1 a v hv e.symm
  ·exact h3 nm b' g1 hr
end
section
variable {C:Ctx} {nt:Nat} {st:St} {a:Act} {w:World}
theorem Sim.withH [Glob] {C':Ctx} {heap:List (Nm × Blk)} {w':World} (h:Sim C nt st a w) (hh:HSim C' heap w') (he:∀ t,VR C' (getE st.env t) (a.tmps.getD t undef)):Sim C' nt ⟨st.env,heap⟩ a w' :=
 { toHSim:=hh,size:=h.size,defers:=h.defers,env:=he }
theorem Sim.put [Glob] {d:Nat} {v:AV} {u:Value} (h:Sim C nt st a w) (hv:VR C v u) (hd:d<nt):Sim C nt ⟨setE st.env d v,st.heap⟩ (a.put (some d) u) w:=by
 refine { toHSim:=h.toHSim,size:=by simp [Act.put,h.size],defers:=h.defers,env:=fun t=>?_ }
 simp only [getE_setE,Act.put]
 split
 ·rename_i e
  subst e
  have:(a.tmps.setIfInBounds d u).getD d undef=u:=by
   have:d<a.tmps.size:=by rw [h.size];exact hd
   simp [this]
  rw [this]
  exact hv
 ·rename_i e
  have:(a.tmps.setIfInBounds d u).getD t undef=a.tmps.getD t undef:=by
   simp [Array.getElem?_setIfInBounds_ne e]
  rw [this]
  exact h.env t
theorem Sim.puts [Glob] {d:Option Nat} {v:AV} {u:Value} (h:Sim C nt st a w) (hv:VR C v u) (hd:∀ x,d=some x→x<nt):Sim C nt (st.set d v) (a.put d u) w:=by
 cases d with
 | none=>exact h
 | some d=>exact h.put hv (hd d rfl)
theorem Sim.ctx [Glob] {p:Nm→Bool} {C':Ctx} (ha:Agree p C C') (heq:C'.mem=C.mem) (hfq:C'.memF=C.memF) (h:Sim C nt st a w) (he:∀ t,menV p (getE st.env t)=false)
  (hh:∀ nm b,getH st.heap nm=some b→p nm=false∧(b.box=true→∀ x ∈ b.xs,menV p x=false)):Sim C' nt st a w :=
 { toHSim:=h.toHSim.ctx ha heq hfq hh,size:=h.size,defers:=h.defers,env:=fun t=>(h.env t).move ha (he t) }
end
end Go.Proofs.VE

namespace Go.Proofs.VE
open Go
theorem under_iff (p n:Nm):under p n=true ↔ ∃ q,n=q++p:=by
 unfold under
 constructor
 ·intro h
  cases hb:Nat.ble p.length n.length with
  | false=>rw [hb] at h;simp at h
  | true =>
   rw [hb] at h
   simp only [cond_true,nmEq_iff] at h
   exact ⟨n.take (n.length - p.length),by
                       rw [← h];conv=>lhs;rw [← List.take_append_drop (n.length - p.length) n]
                       simp only [List.length_drop]
                       have:=Nat.le_of_ble_eq_true hb
                       rw [show n.length - (n.length - (n.length - p.length))=n.length - p.length by omega]⟩
 ·rintro ⟨q,rfl⟩
  have:Nat.ble p.length (q++p).length=true:=Nat.ble_eq_true_of_le (by simp)
  rw [this]
  simp only [cond_true,nmEq_iff,List.length_append,Nat.add_sub_cancel]
  simp
theorem isLoc_iff (p n:Nm):isLoc p n=true ↔ ∃ q,q ≠ []∧n=q++p:=by
 unfold isLoc
 constructor
 ·intro h
  cases hb:Nat.ble (p.length+1) n.length with
  | false=>rw [hb] at h;simp at h
  | true =>
   rw [hb] at h
   simp only [cond_true] at h
   have hl:=Nat.le_of_ble_eq_true hb
   have hu:under p n=true:=by
    unfold under
    rw [Nat.ble_eq_true_of_le (by omega)]
    exact h
   obtain ⟨q,rfl⟩:=(under_iff p n).1 hu
   refine ⟨q,fun e=>?_,rfl⟩
   subst e
   simp at hl
   omega
 ·rintro ⟨q,hq,rfl⟩
  have:Nat.ble (p.length+1) (q++p).length=true:=Nat.ble_eq_true_of_le (by
   cases q with
   | nil=>exact absurd rfl hq
   | cons x q=>simp)
  rw [this]
  simp only [cond_true,nmEq_iff,List.length_append,Nat.add_sub_cancel]
  simp
theorem under_isLoc {d:Nat} {π n:Nm} (h:under (d :: π) n=true):isLoc π n=true:=by
 obtain ⟨q,rfl⟩:=(under_iff _ _).1 h
 exact (isLoc_iff _ _).2 ⟨q++[d],by simp,by simp⟩
theorem isLoc_under {π n:Nm} (h:isLoc π n=true):under π n=true:=by
 obtain ⟨q,_,rfl⟩:=(isLoc_iff _ _).1 h
 exact (under_iff _ _).2 ⟨q,rfl⟩
theorem under_new (d:Nat) (π:Nm):under (d :: π) (1 :: d :: π)=true:=(under_iff _ _).2 ⟨[1],rfl⟩
theorem under_trans {p q n:Nm} (h:under p n=true) (k:under q p=true):under q n=true:=by
 obtain ⟨x,rfl⟩:=(under_iff _ _).1 h
 obtain ⟨y,rfl⟩:=(under_iff _ _).1 k
 exact (under_iff _ _).2 ⟨x++y,by simp⟩
theorem getE_mem:∀ (e:List (Nat × AV)) (t:Nat),getE e t = .undef∨∃ s,(s,getE e t) ∈ e
 | [],_ => .inl rfl
 | (s,v) :: r,t=>by
  unfold getE
  cases hb:Nat.beq s t with
  | true=>exact .inr ⟨s,by simp⟩
  | false =>
   rcases getE_mem r t with h|⟨x,h⟩
   ·exact .inl h
   ·exact .inr ⟨x,by simp only [cond_false];exact List.mem_cons_of_mem _ h⟩
theorem getH_mem:∀ (h:List (Nm × Blk)) (m:Nm) (b:Blk),getH h m=some b→(m,b) ∈ h
 | [],_,_,h=>by cases h
 | (n,c) :: r,m,b,h=>by
  unfold getH at h
  cases hb:nmEq n m with
  | true =>
   rw [hb] at h
   have:=(nmEq_iff n m).1 hb
   simp at h
   subst this;subst h
   exact List.mem_cons_self
  | false =>
   rw [hb] at h
   exact List.mem_cons_of_mem _ (getH_mem r m b h)
theorem cleanE_get {q:Nm} {env:List (Nat × AV)} (h:cleanE q env=true) (t:Nat):menV (under q) (getE env t)=false:=by
 rcases getE_mem env t with e|⟨s,hs⟩
 ·rw [e];rfl
 ·unfold cleanE at h
  rw [List.all_eq_true] at h
  simpa using h _ hs
theorem cleanH_get {q:Nm} {heap:List (Nm × Blk)} (h:cleanH q heap=true) (nm:Nm) (b:Blk) (hb:getH heap nm=some b):under q nm=false∧(b.box=true→∀ x ∈ b.xs,menV (under q) x=false):=by
 unfold cleanH at h
 rw [List.all_eq_true] at h
 have:=h _ (getH_mem heap nm b hb)
 simp only [Bool.and_eq_true,Bool.not_eq_true',Bool.or_eq_true,List.all_eq_true] at this
 refine ⟨this.1,fun hbox x hx=>?_⟩
 rcases this.2 with h2|h2
 ·rw [hbox] at h2;cases h2
 ·exact h2 x hx
def Ctx.set (C:Ctx) (n:Nm) (D:Dat):Ctx:={ C with dat:=fun m=>if m=n then D else C.dat m }
theorem Ctx.set_dat (C:Ctx) (n:Nm) (D:Dat):(C.set n D).dat n=D:=by simp [Ctx.set]
theorem Ctx.set_agree {q:Nm} (C:Ctx) {n:Nm} (D:Dat) (h:under q n=true):Agree (under q) C (C.set n D):=by
 refine ⟨rfl,rfl,fun _ _ h=>h,fun _ _ h=>h,fun _ _ _ h=>h,fun m hm=>?_,rfl,fun _ _ h => .inl h⟩
 have:m ≠ n:=fun e=>by rw [e,h] at hm;cases hm
 simp [Ctx.set,this]
section
variable {P:Program} {C C':Ctx} {nt:Nat} {st:St} {a:Act} {w w':World}
theorem Sim.new [Glob] {q n:Nm} {r:Option Nat} {D:Dat} {b:Blk} (hs:Sim C nt st a w) (hq:cleanS q st=true) (hn:under q n=true) (hg:w.grownBy w' r)
  (hr:∀ k,r=some k→C.base≤k∧(∀ nm b,getH st.heap nm=some b→C.real nm=true→(C.loc nm).1 ≠ k)∧(∀ a v,C.mem a=some v→a.block ≠ k)∧¬ C.fr k)
  (hb:BlkR (C.set n D) w' n b)
  (hD:D.real=true→(∀ nm b',getH st.heap nm=some b'→C.real nm=true→(C.loc nm).1 ≠ D.loc.1)∧(∀ a v,C.mem a=some v→a.block ≠ D.loc.1)∧¬ C.fr D.loc.1) :
  Sim (C.set n D) nt ⟨st.env,setH st.heap n b⟩ a w'∧Agree (under q) C (C.set n D):=by
 have ha:Agree (under q) C (C.set n D):=Ctx.set_agree C D hn
 unfold cleanS at hq
 rw [Bool.and_eq_true] at hq
 have h1:=hs.ctx ha rfl rfl (cleanE_get hq.1) (cleanH_get hq.2)
 have same:∀ nm b',getH st.heap nm=some b'→(C.set n D).dat nm=C.dat nm:=fun nm b' h=>ha.dat nm (cleanH_get hq.2 nm b' h).1
 have h2:HSim (C.set n D) st.heap w':=h1.toHSim.world hg fun k hk=>by
  obtain ⟨x,y,z⟩:=hr k hk
  refine ⟨x,fun nm b' h hreal=>?_,z⟩
  unfold Ctx.real Ctx.loc at *
  rw [same nm b' h] at *
  exact y nm b' h hreal
 refine ⟨hs.withH (h2.setBlk hb fun hreal=>?_) h1.env,ha⟩
 unfold Ctx.real Ctx.loc at *
 rw [Ctx.set_dat] at *
 obtain ⟨x,y⟩:=hD hreal
 refine ⟨fun nm b' _ h hr'=>?_,y⟩
 rw [same nm b' h] at *
 exact x nm b' h hr'
theorem lt_old [Glob] (hs:Sim C nt st a w):(∀ nm b',getH st.heap nm=some b'→C.real nm=true→(C.loc nm).1 ≠ w.heap.size)∧(∀ a v,C.mem a=some v→a.block ≠ w.heap.size)∧¬ C.fr w.heap.size :=
 ⟨fun nm b' h hr=>Nat.ne_of_lt ((hs.blk nm b' h).room hr).2.1,fun a v h=>Nat.ne_of_lt (hs.mem a v h).2.1,fun h=>by
  have h1:=(hs.frame _ h).1
  have h2:=hs.kept.size
  omega⟩
theorem newBlk {C:Ctx} {n:Nm} {cs:Array Value} {e:TypeId} {b:Blk} {width room:Nat} (hd:C.dat n=⟨true,(w.heap.size,0),width,b.xs.length,room⟩) (hbase:C.base≤w.heap.size)
  (hw:b.box=false→width=b.tys.length) (hbox:b.box=true→b.xs.length=1) (hmax:b.xs.length≤maxLen) (hlen:b.xs.length≤room) (hroom:room*width≤cs.size)
  (hc:∀ i x,b.xs[i]?=some x→x.cells.length=width∧∀ j c,x.cells[j]?=some c→∃ u,cs[i*width+j]?=some u∧cellR C b j c u):BlkR C (w.alloc (.cells cs e)) n b:=by
 have hcell:∀ o,(w.alloc (.cells cs e)).cell? ⟨w.heap.size,o,none⟩=cs[o]?:=fun o=>World.cell?_alloc_at cs e _ _ rfl
 refine ⟨hmax,by unfold Ctx.len;rw [hd],by unfold Ctx.width;rw [hd];exact hw,by unfold Ctx.real;rw [hd];exact fun h=>⟨hbox h,rfl⟩,by unfold Ctx.real;rw [hd];exact (fun h=>by cases h),?_,?_,fun _ _ o=>by unfold Ctx.loc;rw [hd];exact World.frozen?_alloc_at cs e _ _ rfl⟩
 ·intro i x hx
  obtain ⟨h1,h2⟩:=hc i x hx
  refine ⟨by unfold Ctx.width;rw [hd];exact h1,fun j c hj=>?_⟩
  obtain ⟨u,h3,h4⟩:=h2 j c hj
  refine ⟨u,?_,h4⟩
  unfold Ctx.at Ctx.loc Ctx.width at_
  rw [hd]
  simp only [Nat.zero_add]
  rw [hcell]
  exact h3
 ·intro _
  unfold Ctx.loc Ctx.room Ctx.width
  rw [hd]
  refine ⟨hbase,by simp,hlen,fun o (ho:o<room*width)=>?_⟩
  simp only [Nat.zero_add]
  rw [hcell]
  refine ⟨?_,World.frozen?_alloc_at cs e _ _ rfl⟩
  rw [Array.getElem?_eq_getElem (by omega)]
  rfl
theorem zero_spec {t:TypeId} {z:AV} (h:zeroA P t=some z):∃ zv i,z=ofVal zv∧P.info? t=some i∧i.zero=some zv:=by
 unfold zeroA at h
 obtain ⟨zv,hzv,rfl⟩:=Option.map_eq_some_iff.1 h
 obtain ⟨it,hit,hzero⟩:=Option.bind_eq_some_iff.1 hzv
 exact ⟨zv,it,rfl,hit,hzero⟩
theorem run_zero {t:TypeId} {i:TypeInfo} {zv:Value} (h:P.info? t=some i) (hz:i.zero=some zv):(zeroValue t).run P w = .ok zv w:=by
 unfold zeroValue
 rw [run_bind' (run_typeInfo h)]
 simp only [hz]
 rfl
theorem run_newVar (t:TypeId) (v:Value):(newVar t v).run P w = .ok ⟨w.heap.size,0,none⟩ (w.alloc (.cells v.cells t)):=rfl
def Eff [Glob] (P:Program) (π:Nm) (C:Ctx) (nt:Nat) (o:Oper) (a:Act) (w:World) (st':St):Prop :=
 ∃ C' n u w',(execOp a.eval o).run P w = .ok n w'∧(n = .value u∨n = .skip∧u=undef)∧Agree (isLoc π) C C'∧Sim C' nt st' (a.put o.dst u) w'
theorem clean_men {q:Nm} (h:cleanS q st=true) (x:Operand):menV (under q) (opA st.env x)=false:=by
 unfold cleanS at h
 rw [Bool.and_eq_true] at h
 cases x with
 | tmp t=>exact cleanE_get h.1 t
 | const v =>
  show menV _ (ofVal v)=false
  have one:∀ u,menC (under q) (ofVal1 u)=false:=fun u=>by unfold ofVal1;split <;> rfl
  have oneW:∀ u,menW (under q) (ofVal1 u)=false:=fun u=>by unfold ofVal1;split <;> rfl
  unfold ofVal
  split
  ·rename_i cells
   cases cells.toList.all fun v=>match v with | .agg _ | .tuple _=>false|_=>true with
   | true =>
    simp only [cond_true,menV,List.any_eq_false]
    intro c hc
    obtain ⟨u,_,rfl⟩:=List.mem_map.1 hc
    simp [one]
   | false=>rfl
  ·simp only [menV,List.any_eq_false]
   intro c hc
   obtain ⟨u,_,rfl⟩:=List.mem_map.1 hc
   simp [oneW]
  ·exact menC_menV (one v)
 | global _=>rfl
 | func f=>rfl
theorem box_new [Glob] {o:Oper} {d:Nat} {π:Nm} {x:AV} {u:Value} {t:TypeId} (hd:d<nt) (ho:o.dst=some d) (hs:Sim C nt st a w) (hx:VR C x u) (hok:okV x=true) (hm:menV (under (d :: π)) x=false)
  (hq:cleanS (d :: π) st=true) (hr:(execOp a.eval o).run P w = .ok (.value (.pointer (some ⟨w.heap.size,0,none⟩))) (w.alloc (.cells u.cells t))) :
  Eff P π C nt o a w ⟨setE st.env d (.ptr (1 :: d :: π) 0 0),setH st.heap (1 :: d :: π) ⟨true,[],[x]⟩⟩:=by
 have D:Dat:=⟨true,(w.heap.size,0),x.cells.length,1,1⟩
 have ha:Agree (under (d :: π)) C (C.set (1 :: d :: π) ⟨true,(w.heap.size,0),x.cells.length,1,1⟩):=Ctx.set_agree C _ (under_new d π)
 have hc:=okV_cells (hx.move ha hm) hok
 have hb:BlkR (C.set (1 :: d :: π) ⟨true,(w.heap.size,0),x.cells.length,1,1⟩) (w.alloc (.cells u.cells t)) (1 :: d :: π) ⟨true,[],[x]⟩:=by
  refine newBlk (by rw [Ctx.set_dat];rfl) hs.grown (fun h=>by cases h) (fun _=>rfl) (by simp [maxLen]) (Nat.le_refl 1) (by rw [hc.size];omega) ?_
  intro i y hy
  cases i with
  | succ i=>simp at hy
  | zero =>
   simp only [List.getElem?_cons_zero,Option.some.injEq] at hy
   subst hy
   refine ⟨rfl,fun j c hj=>?_⟩
   have hlt:j<u.cells.size:=by rw [← hc.size];exact (List.getElem?_eq_some_iff.1 hj).1
   have hu:u.cells[j]?=some u.cells[j]:=Array.getElem?_eq_getElem hlt
   refine ⟨u.cells[j],by simp,hc.one j _ hu,?_⟩
   simp only [if_true]
   exact hc.get j c _ hj hu
 obtain ⟨h1,h2⟩:=hs.new (r:=none) hq (under_new d π) (World.grownBy_alloc w _ none) (fun k h=>by cases h) hb fun _=>lt_old hs
 refine ⟨_,_,_,_,hr,.inl rfl,h2.mono fun nm h=>under_isLoc h,?_⟩
 rw [ho]
 refine h1.put ?_ hd
 have:(⟨w.heap.size,0,none⟩:Addr)=(C.set (1 :: d :: π) ⟨true,(w.heap.size,0),x.cells.length,1,1⟩).at (1 :: d :: π) 0 0:=by
  unfold Ctx.at Ctx.loc Ctx.width at_
  rw [Ctx.set_dat]
  simp
 rw [this]
 exact .ptr _ 0 0 (by unfold Ctx.real;rw [Ctx.set_dat]) (by unfold Ctx.len;rw [Ctx.set_dat];exact Nat.one_pos)
theorem ofVal_men (q:Nm) (v:Value):menV (under q) (ofVal v)=false:=by
 have:=clean_men (st:=⟨[],[]⟩) (q:=q) rfl (.const v)
 exact this
theorem alloc_eff [Glob] {o:Oper} {d:Nat} {π:Nm} {t:TypeId} {z:AV} (hd:d<nt) (ho:o.dst=some d) (hop:o.op = .alloc t) (hs:Sim C nt st a w) (hz:zeroA P t=some z) (hok:okV z=true)
  (hq:cleanS (d :: π) st=true):Eff P π C nt o a w ⟨setE st.env d (.ptr (1 :: d :: π) 0 0),setH st.heap (1 :: d :: π) ⟨true,[],[z]⟩⟩:=by
 obtain ⟨zv,i,rfl,hi,hzero⟩:=zero_spec hz
 refine box_new (u:=zv) (t:=t) hd ho hs (ofVal_sound zv) hok (ofVal_men _ zv) hq ?_
 unfold execOp
 simp only [hop]
 refine run_v ?_
 unfold Instr.alloc
 rw [run_bind' (run_zero hi hzero)]
 exact run_bind' (run_newVar t zv)
theorem box_eff [Glob] {o:Oper} {d:Nat} {π:Nm} {t:TypeId} {x:Operand} (hd:d<nt) (ho:o.dst=some d) (hop:o.op = .box t x) (hs:Sim C nt st a w) (hok:okV (opA st.env x)=true)
  (hq:cleanS (d :: π) st=true):Eff P π C nt o a w ⟨setE st.env d (.ptr (1 :: d :: π) 0 0),setH st.heap (1 :: d :: π) ⟨true,[],[opA st.env x]⟩⟩:=by
 refine box_new (u:=a.eval x) (t:=t) hd ho hs (opA_sound hs x) hok (clean_men hq x) hq ?_
 unfold execOp
 simp only [hop]
 refine run_v ?_
 unfold Instr.box
 exact run_bind' (run_newVar t _)
theorem VR.grow (hag:Agree (fun _=>false) C C') {c:AV} {v:Value} (h:VR C c v):VR C' c v:=by
 have hd:∀ nm,C'.dat nm=C.dat nm:=fun nm=>hag.dat nm rfl
 have at':∀ nm i j,C'.at nm i j=C.at nm i j:=fun nm i j=>by unfold Ctx.at Ctx.loc Ctx.width;rw [hd]
 have real':∀ nm,C'.real nm=C.real nm:=fun nm=>by unfold Ctx.real;rw [hd]
 have len':∀ nm,C'.len nm=C.len nm:=fun nm=>by unfold Ctx.len;rw [hd]
 have room':∀ nm,C'.room nm=C.room nm:=fun nm=>by unfold Ctx.room;rw [hd]
 induction h with
 | undef v=>exact .undef v
 | bool b=>exact .bool b
 | int k n=>exact .int k n
 | str s=>exact .str s
 | nilp=>exact .nilp
 | nilfn=>exact .nilfn
 | snil=>exact .snil
 | sle b tys ad cap h=>exact .sle b tys ad cap h
 | ptr nm i off hr hi=>rw [← at'];exact .ptr nm i off (by rw [real'];exact hr) (by rw [len'];exact hi)
 | rptr tys x off b o U h1 h2 h3=>exact .rptr tys x off b o U (fun j hj=>hag.mem _ _ (h1 j hj)) h2 fun j ct c ht hc=>(h3 j ct c ht hc).mono hag.mem
 | own nm cap hr h1 h2=>rw [← at',← len'];exact .own nm cap (by rw [real'];exact hr) (by rw [len'];exact h1) (by rw [room'];exact h2)
 | ownNil nm h=>exact .ownNil nm (by rw [len'];exact h)
 | sub nm lo n cap av h1 h2 h3 h4 =>
  refine .sub nm lo n cap av h1 (fun h0=>?_) ?_ (by rw [len'];exact h4)
  ·obtain ⟨g1,g2⟩:=h2 h0
   exact ⟨by rw [real'];exact g1,by rw [at'];exact g2⟩
  ·rcases h3 with ⟨g1,l,g2,g3⟩|g1
   ·exact .inl ⟨by rw [real'];exact g1,l,by rw [at'];exact g2,by rw [room'];exact g3⟩
   ·exact .inr g1
 | sl tys xs v h=>exact .sl tys xs v (h.mono hag.mem)
 | fn f cs vs h1 _ ih=>exact .fn f cs vs h1 ih
 | agg cs vs h1 _ h3 ih=>exact .agg cs vs h1 ih h3
 | tup cs vs h1 _ ih=>exact .tup cs vs h1 ih
noncomputable def Ctx.frz (C:Ctx) (w:World) (nm:Nm):Ctx :=
 if C.real nm=true then { C with mem:=fun a=>if a.block=(C.loc nm).1 then w.cell? a else C.mem a,memF:=fun a=>if a.block=(C.loc nm).1 then w.cell? a else C.memF a } else C
theorem HSim.frz [Glob] {heap:List (Nm × Blk)} {nm:Nm} {b:Blk} (h:HSim C heap w) (hb:getH heap nm=some b):Agree (fun _=>false) C (C.frz w nm)∧HSim (C.frz w nm) (delH heap nm) w:=by
 unfold Ctx.frz
 by_cases hr:C.real nm=true
 ·rw [if_pos hr]
  have away:∀ a v,C.mem a=some v→a.block ≠ (C.loc nm).1:=fun a v hv e=>(h.mem a v hv).2.2 nm b hb hr e.symm
  have hag:Agree (fun _=>false) C { C with mem:=fun a=>if a.block=(C.loc nm).1 then w.cell? a else C.mem a,memF:=fun a=>if a.block=(C.loc nm).1 then w.cell? a else C.memF a }:=by
   refine ⟨rfl,rfl,fun a v hv=>?_,fun a v hv=>?_,fun a v hv hn=>?_,fun _ _=>rfl,rfl,fun a v hv=>?_⟩
   rotate_right
   ·simp only at hv ⊢
    split at hv
    ·rename_i e
     rw [if_pos e]
     exact .inr ⟨hv,fun hf=>(h.frame _ hf).2.2 nm b hb hr e.symm⟩
    ·exact .inl hv
   ·simp only;rw [if_neg (away a v hv)];exact hv
   ·simp only;rw [if_neg (away a v (h.own a v hv).1)];exact hv
   ·simp only;rw [if_neg (away a v hv)];exact hn
  refine ⟨hag,?_⟩
  have hd:=h.del nm
  obtain ⟨r1,r2,r3,r4⟩:=(h.blk nm b hb).room hr
  refine ⟨fun n b1 hn=>?_,fun n b1 n' b2 g1 g2=>hd.apart n b1 n' b2 g1 g2,fun a v hv=>?_,hd.grown,hd.kept,fun a v hv hn=>?_,fun a v hv=>?_,hd.glob,hd.frame⟩
  ·have B:=hd.blk n b1 hn
   refine ⟨B.max,B.len,B.width,B.box,B.nilb,fun i x hx=>?_,B.room,B.froz⟩
   obtain ⟨g1,g2⟩:=B.cells i x hx
   refine ⟨g1,fun j c hj=>?_⟩
   obtain ⟨u,g3,g4,g5⟩:=g2 j c hj
   refine ⟨u,g3,g4,?_⟩
   cases hbx:b1.box with
   | true =>
    rw [hbx] at g5
    simp only [if_true] at g5 ⊢
    exact g5.grow hag
   | false =>
    rw [hbx] at g5
    simp only [Bool.false_eq_true,if_false] at g5 ⊢
    obtain ⟨ct,k1,k2⟩:=g5
    exact ⟨ct,k1,k2.mono hag.memF⟩
  ·simp only at hv
   split at hv
   ·rename_i e
    refine ⟨hv,by rw [e];exact r2,fun n b1 hn hrn=>?_⟩
    rw [getH_delH] at hn
    split at hn
    ·cases hn
    ·rename_i hne
     rw [e]
     exact h.apart n b1 nm b hn hb hrn hr fun e'=>hne e'.symm
   ·exact hd.mem a v hv
  ·simp only at hv hn
   split at hv
   ·rename_i e
    rw [if_pos e,hv] at hn
    cases hn
   ·rename_i e
    rw [if_neg e] at hn
    exact hd.blk0 a v hv hn
  ·simp only at hv ⊢
   split at hv
   ·rename_i e
    rw [if_pos e,e]
    exact ⟨hv,r1⟩
   ·rename_i e
    rw [if_neg e]
    exact hd.own a v hv
 ·rw [if_neg hr]
  exact ⟨Agree.refl _ _,h.del nm⟩
theorem frz_val [Glob] {heap:List (Nm × Blk)} {nm:Nm} {b:Blk} {u:Value} (h:HSim C heap w) (hb:getH heap nm=some b) (hbox:b.box=false) (hf:b.tys.all flatCT=true) (hv:VR C (.own nm) u) :
  VC (C.frz w nm).memF (.sl b.tys) (.sl b.tys b.xs) u:=by
 have B:=h.blk nm b hb
 have hl:=B.len
 cases hv with
 | ownNil _ hz =>
  have:b.xs=[]:=List.eq_nil_of_length_eq_zero (by omega)
  rw [this]
  exact .sl _ [] none 0 (fun _ _=>undef) (Nat.le_refl 0) (by simp) (fun i j hi=>by simp at hi) (fun h0=>by simp at h0) (fun i x hx=>by simp at hx) (fun i x j ct c hx=>by simp at hx)
 | own _ cap hr h1 h2 =>
  rw [hl]
  have hw:=B.width hbox
  have hmF:∀ a,a.block=(C.loc nm).1→(C.frz w nm).memF a=w.cell? a:=fun a e=>by
   unfold Ctx.frz
   rw [if_pos hr]
   simp only
   rw [if_pos e]
  have hat:∀ i j,C.at nm i j=at_ (C.loc nm).1 (C.loc nm).2 b.tys.length i j:=fun i j=>by unfold Ctx.at;rw [hw]
  have hA0:C.at nm 0 0=⟨(C.loc nm).1,(C.loc nm).2,none⟩:=by unfold Ctx.at at_;simp
  rw [hA0]
  refine .sl _ b.xs (some ⟨(C.loc nm).1,(C.loc nm).2,none⟩) cap (fun i j=>(w.cell? (C.at nm i j)).getD undef) (by omega) B.max (fun i j hi hj=>⟨_,_,rfl,?_⟩) (fun _=>⟨_,_,rfl⟩) (fun i x hx=>by rw [(B.cells i x hx).1,hw]) (fun i x j ct c hx ht hc=>?_)
  ·rw [hmF _ rfl,← hat]
   obtain ⟨g1,g2⟩:=B.cells i b.xs[i] (List.getElem?_eq_getElem hi)
   obtain ⟨u,g3,_⟩:=g2 j (b.xs[i].cells[j]'(by rw [g1,hw];exact hj)) (List.getElem?_eq_getElem _)
   rw [g3]
   rfl
  ·obtain ⟨g1,g2⟩:=B.cells i x hx
   obtain ⟨u,g3,g4,g5⟩:=g2 j c hc
   rw [hbox] at g5
   simp only [Bool.false_eq_true,if_false] at g5
   obtain ⟨ct',k1,k2⟩:=g5
   rw [ht] at k1
   obtain rfl:=Option.some.inj k1
   rw [g3,Option.getD_some]
   rw [List.all_eq_true] at hf
   exact k2.flat (hf ct (List.mem_of_getElem? ht))
theorem flat_VC {mem:Addr→Option Value} {t:CT} {c:AV} {u:Value} (h:VR C c u) (hf:flatCT t=true) (hc:confC t c=true):VC mem t c u:=by
 cases t <;> cases c <;> simp only [confC,flatCT,Bool.false_eq_true] at hc hf
 ·rw [kEq_iff] at hc;subst hc;cases h;exact .int _ _
 ·cases h;exact .bool _
 ·cases h;exact .str _
theorem ctsEq_refl:∀ a:List CT,a.all flatCT=true→ctsEq a a=true
 | [],_=>rfl
 | a :: r,h=>by
  simp only [List.all_cons,Bool.and_eq_true] at h
  simp only [ctsEq,Bool.and_eq_true]
  refine ⟨?_,ctsEq_refl r h.2⟩
  cases a with
  | int k=>exact (kEq_iff k k).2 rfl
  | bool=>rfl
  | str=>rfl
  | sl=>cases h.1
  | oth=>cases h.1
  | fnc=>cases h.1
theorem dels_append (l m:List Nm) (h:List (Nm × Blk)):dels (l++m) h=dels m (dels l h):=List.foldl_append
theorem zf1_sound {mem:Addr→Option Value} {t:CT} {c y:AV} {u:Value} (hv:VR C c u) (h:zf1 t c=some y):VC mem t y u:=by
 unfold zf1 at h
 cases hf:flatCT t with
 | true =>
  rw [hf] at h
  simp only [cond_true] at h
  cases hc:confC t c with
  | false=>rw [hc] at h;cases h
  | true =>
   rw [hc] at h
   simp only [cond_true,Option.some.injEq] at h
   subst h
   exact flat_VC hv hf hc
 | false =>
  rw [hf] at h
  simp only [cond_false] at h
  split at h
  ·rename_i e
   cases he:e.all flatCT with
   | false=>rw [he] at h;cases h
   | true =>
    rw [he] at h
    simp only [cond_true,Option.some.injEq] at h
    subst h
    cases hv
    exact .sl _ [] none 0 (fun _ _=>undef) (Nat.le_refl 0) (by simp) (fun i j hi=>by simp at hi) (fun h0=>by simp at h0) (fun i x hx=>by simp at hx) (fun i x j ct c hx=>by simp at hx)
  ·cases h
theorem zfs_sound {mem:Addr→Option Value}:∀ {ts:List CT} {xs ys:List AV} {us:List Value},xs.length=us.length→(∀ (i:Nat) (x:AV) (u:Value),xs[i]?=some x→us[i]?=some u→VR C x u)→zfs ts xs=some ys →
  ys.length=us.length∧ts.length=ys.length∧∀ (j:Nat) (t:CT) (y:AV) (u:Value),ts[j]?=some t→ys[j]?=some y→us[j]?=some u→VC mem t y u
 | [],[],ys,us,hl,hv,h=>by
  simp only [zfs,Option.some.injEq] at h
  subst h
  exact ⟨hl,rfl,fun j t y u h=>by simp at h⟩
 | t :: ts,x :: xs,ys,us,hl,hv,h=>by
  match us,hl with
  | u :: us,hl =>
   unfold zfs at h
   split at h
   ·rename_i y ys' h1 h2
    simp only [Option.some.injEq] at h
    subst h
    obtain ⟨l2,m2,v2⟩:=zfs_sound (mem:=mem) (us:=us) (by simpa using hl) (fun i x u hx hu=>hv (i+1) x u (by simpa using hx) (by simpa using hu)) h2
    refine ⟨by simp [l2],by simp [m2],fun j t' y' u' ht hy hu=>?_⟩
    cases j with
    | zero=>simp at ht hy hu;subst ht;subst hy;subst hu;exact zf1_sound (hv 0 x u rfl rfl) h1
    | succ j=>exact v2 j t' y' u' (by simpa using ht) (by simpa using hy) (by simpa using hu)
   ·cases h
  | [],hl=>simp at hl
 | [],_ :: _,_,_,_,_,h=>by simp [zfs] at h
 | _ :: _,[],_,_,_,_,h=>by simp [zfs] at h
theorem zfV_sound {mem:Addr→Option Value} {ts:List CT} {v v':AV} {u:Value} (hv:VR C v u) (h:zfV ts v=some v') :
  v'.cells.length=ts.length∧u.cells.size=ts.length∧∀ (j:Nat) (t:CT) (y:AV) (x:Value),ts[j]?=some t→v'.cells[j]?=some y→u.cells[j]?=some x→VC mem t y x:=by
 have one:∀ {c:AV},zfo ts c=some v'→VR C c u→v'.cells.length=ts.length∧u.cells.size=ts.length∧∀ (j:Nat) (t:CT) (y:AV) (x:Value),ts[j]?=some t→v'.cells[j]?=some y→u.cells[j]?=some x→VC mem t y x:=by
  intro c h hv
  unfold zfo at h
  split at h
  ·rename_i t _
   have v1:VC mem t v' u:=zf1_sound hv h
   have hc1:v'.cells=[v']:=by cases v1 <;> rfl
   have hu1:u.cells=#[u]:=one_cells v1.oneCell'
   refine ⟨by rw [hc1];rfl,by rw [hu1];rfl,fun j t' y x ht hy hx=>?_⟩
   rw [hc1] at hy
   rw [hu1] at hx
   cases j with
   | zero=>simp at ht hy hx;subst ht;subst hy;subst hx;exact v1
   | succ j=>simp at hy
  ·cases h
 cases v with
 | agg cs =>
  simp only [zfV] at h
  obtain ⟨ys,hc,rfl⟩:=Option.map_eq_some_iff.1 h
  obtain ⟨vs,rfl,k1,k2,k3⟩:=hv.agg_inv
  obtain ⟨l1,m1,v1⟩:=zfs_sound (mem:=mem) k1 k2 hc
  exact ⟨m1.symm,by simp [Value.cells];omega,fun j t y x ht hy hx=>v1 j t y x ht hy (by simpa [Value.cells] using hx)⟩
 | _=>exact one h hv
theorem frzC_sound [Glob] {heap:List (Nm × Blk)} {t:CT} {c y:AV} {l:List Nm} {u:Value} (hs:HSim C heap w) (hv:VR C c u) (h:frzC heap t c=some (y,l)) :
  ∃ C',Agree (fun _=>false) C C'∧HSim C' (dels l heap) w∧VC C'.memF t y u∧confC t y=true:=by
 unfold frzC at h
 cases hf:flatCT t with
 | true =>
  rw [hf] at h
  simp only [cond_true] at h
  cases hc:confC t c with
  | false=>rw [hc] at h;cases h
  | true =>
   rw [hc] at h
   simp only [cond_true,Option.some.injEq,Prod.mk.injEq] at h
   obtain ⟨rfl,rfl⟩:=h
   exact ⟨C,Agree.refl _ _,hs,flat_VC hv hf hc,hc⟩
 | false =>
  rw [hf] at h
  simp only [cond_false] at h
  split at h
  ·rename_i e nm
   split at h
   ·rename_i b hb
    cases hc : !b.box && ctsEq b.tys e && e.all flatCT with
    | false=>rw [hc] at h;cases h
    | true =>
     rw [hc] at h
     simp only [Bool.and_eq_true,Bool.not_eq_true'] at hc
     obtain ⟨⟨h1,h2⟩,h3⟩:=hc
     have h2:=ctsEq_eq _ _ h2
     subst h2
     simp only [cond_true,Option.some.injEq,Prod.mk.injEq] at h
     obtain ⟨rfl,rfl⟩:=h
     obtain ⟨g1,g2⟩:=hs.frz hb
     exact ⟨_,g1,g2,frz_val hs hb h1 h3 hv,ctsEq_refl _ h3⟩
   ·cases h
  ·rename_i e
   cases he:e.all flatCT with
   | false=>rw [he] at h;cases h
   | true =>
   rw [he] at h
   simp only [cond_true,Option.some.injEq,Prod.mk.injEq] at h
   obtain ⟨rfl,rfl⟩:=h
   refine ⟨C,Agree.refl _ _,hs,?_,?_⟩
   ·cases hv
    exact .sl _ [] none 0 (fun _ _=>undef) (Nat.le_refl 0) (by simp) (fun i j hi=>by simp at hi) (fun h0=>by simp at h0) (fun i x hx=>by simp at hx) (fun i x j ct c hx=>by simp at hx)
   ·exact ctsEq_refl e he
  ·cases h
theorem frzCs_sound [Glob]:∀ {ts:List CT} {xs ys:List AV} {ls:List Nm} {us:List Value} {heap:List (Nm × Blk)} {C:Ctx},HSim C heap w→xs.length=us.length→(∀ (i:Nat) (x:AV) (u:Value),xs[i]?=some x→us[i]?=some u→VR C x u)→frzCs heap ts xs=some (ys,ls) →
  ∃ C',Agree (fun _=>false) C C'∧HSim C' (dels ls heap) w∧ys.length=us.length∧ts.length=ys.length∧∀ (j:Nat) (t:CT) (y:AV) (u:Value),ts[j]?=some t→ys[j]?=some y→us[j]?=some u→VC C'.memF t y u∧confC t y=true
 | [],[],ys,ls,us,heap,C,hs,hl,hv,h=>by
  simp only [frzCs,Option.some.injEq,Prod.mk.injEq] at h
  obtain ⟨rfl,rfl⟩:=h
  exact ⟨C,Agree.refl _ _,hs,hl,rfl,fun j t y u h=>by simp at h⟩
 | t :: ts,x :: xs,ys,ls,us,heap,C,hs,hl,hv,h=>by
  match us,hl with
  | u :: us,hl =>
   unfold frzCs at h
   split at h
   ·rename_i y l h1
    split at h
    ·rename_i ys' ls' h2
     simp only [Option.some.injEq,Prod.mk.injEq] at h
     obtain ⟨rfl,rfl⟩:=h
     obtain ⟨C1,a1,s1,v1,c1⟩:=frzC_sound hs (hv 0 x u rfl rfl) h1
     obtain ⟨C2,a2,s2,l2,m2,v2⟩:=frzCs_sound (us:=us) s1 (by simpa using hl) (fun i x u hx hu=>(hv (i+1) x u (by simpa using hx) (by simpa using hu)).grow a1) h2
     refine ⟨C2,a1.trans a2,by rw [dels_append];exact s2,by simp [l2],by simp [m2],fun j t' y' u' ht hy hu=>?_⟩
     cases j with
     | zero =>
      simp at ht hy hu
      subst ht;subst hy;subst hu
      exact ⟨v1.mono a2.memF,c1⟩
     | succ j=>exact v2 j t' y' u' (by simpa using ht) (by simpa using hy) (by simpa using hu)
    ·cases h
   ·cases h
  | [],hl=>simp at hl
 | [],_ :: _,_,_,_,_,_,_,_,_,h=>by simp [frzCs] at h
 | _ :: _,[],_,_,_,_,_,_,_,_,h=>by simp [frzCs] at h
theorem frzV_sound [Glob] {heap:List (Nm × Blk)} {ts:List CT} {v v':AV} {l:List Nm} {u:Value} (hs:HSim C heap w) (hv:VR C v u) (h:frzV heap ts v=some (v',l)) :
  ∃ C',Agree (fun _=>false) C C'∧HSim C' (dels l heap) w∧VR C' v' u∧v'.cells.length=ts.length∧u.cells.size=ts.length ∧
   ∀ (j:Nat) (t:CT) (y:AV) (x:Value),ts[j]?=some t→v'.cells[j]?=some y→u.cells[j]?=some x→VC C'.memF t y x∧confC t y=true:=by
 have one:∀ {c:AV},frz1 heap ts c=some (v',l)→VR C c u→∃ C',Agree (fun _=>false) C C'∧HSim C' (dels l heap) w∧VR C' v' u∧v'.cells.length=ts.length∧u.cells.size=ts.length ∧
   ∀ (j:Nat) (t:CT) (y:AV) (x:Value),ts[j]?=some t→v'.cells[j]?=some y→u.cells[j]?=some x→VC C'.memF t y x∧confC t y=true:=by
  intro c h hv
  unfold frz1 at h
  split at h
  ·rename_i t
   obtain ⟨C',a1,s1,v1,c1⟩:=frzC_sound hs hv h
   have hc1:v'.cells=[v']:=by cases v1 <;> rfl
   have hu1:u.cells=#[u]:=one_cells v1.oneCell'
   have vr:VR C' v' u:=(v1.mono fun a v h=>(s1.own a v h).1).toVR
   refine ⟨C',a1,s1,vr,by rw [hc1];rfl,by rw [hu1];rfl,fun j t' y x ht hy hx=>?_⟩
   rw [hc1] at hy
   rw [hu1] at hx
   cases j with
   | zero=>simp at ht hy hx;subst ht;subst hy;subst hx;exact ⟨v1,c1⟩
   | succ j=>simp at hy
  ·cases h
 cases v with
 | agg cs =>
  simp only [frzV] at h
  split at h
  ·rename_i ys ls hc
   simp only [Option.some.injEq,Prod.mk.injEq] at h
   obtain ⟨rfl,rfl⟩:=h
   obtain ⟨vs,rfl,k1,k2,k3⟩:=hv.agg_inv
   obtain ⟨C',a1,s1,l1,m1,v1⟩:=frzCs_sound hs k1 k2 hc
   refine ⟨C',a1,s1,.agg _ vs l1 (fun i c v hc hv=>?_) k3,m1.symm,by simp [Value.cells];omega,fun j t y x ht hy hx=>v1 j t y x ht hy (by simpa [Value.cells] using hx)⟩
   have hi:i<ys.length:=(List.getElem?_eq_some_iff.1 hc).1
   have ht:ts[i]?=some (ts[i]'(by omega)):=List.getElem?_eq_getElem _
   exact ((v1 i _ c v ht hc hv).1.mono fun a v h=>(s1.own a v h).1).toVR
  ·cases h
 | tup _=>cases h
 | undef=>cases h
 | _=>exact one h hv
theorem frzVs_sound [Glob] {ts:List CT}:∀ {xs ys:List AV} {ls:List Nm} {us:List Value} {heap:List (Nm × Blk)} {C:Ctx},HSim C heap w→xs.length=us.length→(∀ (i:Nat) (x:AV) (u:Value),xs[i]?=some x→us[i]?=some u→VR C x u)→frzVs heap ts xs=some (ys,ls) →
  ∃ C',Agree (fun _=>false) C C'∧HSim C' (dels ls heap) w∧ys.length=us.length∧∀ (k:Nat) (y:AV) (u:Value),ys[k]?=some y→us[k]?=some u→y.cells.length=ts.length∧u.cells.size=ts.length ∧
   ∀ (j:Nat) (t:CT) (c:AV) (x:Value),ts[j]?=some t→y.cells[j]?=some c→u.cells[j]?=some x→VC C'.memF t c x
 | [],ys,ls,us,heap,C,hs,hl,hv,h=>by
  simp only [frzVs,Option.some.injEq,Prod.mk.injEq] at h
  obtain ⟨rfl,rfl⟩:=h
  exact ⟨C,Agree.refl _ _,hs,hl,fun j y u h=>by simp at h⟩
 | x :: xs,ys,ls,us,heap,C,hs,hl,hv,h=>by
  match us,hl with
  | u :: us,hl =>
   unfold frzVs at h
   split at h
   ·rename_i y l h1
    split at h
    ·rename_i ys' ls' h2
     simp only [Option.some.injEq,Prod.mk.injEq] at h
     obtain ⟨rfl,rfl⟩:=h
     obtain ⟨C1,a1,s1,_,n1,m1,v1⟩:=frzV_sound hs (hv 0 x u rfl rfl) h1
     obtain ⟨C2,a2,s2,l2,v2⟩:=frzVs_sound (us:=us) s1 (by simpa using hl) (fun i x u hx hu=>(hv (i+1) x u (by simpa using hx) (by simpa using hu)).grow a1) h2
     refine ⟨C2,a1.trans a2,by rw [dels_append];exact s2,by simp [l2],fun k y' u' hy hu=>?_⟩
     cases k with
     | zero =>
      simp at hy hu
      subst hy;subst hu
      exact ⟨n1,m1,fun j t c x ht hc hx=>((v1 j t c x ht hc hx).1).mono a2.memF⟩
     | succ k=>exact v2 k y' u' (by simpa using hy) (by simpa using hu)
    ·cases h
   ·cases h
  | [],hl=>simp at hl
theorem cleanH_del {q:Nm} {heap:List (Nm × Blk)} (h:cleanH q heap=true) (n:Nm):cleanH q (delH heap n)=true:=by
 induction heap with
 | nil=>rfl
 | cons x r ih =>
  obtain ⟨m,b⟩:=x
  simp only [cleanH,List.all_cons,Bool.and_eq_true] at h
  unfold delH
  cases hb:nmEq m n with
  | true=>simp only [cond_true];exact ih h.2
  | false =>
   simp only [cond_false,cleanH,List.all_cons,Bool.and_eq_true]
   exact ⟨h.1,ih h.2⟩
theorem cleanH_dels {q:Nm}:∀ (l:List Nm) {heap:List (Nm × Blk)},cleanH q heap=true→cleanH q (dels l heap)=true
 | [],_,h=>h
 | n :: l,_,h=>cleanH_dels l (cleanH_del h n)
theorem cleanS_dels {q:Nm} (l:List Nm) (h:cleanS q st=true):cleanS q ⟨st.env,dels l st.heap⟩=true:=by
 unfold cleanS at h ⊢
 rw [Bool.and_eq_true] at h ⊢
 exact ⟨h.1,cleanH_dels l h.2⟩
theorem Sim.frz [Glob] {l:List Nm} (hs:Sim C nt st a w) (ha:Agree (fun _=>false) C C') (hh:HSim C' (dels l st.heap) w):Sim C' nt ⟨st.env,dels l st.heap⟩ a w :=
 hs.withH hh fun t=>(hs.env t).grow ha
theorem Wr.on_gone (es:List (Nat × AV)) (x:List (Nm × Option Blk)):∀ (l:List Nm) (st:St),Wr.on ⟨es,gone l++x⟩ st=Wr.on ⟨es,x⟩ ⟨st.env,dels l st.heap⟩
 | [],_=>rfl
 | n :: l,st=>Wr.on_gone es x l ⟨st.env,delH st.heap n⟩
theorem getH_dels:∀ (l:List Nm) (heap:List (Nm × Blk)) (n:Nm),l.any (nmEq n)=false→getH (dels l heap) n=getH heap n
 | [],_,_,_=>rfl
 | m :: l,heap,n,h=>by
  simp only [List.any_cons,Bool.or_eq_false_iff] at h
  show getH (dels l (delH heap m)) n=_
  rw [getH_dels l _ n h.2,getH_delH,if_neg]
  intro e
  rw [e,nmEq_refl] at h
  cases h.1
end
end Go.Proofs.VE

namespace Go.Proofs.VE
open Go
section
variable {P:Program} {C C':Ctx} {nt:Nat} {st:St} {a:Act} {w w':World}
theorem BlkR.written {nm n:Nm} {b b':Blk} {k:Nat} {us:List Value} (hB:BlkR C w nm b) (hreal:C.real nm=true) (hd:C'.dat n={ C.dat nm with len:=b'.xs.length }) (hbase:C'.base=C.base)
  (hk:k+us.length≤C.room nm*C.width nm) (hty:b'.box=false→C.width nm=b'.tys.length) (hmax:b'.xs.length≤maxLen) (hl:b'.xs.length≤C.room nm) (hbx:b'.box=true→b'.xs.length=1)
  (hc:∀ i x,b'.xs[i]?=some x→x.cells.length=C.width nm∧∀ j c,x.cells[j]?=some c→∃ u,(if k≤i*C.width nm+j∧i*C.width nm+j<k+us.length then us[i*C.width nm+j - k]?=some u else w.cell? (C.at nm i j)=some u)∧cellR C' b' j c u) :
  BlkR C' (w.setCells (C.loc nm).1 ((C.loc nm).2+k) us) n b':=by
 obtain ⟨r1,r2,r3,r4⟩:=hB.room hreal
 have some_:∀ j,j<us.length→(w.cell? ⟨(C.loc nm).1,(C.loc nm).2+k+j,none⟩).isSome=true:=fun j hj=>by
  have:=(r4 (k+j) (by omega)).1
  rwa [show (C.loc nm).2+(k+j)=(C.loc nm).2+k+j by omega] at this
 have inn:∀ o,k≤o→o<k+us.length→(w.setCells (C.loc nm).1 ((C.loc nm).2+k) us).cell? ⟨(C.loc nm).1,(C.loc nm).2+o,none⟩=us[o - k]?:=fun o h1 h2=>by
  have:=World.cell?_setCells_in (C.loc nm).1 us ((C.loc nm).2+k) w some_ (o - k) (by omega)
  rw [show (C.loc nm).2+k+(o - k)=(C.loc nm).2+o by omega] at this
  rw [this,List.getElem?_eq_getElem (by omega)]
 have out:∀ o,¬ (k≤o∧o<k+us.length)→(w.setCells (C.loc nm).1 ((C.loc nm).2+k) us).cell? ⟨(C.loc nm).1,(C.loc nm).2+o,none⟩=w.cell? ⟨(C.loc nm).1,(C.loc nm).2+o,none⟩:=fun o h=>by
  refine World.cell?_setCells_out _ us _ w _ fun _ _=>?_
  simp only
  omega
 have hloc:C'.loc n=C.loc nm:=by unfold Ctx.loc;rw [hd]
 have hwid:C'.width n=C.width nm:=by unfold Ctx.width;rw [hd]
 have hroom:C'.room n=C.room nm:=by unfold Ctx.room;rw [hd]
 have hrl:C'.real n=true:=by unfold Ctx.real;rw [hd];exact hreal
 have hsz:(w.setCells (C.loc nm).1 ((C.loc nm).2+k) us).heap.size=w.heap.size:=by
  have:∀ (us:List Value) (o:Nat) (w:World),(w.setCells (C.loc nm).1 o us).heap.size=w.heap.size:=by
   intro us
   induction us with
   | nil=>intro o w;rfl
   | cons u us ih=>intro o w;rw [World.setCells,ih];simp [World.setCell]
  exact this us _ w
 refine ⟨hmax,by unfold Ctx.len;rw [hd],by rw [hwid];exact hty,fun h=>⟨hbx h,hrl⟩,(fun h=>by rw [hrl] at h;cases h),?_,?_,fun _ h0 o=>by rw [World.frozen?_setCells,hloc];exact hB.froz hreal (by rw [← hroom,← hwid];exact h0) o⟩
 ·intro i x hx
  obtain ⟨h1,h2⟩:=hc i x hx
  refine ⟨by rw [hwid];exact h1,fun j c hj=>?_⟩
  obtain ⟨u,h3,h4⟩:=h2 j c hj
  refine ⟨u,?_,h4⟩
  unfold Ctx.at at_
  rw [hloc,hwid,Nat.add_assoc]
  by_cases hin:k≤i*C.width nm+j∧i*C.width nm+j<k+us.length
  ·rw [if_pos hin] at h3
   rw [inn _ hin.1 hin.2]
   exact h3
  ·rw [if_neg hin] at h3
   rw [out _ hin]
   unfold Ctx.at at_ at h3
   rw [Nat.add_assoc] at h3
   exact h3
 ·intro _
  rw [hloc,hwid,hroom,hbase,hsz]
  refine ⟨r1,r2,hl,fun o ho=>?_⟩
  rw [World.frozen?_setCells]
  refine ⟨?_,(r4 o ho).2⟩
  by_cases hin:k≤o∧o<k+us.length
  ·rw [inn _ hin.1 hin.2,List.getElem?_eq_getElem (by omega)]
   rfl
  ·rw [out _ hin]
   exact (r4 o ho).1
theorem grownBy_setCells (w:World) (b o:Nat) (us:List Value):w.grownBy (w.setCells b o us) (some b):=by
 induction us generalizing o w with
 | nil=>exact ⟨rfl,rfl,rfl,Nat.le_refl _,fun _ _ _=>rfl⟩
 | cons u us ih =>
  have h:=ih (w.setCell ⟨b,o,none⟩ u) (o+1)
  refine ⟨h.os,h.tape,h.output,Nat.le_trans (by simp [World.setCell]) h.size,fun k hk hne=>?_⟩
  rw [World.setCells,h.block k (by simpa [World.setCell] using hk) hne]
  exact RowKit.Below.heap_setCell w _ u k fun e=>hne (by simp [e])
theorem confCs_get:∀ {ts:List CT} {xs:List AV},confCs ts xs=true→ts.length=xs.length∧∀ (j:Nat) (t:CT) (x:AV),ts[j]?=some t→xs[j]?=some x→confC t x=true
 | [],[],_=>⟨rfl,fun j t x h=>by simp at h⟩
 | [],_ :: _,h=>by simp [confCs] at h
 | _ :: _,[],h=>by simp [confCs] at h
 | t :: ts,x :: xs,h=>by
  simp only [confCs,Bool.and_eq_true] at h
  obtain ⟨h1,h2⟩:=confCs_get h.2
  refine ⟨by simp [h1],fun j t' x' ht hx=>?_⟩
  cases j with
  | zero=>simp at ht hx;rw [← ht,← hx];exact h.1
  | succ j=>exact h2 j t' x' (by simpa using ht) (by simpa using hx)
theorem projs_self {nm:Nm} {b:Blk} {i:Nat} {x:AV} (hB:BlkR C w nm b) (hbox:b.box=false) (hx:b.xs[i]?=some x):projs x 0 b.tys=x.cells:=by
 obtain ⟨h1,h2⟩:=hB.cells i x hx
 have hw:=hB.width hbox
 apply List.ext_getElem?
 intro j
 rw [projs_get]
 cases hc:x.cells[j]? with
 | none =>
  have:b.tys[j]?=none:=by
   rw [List.getElem?_eq_none_iff] at hc ⊢
   omega
  rw [this]
  rfl
 | some c =>
  obtain ⟨u,_,_,h4⟩:=h2 j c hc
  rw [hbox] at h4
  simp only [Bool.false_eq_true,if_false] at h4
  obtain ⟨ct,h5,h6⟩:=h4
  rw [h5]
  simp only [Option.map_some,Nat.zero_add]
  rw [proj_sound hc h6]
theorem store_blk {nm:Nm} {b b':Blk} {i off n:Nat} {v:AV} {u:Value} (hB:BlkR C w nm b) (hreal:C.real nm=true) (hi:i<b.xs.length) (hv:VR C v u) (h:storeA b i off n v=some b')
  (hvF:b.box=false→∀ (j:Nat) (t:CT) (y:AV) (x:Value),((b.tys.drop off).take n)[j]?=some t→v.cells[j]?=some y→u.cells[j]?=some x→VC C.memF t y x) :
  u.cells.size=n∧i*C.width nm+off+u.cells.size≤C.room nm*C.width nm∧(∀ x ∈ u.cells.toList,x.oneCell'=true)∧BlkR C (w.setCells (C.loc nm).1 ((C.loc nm).2+(i*C.width nm+off)) u.cells.toList) nm b':=by
 obtain ⟨r1,r2,r3,r4⟩:=hB.room hreal
 unfold storeA at h
 cases hg : !(okV v && Nat.beq v.cells.length n) with
 | true=>rw [hg] at h;simp at h
 | false =>
 rw [hg] at h
 simp only [Bool.not_eq_false',Bool.and_eq_true] at hg
 simp only [cond_false] at h
 have hn:=Nat.eq_of_beq_eq_true hg.2
 have hc:=okV_cells hv hg.1
 have hsz:=hc.size
 have one:∀ x ∈ u.cells.toList,x.oneCell'=true:=fun x hx=>by
  obtain ⟨j,hj⟩:=List.getElem?_of_mem hx
  exact hc.one j x (by simpa using hj)
 have key:∀ (x x':AV) (b1:Blk),b.xs[i]?=some x→b1.box=b.box→b1.tys=b.tys→b1.xs=b.xs.set i x'→off+v.cells.length≤x.cells.length→x'.cells=layAt x.cells off v.cells →
   (∀ j c x,off≤j→v.cells[j - off]?=some c→u.cells[j - off]?=some x→VR C c x→x.oneCell'=true→cellR C b1 j c x) →
   i*C.width nm+off+u.cells.size≤C.room nm*C.width nm∧BlkR C (w.setCells (C.loc nm).1 ((C.loc nm).2+(i*C.width nm+off)) u.cells.toList) nm b1:=by
  intro x x' b1 hx e1 e2 e3 hfit hlay hnew
  have hxw:=(hB.cells i x hx).1
  have hlen:b1.xs.length=b.xs.length:=by rw [e3,List.length_set]
  have hwle:(i+1)*C.width nm≤C.room nm*C.width nm:=Nat.mul_le_mul_right _ (by omega)
  rw [Nat.add_mul,Nat.one_mul] at hwle
  refine ⟨by omega,?_⟩
  refine hB.written hreal (C':=C) ?_ rfl (by simp only [Array.length_toList];omega) (fun hb=>by rw [e2];exact hB.width (e1 ▸ hb)) (by rw [hlen];exact hB.max) (by omega) (fun hb=>by rw [hlen];exact (hB.box (e1 ▸ hb)).1) ?_
  ·rw [hlen,← hB.len]
  ·intro i' y hy
   have keep:∀ j c u,cellR C b j c u→cellR C b1 j c u:=fun j c u h=>by unfold cellR at h ⊢;rw [e1,e2];exact h
   by_cases hii:i=i'
   ·subst hii
    rw [e3,List.getElem?_set_self hi] at hy
    ·simp only [Option.some.injEq] at hy
     subst hy
     rw [hlay]
     refine ⟨by rw [layAt_length _ _ _ hfit];exact hxw,fun j c hj=>?_⟩
     rw [layAt_get _ _ _ _ hfit] at hj
     by_cases hin:off≤j∧j<off+v.cells.length
     ·rw [if_pos hin] at hj
      have hlt:j - off<u.cells.size:=by rw [← hsz];exact (List.getElem?_eq_some_iff.1 hj).1
      have hu:u.cells[j - off]?=some u.cells[j - off]:=Array.getElem?_eq_getElem hlt
      refine ⟨u.cells[j - off],?_,hnew j c _ hin.1 hj hu (hc.get _ _ _ hj hu) (hc.one _ _ hu)⟩
      rw [if_pos (by simp only [Array.length_toList];omega)]
      rw [show i*C.width nm+j - (i*C.width nm+off)=j - off by omega]
      simp
     ·rw [if_neg hin] at hj
      obtain ⟨u',h3,h4⟩:=(hB.cells i x hx).2 j c hj
      refine ⟨u',?_,keep j c u' h4⟩
      rw [if_neg (by simp only [Array.length_toList];omega)]
      exact h3
   ·rw [e3,List.getElem?_set_ne hii] at hy
    obtain ⟨h1,h2⟩:=hB.cells i' y hy
    refine ⟨h1,fun j c hj=>?_⟩
    obtain ⟨u',h3,h4⟩:=h2 j c hj
    refine ⟨u',?_,keep j c u' h4⟩
    have hjl:j<C.width nm:=by rw [← h1];exact (List.getElem?_eq_some_iff.1 hj).1
    rw [if_neg ?_]
    ·exact h3
    ·simp only [Array.length_toList]
     rintro ⟨g1,g2⟩
     rcases Nat.lt_or_gt_of_ne hii with hlt|hgt
     ·have:(i+1)*C.width nm≤i'*C.width nm:=Nat.mul_le_mul_right _ hlt
      rw [Nat.add_mul,Nat.one_mul] at this
      omega
     ·have:(i'+1)*C.width nm≤i*C.width nm:=Nat.mul_le_mul_right _ hgt
      rw [Nat.add_mul,Nat.one_mul] at this
      omega
 cases hbox:b.box with
 | true =>
  rw [hbox] at h
  simp only [cond_true] at h
  cases hi0:Nat.beq i 0 with
  | false=>rw [hi0] at h;simp at h
  | true =>
   rw [hi0] at h
   have hi0:=Nat.eq_of_beq_eq_true hi0
   subst hi0
   simp only [cond_true] at h
   have newR:∀ b1:Blk,b1.box=b.box→∀ j c x,off≤j→v.cells[j - off]?=some c→u.cells[j - off]?=some x→VR C c x→x.oneCell'=true→cellR C b1 j c x:=fun b1 e j c x _ _ _ hcu h1=>by
    unfold cellR;rw [e,hbox];exact ⟨h1,by simpa using hcu⟩
   split at h
   ·rename_i cs hxs
    cases hle:Nat.ble (off+n) cs.length with
    | false=>rw [hle] at h;simp at h
    | true =>
     rw [hle] at h
     simp only [cond_true,Option.some.injEq] at h
     have hle:=Nat.le_of_ble_eq_true hle
     subst h
     obtain ⟨k1,k2⟩:=key (.agg cs) (.agg (layAt cs off v.cells)) ⟨true,b.tys,[.agg (layAt cs off v.cells)]⟩ (by rw [hxs];rfl) hbox.symm rfl (by rw [hxs];rfl) (by simp only [AV.cells] at *;omega) rfl (newR _ hbox.symm)
     exact ⟨by omega,k1,one,k2⟩
   ·cases h
   ·rename_i x hx1 hx2 hxs
    cases hle:Nat.beq off 0 && Nat.beq n 1 with
    | false=>rw [hle] at h;simp at h
    | true =>
     rw [hle] at h
     simp only [Bool.and_eq_true] at hle
     have e1:=Nat.eq_of_beq_eq_true hle.1
     have e2:=Nat.eq_of_beq_eq_true hle.2
     subst e1
     simp only [cond_true] at h
     have hxc:x.cells=[x]:=by cases x <;> first|rfl|exact absurd rfl (hx1 _)
     have hvc:v.cells=[v]∧b'=⟨true,b.tys,[v]⟩:=by
      split at h
      ·cases h
      ·cases h
      ·rename_i h3 h4
       refine ⟨?_,(Option.some.inj h).symm⟩
       cases v <;> first|rfl|exact absurd rfl (h3 _)
     obtain ⟨hvc,rfl⟩:=hvc
     obtain ⟨k1,k2⟩:=key x v ⟨true,b.tys,[v]⟩ (by rw [hxs];rfl) hbox.symm rfl (by rw [hxs];rfl) (by rw [hxc,hvc];simp) (by rw [hxc,hvc];rfl) (newR _ hbox.symm)
     exact ⟨by omega,k1,one,k2⟩
   ·cases h
 | false =>
  rw [hbox] at h
  simp only [cond_false] at h
  cases hle:Nat.ble (off+n) b.tys.length && confCs ((b.tys.drop off).take n) v.cells with
  | false=>rw [hle] at h;simp at h
  | true =>
   rw [hle] at h
   simp only [Bool.and_eq_true] at hle
   simp only [cond_true,Option.some.injEq] at h
   subst h
   have hfit:=Nat.le_of_ble_eq_true hle.1
   obtain ⟨g1,g2⟩:=confCs_get hle.2
   have hx:b.xs[i]?=some b.xs[i]:=List.getElem?_eq_getElem hi
   have hps:=projs_self hB hbox hx
   have hD:b.xs.getD i .undef=b.xs[i]:=by simp [hi]
   rw [hD,hps]
   have hw:=hB.width hbox
   have hxw:=(hB.cells i _ hx).1
   obtain ⟨k1,k2⟩:=key b.xs[i] (.agg (layAt b.xs[i].cells off v.cells)) ⟨false,b.tys,b.xs.set i (.agg (layAt b.xs[i].cells off v.cells))⟩ hx hbox.symm rfl rfl (by omega) rfl (fun j c x hj hcj hxj hcu h1=>by
    unfold cellR
    simp only [Bool.false_eq_true,if_false]
    have hlt:j - off<v.cells.length:=(List.getElem?_eq_some_iff.1 hcj).1
    have htj:b.tys[j]?=some (b.tys[j]'(by omega)):=List.getElem?_eq_getElem (by omega)
    refine ⟨h1,_,htj,hvF hbox (j - off) _ _ _ ?_ hcj hxj⟩
    rw [List.getElem?_take_of_lt (by omega),List.getElem?_drop,show off+(j - off)=j by omega]
    exact htj)
   exact ⟨by omega,k1,one,k2⟩
theorem store_eff [Glob] {o:Oper} {π:Nm} {t:TypeId} {x y:Operand} {nm:Nm} {i off:Nat} {b b':Blk} (hd:∀ d,o.dst=some d→d<nt) (hop:o.op = .store t x y) (hs:Sim C nt st a w)
  (hx:opA st.env x = .ptr nm i off) (hb:getH st.heap nm=some b) {v:AV} (hv:VR C v (a.eval y)) (h:storeA b i off (P.cellsOf t) v=some b') (hc:P.cellsOf t ≠ 0)
  (hvF:b.box=false→∀ (j:Nat) (ct:CT) (z:AV) (x:Value),((b.tys.drop off).take (P.cellsOf t))[j]?=some ct→v.cells[j]?=some z→(a.eval y).cells[j]?=some x→VC C.memF ct z x) :
  Eff P π C nt o a w (St.set ⟨st.env,setH st.heap nm b'⟩ o.dst (.tup [])):=by
 have hp:=opA_sound hs x
 rw [hx] at hp
 generalize ha:a.eval x=ux at hp
 cases hp with
 | ptr _ _ _ hr hi =>
  have hB:=hs.blk nm b hb
  have hlen:=hB.len
  obtain ⟨h1,h2,h3,h4⟩:=store_blk hB hr (by omega) hv h hvF
  obtain ⟨r1,r2,r3,r4⟩:=hB.room hr
  have hrun:(Instr.storeAt t (.pointer (some (C.at nm i off))) (a.eval y)).run P w = .ok () (w.setCells (C.loc nm).1 ((C.loc nm).2+(i*C.width nm+off)) (a.eval y).cells.toList):=by
   unfold Instr.storeAt
   rw [run_bind' (x:=C.at nm i off) (w':=w) rfl]
   unfold storeVar
   rw [run_bind' (run_sizeOf' hc)]
   rw [if_neg (by rw [h1];simp)]
   have:C.at nm i off=⟨(C.loc nm).1,(C.loc nm).2+(i*C.width nm+off),none⟩:=by unfold Ctx.at at_;rw [Nat.add_assoc]
   rw [this]
   have:=run_storeCells_cells (P:=P) (C.loc nm).1 ((C.loc nm).2+(i*C.width nm+off)) (a.eval y).cells.toList 0 w (fun j hj=>by
     have:=(r4 (i*C.width nm+off+j) (by simp only [Array.length_toList] at hj;omega)).1
     rwa [show (C.loc nm).2+(i*C.width nm+off+j)=(C.loc nm).2+(i*C.width nm+off)+0+j by omega] at this)
    (fun j hj=>by
     have:=(r4 (i*C.width nm+off+j) (by simp only [Array.length_toList] at hj;omega)).2
     rwa [show (C.loc nm).2+(i*C.width nm+off+j)=(C.loc nm).2+(i*C.width nm+off)+0+j by omega] at this) h3
   exact this
  have hdel:=hs.toHSim.del nm
  have away:∀ n b1,getH (delH st.heap nm) n=some b1→C.real n=true→(C.loc n).1 ≠ (C.loc nm).1:=fun n b1 hn hrn=>by
   rw [getH_delH] at hn
   split at hn
   ·cases hn
   ·rename_i hne
    exact hs.apart n b1 nm b hn hb hrn hr (fun e=>hne e.symm)
  have amem:(∀ z v,C.mem z=some v→z.block ≠ (C.loc nm).1)∧¬ C.fr (C.loc nm).1:=⟨fun z v hz e=>(hs.mem z v hz).2.2 nm b hb hr e.symm,fun hf=>(hs.frame _ hf).2.2 nm b hb hr rfl⟩
  have hw1:=hdel.world (grownBy_setCells w (C.loc nm).1 ((C.loc nm).2+(i*C.width nm+off)) (a.eval y).cells.toList) (fun k hk=>by
   obtain rfl:=Option.some.inj hk
   exact ⟨r1,fun n b1=>away n b1,amem⟩)
  have hw2:=hw1.setBlk h4 fun _=>⟨fun n b1 _ hn hrn=>away n b1 hn hrn,amem⟩
  have hsame:∀ n,getH (setH (delH st.heap nm) nm b') n=getH (setH st.heap nm b') n:=fun n=>by
   rw [getH_setH,getH_setH,getH_delH]
   split <;> rfl
  have hw3:HSim C (setH st.heap nm b') (w.setCells (C.loc nm).1 ((C.loc nm).2+(i*C.width nm+off)) (a.eval y).cells.toList) :=
   ⟨fun n b1 hn=>hw2.blk n b1 (by rw [hsame];exact hn),fun n b1 n' b2 g1 g2=>hw2.apart n b1 n' b2 (by rw [hsame];exact g1) (by rw [hsame];exact g2),
    fun z v hz=>⟨(hw2.mem z v hz).1,(hw2.mem z v hz).2.1,fun n b1 hn=>(hw2.mem z v hz).2.2 n b1 (by rw [hsame];exact hn)⟩,hw2.grown,hw2.kept,hw2.blk0,hw2.own,hw2.glob,fun k hk=>⟨(hw2.frame k hk).1,(hw2.frame k hk).2.1,fun n b1 hn=>(hw2.frame k hk).2.2 n b1 (by rw [hsame];exact hn)⟩⟩
  refine ⟨C,.skip,undef,_,?_,.inr ⟨rfl,rfl⟩,Agree.refl _ _,(hs.withH hw3 hs.env).puts (.tup [] [] rfl (fun i c v h=>by simp at h)) hd⟩
  unfold execOp
  simp only [hop,ha]
  exact run_bind' hrun
end
end Go.Proofs.VE

namespace Go.Proofs.VE
open Go
structure Flat (mem:Addr→Option Value) (tys:List CT) (xs:List AV) (us:List Value):Prop where
 len:us.length=xs.length*tys.length
 cells:∀ (i:Nat) (x:AV),xs[i]?=some x→x.cells.length=tys.length∧∀ (j:Nat) (c:AV),x.cells[j]?=some c→∃ u ct,us[i*tys.length+j]?=some u∧tys[j]?=some ct∧VC mem ct c u
theorem Flat.mono {mem mem':Addr→Option Value} (hm:∀ a v,mem a=some v→mem' a=some v) {tys:List CT} {xs:List AV} {us:List Value} (h:Flat mem tys xs us):Flat mem' tys xs us :=
 ⟨h.len,fun i x hx=>⟨(h.cells i x hx).1,fun j c hc=>by obtain ⟨u,ct,g1,g2,g3⟩:=(h.cells i x hx).2 j c hc;exact ⟨u,ct,g1,g2,g3.mono hm⟩⟩⟩
theorem Flat.flat {mem mem':Addr→Option Value} {tys:List CT} {xs:List AV} {us:List Value} (h:Flat mem tys xs us) (hf:tys.all flatCT=true):Flat mem' tys xs us :=
 ⟨h.len,fun i x hx=>⟨(h.cells i x hx).1,fun j c hc=>by
  obtain ⟨u,ct,g1,g2,g3⟩:=(h.cells i x hx).2 j c hc
  rw [List.all_eq_true] at hf
  exact ⟨u,ct,g1,g2,g3.flat (hf ct (List.mem_of_getElem? g2))⟩⟩⟩
theorem Flat.one {mem:Addr→Option Value} {tys:List CT} {xs:List AV} {us:List Value} (h:Flat mem tys xs us):∀ u ∈ us,u.oneCell'=true:=by
 intro u hu
 obtain ⟨k,hk⟩:=List.getElem?_of_mem hu
 have hlt:k<us.length:=(List.getElem?_eq_some_iff.1 hk).1
 rw [h.len] at hlt
 have hp:0<tys.length:=by
  rcases Nat.eq_zero_or_pos tys.length with e|e
  ·rw [e] at hlt;simp at hlt
  ·exact e
 have h1:k / tys.length<xs.length:=Nat.div_lt_of_lt_mul (by rw [Nat.mul_comm];exact hlt)
 have h2:k % tys.length<tys.length:=Nat.mod_lt _ hp
 obtain ⟨h3,h4⟩:=h.cells (k / tys.length) xs[k / tys.length] (List.getElem?_eq_getElem h1)
 obtain ⟨u',ct,h5,_,h7⟩:=h4 (k % tys.length) (xs[k / tys.length].cells[k % tys.length]'(by omega)) (List.getElem?_eq_getElem _)
 rw [Nat.mul_comm,Nat.div_add_mod,hk] at h5
 obtain rfl:=Option.some.inj h5
 exact h7.oneCell'
theorem Flat.append {mem:Addr→Option Value} {tys:List CT} {xs ys:List AV} {us vs:List Value} (h:Flat mem tys xs us) (k:Flat mem tys ys vs):Flat mem tys (xs++ys) (us++vs):=by
 refine ⟨by rw [List.length_append,List.length_append,h.len,k.len,Nat.add_mul],fun i x hx=>?_⟩
 by_cases hi:i<xs.length
 ·rw [List.getElem?_append_left hi] at hx
  obtain ⟨h1,h2⟩:=h.cells i x hx
  refine ⟨h1,fun j c hc=>?_⟩
  obtain ⟨u,ct,h3,h4,h5⟩:=h2 j c hc
  refine ⟨u,ct,?_,h4,h5⟩
  rw [List.getElem?_append_left (List.getElem?_eq_some_iff.1 h3).1]
  exact h3
 ·rw [List.getElem?_append_right (by omega)] at hx
  obtain ⟨h1,h2⟩:=k.cells _ x hx
  refine ⟨h1,fun j c hc=>?_⟩
  obtain ⟨u,ct,h3,h4,h5⟩:=h2 j c hc
  refine ⟨u,ct,?_,h4,h5⟩
  have e:i*tys.length=(i - xs.length)*tys.length+xs.length*tys.length:=by rw [← Nat.add_mul,Nat.sub_add_cancel (by omega)]
  rw [List.getElem?_append_right (by rw [h.len];omega),h.len,← h3]
  congr 1
  omega
section
variable {P:Program} {C C':Ctx} {nt:Nat} {st:St} {a:Act} {w w':World}
theorem elems_sound [Glob] {y:AV} {u:Value} {tys:List CT} {ys:List AV} (hs:Sim C nt st a w) (hy:VR C y u) (h:elemsA st.heap y=some (tys,ys)) :
  ∃ av cap us,u = .slice av ys.length cap∧(Flat C.mem tys ys us∧(elemsF st.heap y=true→Flat C.memF tys ys us))∧(0<us.length→∃ ad,av=some ad∧∀ j v,us[j]?=some v→w.cell? (ad.add j)=some v):=by
 have ofCells:∀ (mem:Addr→Option Value) (b o:Nat) (av:Option Addr) (cap:Nat),u = .slice av ys.length cap→(0<ys.length→av=some ⟨b,o,none⟩) →
   (∀ (i:Nat) (x:AV),ys[i]?=some x→x.cells.length=tys.length∧∀ (j:Nat) (c:AV),x.cells[j]?=some c→∃ v ct,w.cell? ⟨b,o+(i*tys.length+j),none⟩=some v∧tys[j]?=some ct∧VC mem ct c v) →
   ∃ av cap us,u = .slice av ys.length cap∧Flat mem tys ys us∧(0<us.length→∃ ad,av=some ad∧∀ j v,us[j]?=some v→w.cell? (ad.add j)=some v):=by
  intro mem b o av cap hu hav hc
  refine ⟨av,cap,(List.range (ys.length*tys.length)).map fun k=>(w.cell? ⟨b,o+k,none⟩).getD undef,hu,⟨by simp,fun i x hx=>?_⟩,fun hlen=>?_⟩
  ·obtain ⟨h1,h2⟩:=hc i x hx
   refine ⟨h1,fun j c hcj=>?_⟩
   obtain ⟨v,ct,h3,h4,h5⟩:=h2 j c hcj
   have hi:i<ys.length:=(List.getElem?_eq_some_iff.1 hx).1
   have hj:j<tys.length:=(List.getElem?_eq_some_iff.1 h4).1
   have hle:(i+1)*tys.length≤ys.length*tys.length:=Nat.mul_le_mul_right _ hi
   rw [Nat.add_mul,Nat.one_mul] at hle
   refine ⟨v,ct,?_,h4,h5⟩
   rw [List.getElem?_map,List.getElem?_range (by omega)]
   simp only [Option.map_some,h3,Option.getD_some]
  ·simp only [List.length_map,List.length_range] at hlen
   have hy0:0<ys.length:=Nat.pos_of_ne_zero fun e=>by rw [e] at hlen;simp at hlen
   have ht0:0<tys.length:=Nat.pos_of_ne_zero fun e=>by rw [e] at hlen;simp at hlen
   refine ⟨_,hav hy0,fun j v hj=>?_⟩
   rw [List.getElem?_map] at hj
   obtain ⟨k,hk,rfl⟩:=Option.map_eq_some_iff.1 hj
   have hlt:j<ys.length*tys.length:=by have:=(List.getElem?_eq_some_iff.1 hk).1;simpa using this
   rw [List.getElem?_range hlt] at hk
   obtain rfl:=Option.some.inj hk
   rw [add_at]
   have g1:j / tys.length<ys.length:=Nat.div_lt_of_lt_mul (by rw [Nat.mul_comm];exact hlt)
   obtain ⟨g2,g3⟩:=hc (j / tys.length) ys[j / tys.length] (List.getElem?_eq_getElem g1)
   obtain ⟨v,ct,g4,_⟩:=g3 (j % tys.length) (ys[j / tys.length].cells[j % tys.length]'(by rw [g2];exact Nat.mod_lt _ ht0)) (List.getElem?_eq_getElem _)
   rw [Nat.mul_comm,Nat.div_add_mod] at g4
   rw [g4]
   rfl
 have up:(∃ av cap us,u = .slice av ys.length cap∧Flat C.memF tys ys us∧(0<us.length→∃ ad,av=some ad∧∀ j v,us[j]?=some v→w.cell? (ad.add j)=some v)) →
   ∃ av cap us,u = .slice av ys.length cap∧(Flat C.mem tys ys us∧(elemsF st.heap y=true→Flat C.memF tys ys us))∧(0<us.length→∃ ad,av=some ad∧∀ j v,us[j]?=some v→w.cell? (ad.add j)=some v):=by
  rintro ⟨av,cap,us,h1,h2,h3⟩
  exact ⟨av,cap,us,h1,⟨h2.mono fun a v h=>(hs.own a v h).1,fun _=>h2⟩,h3⟩
 have dn:(elemsF st.heap y=true→tys.all flatCT=true∨ys=[])→(∃ av cap us,u = .slice av ys.length cap∧Flat C.mem tys ys us∧(0<us.length→∃ ad,av=some ad∧∀ j v,us[j]?=some v→w.cell? (ad.add j)=some v)) →
   ∃ av cap us,u = .slice av ys.length cap∧(Flat C.mem tys ys us∧(elemsF st.heap y=true→Flat C.memF tys ys us))∧(0<us.length→∃ ad,av=some ad∧∀ j v,us[j]?=some v→w.cell? (ad.add j)=some v):=by
  rintro hf ⟨av,cap,us,h1,h2,h3⟩
  refine ⟨av,cap,us,h1,⟨h2,fun he=>?_⟩,h3⟩
  rcases hf he with hf|rfl
  ·exact h2.flat hf
  ·exact ⟨h2.len,fun i x hx=>by simp at hx⟩
 unfold elemsA at h
 split at h
 ·rename_i nm
  split at h
  ·rename_i b hb
   have B:=hs.blk nm b hb
   cases hbox:b.box with
   | true=>rw [hbox] at h;simp at h
   | false =>
    rw [hbox] at h
    simp only [cond_false,Option.some.injEq,Prod.mk.injEq] at h
    obtain ⟨rfl,rfl⟩:=h
    have hl:=B.len
    have hw:=B.width hbox
    have cells:∀ (i:Nat) (x:AV),b.xs[i]?=some x→x.cells.length=b.tys.length∧∀ (j:Nat) (c:AV),x.cells[j]?=some c→∃ v ct,w.cell? ⟨(C.loc nm).1,(C.loc nm).2+(i*b.tys.length+j),none⟩=some v∧b.tys[j]?=some ct∧VC C.memF ct c v:=fun i x hx=>by
     obtain ⟨h1,h2⟩:=B.cells i x hx
     refine ⟨by rw [← hw];exact h1,fun j c hc=>?_⟩
     obtain ⟨v,h3,_,h5⟩:=h2 j c hc
     rw [hbox] at h5
     simp only [Bool.false_eq_true,if_false] at h5
     obtain ⟨ct,h6,h7⟩:=h5
     refine ⟨v,ct,?_,h6,h7⟩
     unfold Ctx.at at_ at h3
     rw [hw,Nat.add_assoc] at h3
     exact h3
    cases hy with
    | own _ cap hr h1 h2=>exact up <| ofCells C.memF _ _ _ cap (by rw [hl]) (fun _=>by unfold Ctx.at at_;simp) cells
    | ownNil _ hz =>
     rw [hl] at hz
     exact up <| ofCells C.memF (C.loc nm).1 (C.loc nm).2 none 0 (by rw [hz]) (fun h0=>by omega) cells
  ·cases h
 ·rename_i nm o n
  split at h
  ·rename_i b hb
   have B:=hs.blk nm b hb
   cases hbox : !b.box && decide (o+n≤b.xs.length) with
   | false=>rw [hbox] at h;simp at h
   | true =>
    rw [hbox] at h
    simp only [Bool.and_eq_true,Bool.not_eq_true',decide_eq_true_eq] at hbox
    simp only [cond_true,Option.some.injEq,Prod.mk.injEq] at h
    obtain ⟨rfl,rfl⟩:=h
    have hl:=B.len
    have hw:=B.width hbox.1
    have hlen:((b.xs.drop o).take n).length=n:=by simp;omega
    cases hy with
    | sub _ _ _ cap av h1 h2 _ _ =>
     refine up <| ofCells C.memF (C.loc nm).1 ((C.loc nm).2+o*b.tys.length) av cap (by rw [hlen]) (fun h0=>?_) (fun i x hx=>?_)
     ·rw [hlen] at h0
      rw [(h2 h0).2]
      unfold Ctx.at at_
      rw [hw]
      simp
     ·have hx':b.xs[o+i]?=some x:=by
       have hlt:=(List.getElem?_eq_some_iff.1 hx).1
       rw [hlen] at hlt
       rw [List.getElem?_take_of_lt hlt,List.getElem?_drop] at hx
       exact hx
      obtain ⟨g1,g2⟩:=B.cells (o+i) x hx'
      refine ⟨by rw [← hw];exact g1,fun j c hc=>?_⟩
      obtain ⟨v,h3,_,h5⟩:=g2 j c hc
      rw [hbox.1] at h5
      simp only [Bool.false_eq_true,if_false] at h5
      obtain ⟨ct,h6,h7⟩:=h5
      refine ⟨v,ct,?_,h6,h7⟩
      unfold Ctx.at at_ at h3
      rw [hw,Nat.add_mul] at h3
      rw [show (C.loc nm).2+o*b.tys.length+(i*b.tys.length+j)=(C.loc nm).2+(o*b.tys.length+i*b.tys.length)+j by omega]
      exact h3
  ·cases h
 ·rename_i tys' ys'
  simp only [Option.some.injEq,Prod.mk.injEq] at h
  obtain ⟨e1,e2⟩:=h
  subst e1;subst e2
  cases hy with
  | sl _ _ _ hv =>
   cases hv with
   | sl _ _ av cap U hcap hmax hm ha hx hv =>
    by_cases h0:0<ys'.length
    ·obtain ⟨b,o,rfl⟩:=ha h0
     refine dn (fun he => .inl he) <| ofCells C.mem b o _ cap rfl (fun _=>rfl) fun i x hxi=>⟨hx i x hxi,fun j c hc=>?_⟩
     have hi:i<ys'.length:=(List.getElem?_eq_some_iff.1 hxi).1
     have hj:j<tys'.length:=by rw [← hx i x hxi];exact (List.getElem?_eq_some_iff.1 hc).1
     have htj:tys'[j]?=some tys'[j]:=List.getElem?_eq_getElem hj
     obtain ⟨b',o',e,hme⟩:=hm i j hi hj
     simp only [Option.some.injEq,Addr.mk.injEq,and_true] at e
     obtain ⟨rfl,rfl⟩:=e
     refine ⟨U i j,tys'[j],?_,htj,hv i x j _ c hxi htj hc⟩
     have:=(hs.mem _ _ hme).1
     unfold at_ at this
     rw [Nat.add_assoc] at this
     exact this
    ·exact dn (fun he => .inl he) <| ofCells C.mem 0 0 av cap rfl (fun h=>absurd h h0) fun i x hxi=>by
      have hi:i<ys'.length:=(List.getElem?_eq_some_iff.1 hxi).1
      omega
 ·simp only [Option.some.injEq,Prod.mk.injEq] at h
  obtain ⟨e1,e2⟩:=h
  subst e1;subst e2
  cases hy with
  | sle _ _ ad cap=>exact dn (fun _ => .inr rfl) <| ofCells C.mem 0 0 ad cap rfl (fun h=>by simp at h) (fun i x h=>by simp at h)
 ·cases h
theorem slice_new [Glob] {o:Oper} {d:Nat} {π:Nm} {tys:List CT} {xs:List AV} {us:List Value} {cs:Array Value} {e:TypeId} {cap:Nat} (hd:d<nt) (ho:o.dst=some d) (hs:Sim C nt st a w) (hq:cleanS (d :: π) st=true)
  (hf:Flat C.memF tys xs us) (hmax:xs.length≤maxLen) (hcap:xs.length≤cap) (hsz:cap*tys.length≤cs.size) (hcs:∀ (k:Nat) (u:Value),us[k]?=some u→cs[k]?=some u) {w1:World} (hw1:w.grownBy w1 none) (hw1s:w1.heap.size=w.heap.size)
  (hr:(execOp a.eval o).run P w = .ok (.value (.slice (some ⟨w.heap.size,0,none⟩) xs.length cap)) (w1.alloc (.cells cs e))) :
  Eff P π C nt o a w ⟨setE st.env d (.own (1 :: d :: π)),setH st.heap (1 :: d :: π) ⟨false,tys,xs⟩⟩:=by
 have hb:BlkR (C.set (1 :: d :: π) ⟨true,(w1.heap.size,0),tys.length,xs.length,cap⟩) (w1.alloc (.cells cs e)) (1 :: d :: π) ⟨false,tys,xs⟩:=by
  refine newBlk (by rw [Ctx.set_dat]) (by rw [hw1s];exact hs.grown) (fun _=>rfl) (fun h=>by cases h) hmax hcap hsz ?_
  intro i x hx
  obtain ⟨h1,h2⟩:=hf.cells i x hx
  refine ⟨h1,fun j c hj=>?_⟩
  obtain ⟨u,ct,h3,h4,h5⟩:=h2 j c hj
  refine ⟨u,hcs _ u h3,h5.oneCell',?_⟩
  simp only [Bool.false_eq_true,if_false]
  exact ⟨ct,h4,h5⟩
 have hg:w.grownBy (w1.alloc (.cells cs e)) none :=
  ⟨hw1.os,hw1.tape,hw1.output,Nat.le_trans hw1.size (by simp),fun k hk hne=>by rw [heap_alloc_old w1 _ k (by omega)];exact hw1.block k hk hne⟩
 obtain ⟨h1,h2⟩:=hs.new (r:=none) hq (under_new d π) hg (fun k h=>by cases h) hb fun _=>by rw [show (⟨true,(w1.heap.size,0),tys.length,xs.length,cap⟩:Dat).loc.1=w.heap.size from hw1s];exact lt_old hs
 refine ⟨_,_,_,_,hr,.inl rfl,h2.mono fun nm h=>under_isLoc h,?_⟩
 rw [ho]
 refine h1.put ?_ hd
 have e1:(⟨w.heap.size,0,none⟩:Addr)=(C.set (1 :: d :: π) ⟨true,(w1.heap.size,0),tys.length,xs.length,cap⟩).at (1 :: d :: π) 0 0:=by
  unfold Ctx.at Ctx.loc Ctx.width at_
  rw [Ctx.set_dat,hw1s]
  simp
 have e2:xs.length=(C.set (1 :: d :: π) ⟨true,(w1.heap.size,0),tys.length,xs.length,cap⟩).len (1 :: d :: π):=by unfold Ctx.len;rw [Ctx.set_dat]
 rw [e1]
 have:=VR.own (C:=C.set (1 :: d :: π) ⟨true,(w1.heap.size,0),tys.length,xs.length,cap⟩) (1 :: d :: π) cap (by unfold Ctx.real;rw [Ctx.set_dat]) (by rw [← e2];exact hcap) (by unfold Ctx.room;rw [Ctx.set_dat];exact Nat.le_refl _)
 rw [← e2] at this
 exact this
theorem BlkR.put {nm n:Nm} {tys:List CT} {xs ys zs:List AV} {us:List Value} {p:Nat} (hB:BlkR C w nm ⟨false,tys,xs⟩) (hr:C.real nm=true) (hF:Flat C.memF tys ys us) (hz:zs=xs.take p++ys++xs.drop (p+ys.length))
  (hd:C'.dat n={ C.dat nm with len:=zs.length }) (hbase:C'.base=C.base) (hmem:C'.memF=C.memF) (hp:p≤xs.length) (hroom:p+ys.length≤C.room nm) (hroom':zs.length≤C.room nm) (hmax:zs.length≤maxLen) :
  BlkR C' (w.setCells (C.loc nm).1 ((C.loc nm).2+p*C.width nm) us) n ⟨false,tys,zs⟩:=by
 have hw:=hB.width rfl
 have hul:us.length=ys.length*C.width nm:=by rw [hF.len,hw]
 have hkle:(p+ys.length)*C.width nm≤C.room nm*C.width nm:=Nat.mul_le_mul_right _ hroom
 rw [Nat.add_mul] at hkle
 refine hB.written hr hd hbase (by omega) (fun _=>hw) hmax hroom' (fun h=>by cases h) fun i x hx=>?_
 have old:xs[i]?=some x→¬ (p≤i∧i<p+ys.length)→x.cells.length=C.width nm∧∀ j c,x.cells[j]?=some c→∃ u,(if p*C.width nm≤i*C.width nm+j∧i*C.width nm+j<p*C.width nm+us.length then us[i*C.width nm+j - p*C.width nm]?=some u else w.cell? (C.at nm i j)=some u)∧cellR C' ⟨false,tys,zs⟩ j c u:=by
  intro hx hn
  obtain ⟨g1,g2⟩:=hB.cells i x hx
  refine ⟨g1,fun j c hj=>?_⟩
  obtain ⟨u,g3,g4,g5⟩:=g2 j c hj
  have hjw:j<C.width nm:=by rw [← g1];exact (List.getElem?_eq_some_iff.1 hj).1
  refine ⟨u,?_,g4,?_⟩
  ·rw [if_neg]
   ·exact g3
   ·rintro ⟨k1,k2⟩
    apply hn
    constructor
    ·refine Nat.le_of_not_lt fun hlt=>?_
     have:(i+1)*C.width nm≤p*C.width nm:=Nat.mul_le_mul_right _ hlt
     rw [Nat.add_mul,Nat.one_mul] at this
     omega
    ·refine Nat.lt_of_not_le fun hle=>?_
     have:(p+ys.length)*C.width nm≤i*C.width nm:=Nat.mul_le_mul_right _ hle
     rw [Nat.add_mul] at this
     omega
  ·simp only [Bool.false_eq_true,if_false] at g5 ⊢
   rw [hmem]
   exact g5
 rw [hz,List.append_assoc] at hx
 by_cases h1:i<p
 ·rw [List.getElem?_append_left (by rw [List.length_take];omega),List.getElem?_take_of_lt h1] at hx
  exact old hx (by omega)
 ·rw [List.getElem?_append_right (by rw [List.length_take];omega),List.length_take,Nat.min_eq_left hp] at hx
  by_cases h2:i<p+ys.length
  ·rw [List.getElem?_append_left (by omega)] at hx
   obtain ⟨g1,g2⟩:=hF.cells _ x hx
   refine ⟨by rw [hw];exact g1,fun j c hj=>?_⟩
   obtain ⟨u,ct,g3,g4,g5⟩:=g2 j c hj
   have hlt:=(List.getElem?_eq_some_iff.1 g3).1
   rw [← hw] at g3 hlt
   have e1:i*C.width nm=(i - p)*C.width nm+p*C.width nm:=by rw [← Nat.add_mul,Nat.sub_add_cancel (by omega)]
   refine ⟨u,?_,g5.oneCell',?_⟩
   ·rw [if_pos (by omega),← g3]
    congr 1
    omega
   ·simp only [Bool.false_eq_true,if_false]
    rw [hmem]
    exact ⟨ct,g4,g5⟩
  ·rw [List.getElem?_append_right (by omega),List.getElem?_drop,show p+ys.length+(i - p - ys.length)=i by omega] at hx
   exact old hx (by omega)
end
end Go.Proofs.VE

namespace Go.Proofs.VE
open Go
section
variable {P:Program} {C C':Ctx} {nt:Nat} {st:St} {a:Act} {w w':World}
theorem zeroOK_spec {e:TypeId} (h:zeroOK P e=true) (C:Ctx):∃ zv i,zeroA P e=some (ofVal zv)∧P.info? e=some i∧i.zero=some zv∧zv.cells.size=P.cellsOf e∧i.size=P.cellsOf e∧i.bytes=P.bytesOf e∧CellsR C (ofVal zv).cells zv.cells:=by
 unfold zeroOK at h
 split at h
 ·rename_i z hz
  rw [Bool.and_eq_true] at h
  obtain ⟨zv,i,rfl,hi,hzero⟩:=zero_spec hz
  have hc:=okV_cells (ofVal_sound (C:=C) zv) h.1
  refine ⟨zv,i,hz,hi,hzero,?_,?_,?_,hc⟩
  ·rw [← hc.size];exact Nat.eq_of_beq_eq_true h.2
  ·simp [Program.cellsOf,hi]
  ·simp [Program.bytesOf,hi]
 ·cases h
theorem made_get (z:Array Value) (n k:Nat) (h:k<n):(madeCells z n)[k]?=some (z[k % z.size]!):=by
 unfold madeCells
 simp [h]
theorem make_eff [Glob] {o:Oper} {d:Nat} {π:Nm} {t e:TypeId} {lo co:Operand} {l c:Int} {z:AV} (hd:d<nt) (ho:o.dst=some d) (hop:o.op = .makeSlice t lo co) (hs:Sim C nt st a w) (he:elemT P t=some e)
  (hl:intOf? (opA st.env lo)=some l) (hc:intOf? (opA st.env co)=some c) (hz:(zeroA P e).bind (zfV (ctsT P 6 e))=some z) (hq:cleanS (d :: π) st=true) (hok:zeroOK P e=true)
  (hlen:(ctsT P 6 e).length=P.cellsOf e) (h0:0≤l) (hlc:l≤c) (hb:c*P.bytesOf e≤140737488355328) (h63:c≤140737488355328) :
  Eff P π C nt o a w ⟨setE st.env d (.own (1 :: d :: π)),setH st.heap (1 :: d :: π) ⟨false,ctsT P 6 e,List.replicate l.toNat z⟩⟩:=by
 obtain ⟨zv,i,h1,hi,hzero,h2,h3,h4,hcells⟩:=zeroOK_spec hok C
 rw [h1] at hz
 obtain ⟨zf0,zf1,zf2⟩:=zfV_sound (mem:=C.memF) (ofVal_sound (C:=C) zv) hz
 obtain ⟨kl,hkl⟩:=intOf_sound (opA_sound hs lo) hl
 obtain ⟨kc,hkc⟩:=intOf_sound (opA_sound hs co) hc
 obtain ⟨ht,_⟩:=elemT_spec he
 have hrun:=run_make (P:=P) w t e i zv ht hi hzero kl kc l c h0 hlc (by rw [h4,Int.mul_comm];omega) (by omega)
 have hlc':l.toNat≤c.toNat:=by omega
 have hzl:z.cells.length=P.cellsOf e:=by rw [zf0,hlen]
 have hmul:l.toNat*P.cellsOf e≤c.toNat*P.cellsOf e:=Nat.mul_le_mul_right _ hlc'
 refine slice_new (tys:=ctsT P 6 e) (us:=(madeCells zv.cells (l.toNat*P.cellsOf e)).toList) (cs:=madeCells zv.cells (c.toNat*i.size)) (e:=e) (cap:=c.toNat) (w1:=w) hd ho hs hq ⟨by simp [size_madeCells,hlen],?_⟩ (by rw [List.length_replicate];unfold maxLen;omega) (by rw [List.length_replicate];exact hlc') (by rw [size_madeCells,hlen,h3];exact Nat.le_refl _) ?_ ⟨rfl,rfl,rfl,Nat.le_refl _,fun _ _ _=>rfl⟩ rfl ?_
 ·intro k x hx
  have hk:k<l.toNat:=by have:=(List.getElem?_eq_some_iff.1 hx).1;simpa using this
  have hx':x=z:=by
   have:=List.mem_of_getElem? hx
   exact (List.mem_replicate.1 this).2
  subst hx'
  refine ⟨by rw [hlen];exact hzl,fun j cc hj=>?_⟩
  have hjl:j<P.cellsOf e:=by rw [← hzl];exact (List.getElem?_eq_some_iff.1 hj).1
  have hle:(k+1)*P.cellsOf e≤l.toNat*P.cellsOf e:=Nat.mul_le_mul_right _ hk
  rw [Nat.add_mul,Nat.one_mul] at hle
  have htj:(ctsT P 6 e)[j]?=some ((ctsT P 6 e)[j]'(by omega)):=List.getElem?_eq_getElem (by omega)
  have huj:zv.cells[j]?=some (zv.cells[j]'(by omega)):=Array.getElem?_eq_getElem (by omega)
  refine ⟨zv.cells[j]'(by omega),_,?_,htj,zf2 j _ cc _ htj hj huj⟩
  rw [hlen,Array.getElem?_toList,made_get _ _ _ (by omega)]
  have:(k*P.cellsOf e+j) % zv.cells.size=j:=by rw [h2,Nat.mul_comm,Nat.mul_add_mod];exact Nat.mod_eq_of_lt hjl
  rw [this]
  simp [h2,hjl]
 ·intro k u hk
  rw [Array.getElem?_toList] at hk
  have hlt:k<l.toNat*P.cellsOf e:=by have:=(Array.getElem?_eq_some_iff.1 hk).1;rwa [size_madeCells] at this
  rw [made_get _ _ _ hlt] at hk
  rw [made_get _ _ _ (by rw [h3];omega)]
  exact hk
 ·unfold execOp
  simp only [hop,hkl,hkc,List.length_replicate]
  exact run_v hrun
theorem fill_range {size:Nat}:∀ (vs:List Value) (k:Nat) (cs:Array Value),(∀ v ∈ vs,v.cells.size=size)→(k+vs.length)*size≤cs.size →
  ∃ r,Instr.fill (fun i=>some (i*size,size)) cs ((vs.zipIdx k).map fun p=>(p.2,p.1))=some r∧r.size=cs.size∧(∀ p,p<k*size→r[p]?=cs[p]?) ∧
   ∀ (i:Nat) (v:Value),vs[i]?=some v→∀ j,j<size→r[(k+i)*size+j]?=v.cells[j]?
 | [],k,cs,_,_=>⟨cs,rfl,rfl,fun _ _=>rfl,fun i v h=>by simp at h⟩
 | v :: vs,k,cs,hv,hc=>by
  have hvs:=hv v List.mem_cons_self
  have e:(v.cells.zipIdx.foldl (fun cs (c,j)=>cs.setIfInBounds (k*size+j) c) cs)=((v.cells.toList.zipIdx 0).foldl (fun cs (x:Value × Nat)=>cs.setIfInBounds (k*size+x.2) x.1) cs):=by
   rw [← Array.foldl_toList,Array.toList_zipIdx]
  obtain ⟨g1,g2⟩:=Go.Great.foldl_set (k*size) v.cells.toList 0 cs
  rw [← e] at g1 g2
  have hle:(k+1)*size≤(k+(v :: vs).length)*size:=Nat.mul_le_mul_right _ (by simp)
  rw [Nat.add_mul,Nat.one_mul] at hle
  obtain ⟨r,h1,h2,h3,h4⟩:=fill_range vs (k+1) (v.cells.zipIdx.foldl (fun cs (c,j)=>cs.setIfInBounds (k*size+j) c) cs) (fun u hu=>hv u (List.mem_cons_of_mem _ hu))
   (by rw [g1];simp only [List.length_cons] at hc;rw [show k+1+vs.length=k+(vs.length+1) by omega];exact hc)
  refine ⟨r,?_,by rw [h2,g1],fun p hp=>?_,fun i u hu j hj=>?_⟩
  ·simp only [List.zipIdx_cons,List.map_cons]
   unfold Instr.fill
   simp only
   rw [if_neg (by simp;omega)]
   exact h1
  ·rw [h3 p (by rw [Nat.add_mul];omega),g2 p]
   rw [if_neg (by omega)]
  ·cases i with
   | zero =>
    simp at hu
    subst hu
    rw [Nat.add_zero,h3 _ (by rw [Nat.add_mul];omega),g2]
    simp only [Nat.add_zero,Array.length_toList]
    rw [if_pos (by omega)]
    rw [show k*size+j - k*size=j by omega]
    simp
   | succ i =>
    rw [show k+(i+1)=k+1+i by omega]
    exact h4 i u (by simpa using hu) j hj
theorem parts_zip {α β:Type} (f:α→β):∀ (l:List (Nat × α)) (k:Nat),l.map (·.1)=List.range' k l.length→l.map (fun p=>(p.1,f p.2))=((l.map fun p=>f p.2).zipIdx k).map fun p=>(p.2,p.1)
 | [],_,_=>rfl
 | (i,x) :: r,k,h=>by
  simp only [List.map_cons,List.length_cons,List.range'_succ,List.cons.injEq] at h
  simp only [List.map_cons,List.zipIdx_cons]
  rw [parts_zip f r (k+1) h.2,h.1]
theorem run_buildSlice' {t e:TypeId} {n:Nat} {parts:Array (Nat × Value)} {cells:Array Value} {ie:TypeInfo} {z:Value}
  (hu:P.underlying t=some (.slice e)) (hie:P.info? e=some ie) (hz:ie.zero=some z) (hsmall:n*ie.size≤16777216)
  (h:Instr.fill (fun i=>some (i*ie.size,ie.size)) ((Array.range (n*ie.size)).map (z.cells[· % z.cells.size]!)) parts.toList=some cells) :
  (Instr.buildSlice t n parts).run P w = .ok (.slice (some ⟨w.heap.size,0,none⟩) n n) (w.alloc (.cells cells e)):=by
 by_cases h0:n*ie.size=0
 ·rw [h0] at h
  simp only [Array.range_zero',Array.map_empty] at h
  unfold Instr.buildSlice
  rw [run_bind' (run_underlying hu)]
  simp only
  rw [run_bind' (x:=ie.size) (w':=w) (by unfold sizeOf;rw [run_bind' (run_typeInfo hie)];rfl)]
  rw [h0]
  have e0:∀ f:Nat→Value,Array.map f (Array.range 0)=#[]:=fun f=>by simp
  simp [newRow]
  rw [e0,h]
  rfl
 ·exact run_buildSlice w t e n parts cells ie z hu hie hz (by omega) h0 h
theorem build_eff [Glob] {o:Oper} {d:Nat} {π:Nm} {t e:TypeId} {n:Nat} {parts:Array (Nat × Operand)} {xs:List AV} (hd:d<nt) (ho:o.dst=some d) (hop:o.op = .buildSlice t n parts) (hs:Sim C nt st a w) (he:elemT P t=some e)
  (hq:cleanS (d :: π) st=true) (hn:parts.size=n) (hn24:n≤16777216) (hix:parts.toList.map (·.1)=List.range n) (hsmall:n*P.cellsOf e≤16777216) (hlen:(ctsT P 6 e).length=P.cellsOf e) (hok:zeroOK P e=true)
  (hxl:xs.length=(parts.toList.map fun p=>a.eval p.2).length)
  (hp:∀ (k:Nat) (y:AV) (u:Value),xs[k]?=some y→(parts.toList.map fun p=>a.eval p.2)[k]?=some u→y.cells.length=(ctsT P 6 e).length∧u.cells.size=(ctsT P 6 e).length ∧
   ∀ (j:Nat) (t:CT) (c:AV) (x:Value),(ctsT P 6 e)[j]?=some t→y.cells[j]?=some c→u.cells[j]?=some x→VC C.memF t c x) :
  Eff P π C nt o a w ⟨setE st.env d (.own (1 :: d :: π)),setH st.heap (1 :: d :: π) ⟨false,ctsT P 6 e,xs⟩⟩:=by
 obtain ⟨zv,i,h1,hi,hzero,h2,h3,h4,hcells⟩:=zeroOK_spec hok C
 obtain ⟨ht,_⟩:=elemT_spec he
 have hnl:parts.toList.length=n:=by simpa using hn
 have hxn:xs.length=n:=by rw [hxl,List.length_map,hnl]
 have hcs:∀ v ∈ parts.toList.map fun p=>a.eval p.2,v.cells.size=P.cellsOf e:=fun v hm=>by
  obtain ⟨k,hk,hv⟩:=List.getElem_of_mem hm
  have:=(hp k (xs[k]'(by rw [hxl];exact hk)) v (List.getElem?_eq_getElem _) (by rw [List.getElem?_eq_getElem hk,hv])).2.1
  rw [this,hlen]
 obtain ⟨r,g1,g2,_,g4⟩:=fill_range (size:=P.cellsOf e) (parts.toList.map fun p=>a.eval p.2) 0 ((Array.range (n*P.cellsOf e)).map (zv.cells[· % zv.cells.size]!)) hcs (by simp [hnl])
 simp only [Array.size_map,Array.size_range] at g2
 have hzip:=parts_zip a.eval parts.toList 0 (by rw [hnl,← List.range_eq_range'];exact hix)
 rw [← hzip] at g1
 have hrun:=run_buildSlice' (P:=P) (w:=w) (parts:=parts.map fun (i,x)=>(i,a.eval x)) ht hi hzero (by rw [h3];exact hsmall) (by
  rw [h3,Array.toList_map]
  exact g1)
 refine slice_new (tys:=ctsT P 6 e) (us:=r.toList) (cs:=r) (e:=e) (cap:=n) (w1:=w) hd ho hs hq ⟨?_,?_⟩ (by rw [hxn];unfold maxLen;omega) (by omega) (by rw [hlen,g2];exact Nat.le_refl _) (fun k u hk=>by simpa using hk) ⟨rfl,rfl,rfl,Nat.le_refl _,fun _ _ _=>rfl⟩ rfl ?_
 ·simp [g2,hxn,hlen]
 ·intro k x hx
  have hk:k<xs.length:=(List.getElem?_eq_some_iff.1 hx).1
  have hk':k<(parts.toList.map fun p=>a.eval p.2).length:=by rw [← hxl];exact hk
  obtain ⟨v,hv⟩:∃ v,(parts.toList.map fun p=>a.eval p.2)[k]?=some v:=⟨_,List.getElem?_eq_getElem hk'⟩
  obtain ⟨q1,q2,q3⟩:=hp k x v hx hv
  refine ⟨q1,fun j c hj=>?_⟩
  have hjl:j<(ctsT P 6 e).length:=by rw [← q1];exact (List.getElem?_eq_some_iff.1 hj).1
  have htj:(ctsT P 6 e)[j]?=some (ctsT P 6 e)[j]:=List.getElem?_eq_getElem hjl
  obtain ⟨x0,huj⟩:∃ x0,v.cells[j]?=some x0:=⟨_,Array.getElem?_eq_getElem (by rw [q2];exact hjl)⟩
  refine ⟨x0,_,?_,htj,q3 j _ c _ htj hj huj⟩
  have:=g4 k v hv j (by rw [← hlen];exact hjl)
  rw [Nat.zero_add] at this
  rw [hlen,Array.getElem?_toList,this]
  exact huj
 ·unfold execOp
  simp only [hop,hxn]
  exact run_v hrun
theorem clear_eff [Glob] {o:Oper} {π:Nm} {x:Operand} {args:Array Operand} {argTypes:Array TypeId} {t e:TypeId} {nm:Nm} {lo n:Nat} {b:Blk} {z:AV} (hd:∀ d,o.dst=some d→d<nt)
  (hop:o.op = .call { callee := .builtin .clear,args,argTypes }) (hargs:args.toList=[x]) (hts:argTypes.toList=[t]) (hs:Sim C nt st a w) (he:elemT P t=some e) (hx:opA st.env x = .sub nm lo n) (hb:getH st.heap nm=some b)
  (hbox:b.box=false) (hty:b.tys=ctsT P 6 e) (hlen:(ctsT P 6 e).length=P.cellsOf e) (hok:zeroOK P e=true) (hz:(zeroA P e).bind (zfV (ctsT P 6 e))=some z) :
  Eff P π C nt o a w (St.set ⟨st.env,setH st.heap nm ⟨false,b.tys,b.xs.take lo++List.replicate n z++b.xs.drop (lo+n)⟩⟩ o.dst (.tup [])):=by
 obtain ⟨zv,i,h1,hi,hzero,h2,h3,h4,hcells⟩:=zeroOK_spec hok C
 rw [h1] at hz
 obtain ⟨zf0,zf1,zf2⟩:=zfV_sound (mem:=C.memF) (ofVal_sound (C:=C) zv) hz
 obtain ⟨ht,_⟩:=elemT_spec he
 have hv:=opA_sound hs x
 rw [hx] at hv
 have hB:=hs.blk nm b hb
 have hBl:=hB.len
 have hw:=hB.width hbox
 have eb:b=⟨false,b.tys,b.xs⟩:=by rw [← hbox]
 have htup:VR C (.tup []) (.tuple #[]) := .tup [] [] rfl (fun i c v h=>by simp at h)
 have et:argTypes=#[t]:=by apply Array.ext';simp [hts]
 generalize hau:a.eval x=u at hv
 have ea:args.map a.eval=#[u]:=by apply Array.ext';simp [hargs,hau]
 have exec:∀ {w':World},(Builtin.clear_ #[t] o.type #[u]).run P w = .ok (.tuple #[]) w'→(execOp a.eval o).run P w = .ok (.value (.tuple #[])) w':=by
  intro w' h
  unfold execOp
  simp only [hop]
  unfold resolve
  simp only [pure_bind]
  unfold invoke
  simp only
  rw [ea,et]
  exact run_v h
 cases hv with
 | sub _ _ _ cap av c1 c2 c3 c4 =>
  by_cases h0:n=0
  ·subst h0
   have hrun:(Builtin.clear_ #[t] o.type #[.slice av 0 cap]).run P w = .ok (.tuple #[]) w:=by
    cases av <;> simp [Builtin.clear_,run_underlying ht]
   have hsame:(⟨false,b.tys,b.xs.take lo++List.replicate 0 z++b.xs.drop (lo+0)⟩:Blk)=b:=by
    conv=>rhs;rw [eb]
    simp
   rw [hsame]
   refine ⟨C,.value (.tuple #[]),.tuple #[],w,exec hrun,.inl rfl,Agree.refl _ _,?_⟩
   refine Sim.puts ?_ htup hd
   have hset:∀ nm' b',getH (setH st.heap nm b) nm'=some b'→getH st.heap nm'=some b':=fun nm' b' h=>by
    rw [getH_setH] at h
    split at h
    ·rename_i e;subst e;rw [hb];exact h
    ·exact h
   exact hs.withH ⟨fun n b1 h=>hs.blk n b1 (hset n b1 h),fun n b1 n' b2 g1 g2=>hs.apart n b1 n' b2 (hset n b1 g1) (hset n' b2 g2),fun z v hz=>⟨(hs.mem z v hz).1,(hs.mem z v hz).2.1,fun n b1 h=>(hs.mem z v hz).2.2 n b1 (hset n b1 h)⟩,hs.grown,hs.kept,hs.blk0,hs.own,hs.glob,fun k hk=>⟨(hs.frame k hk).1,(hs.frame k hk).2.1,fun n b1 h=>(hs.frame k hk).2.2 n b1 (hset n b1 h)⟩⟩ hs.env
  ·obtain ⟨hr,rfl⟩:=c2 (by omega)
   obtain ⟨r1,r2,r3,r4⟩:=hB.room hr
   rw [hBl] at c4
   have hus:(Builtin.zeroCells zv.cells n).size=n*P.cellsOf e:=by rw [size_zeroCells,h2]
   obtain ⟨us,hus'⟩:∃ us,us=(Builtin.zeroCells zv.cells n).toList:=⟨_,rfl⟩
   have hul:us.length=n*C.width nm:=by rw [hus',Array.length_toList,hus,hw,hty,hlen]
   have hget:∀ k,k<n*P.cellsOf e→us[k]?=some (zv.cells[k % P.cellsOf e]!):=fun k hk=>by
    rw [hus',Array.getElem?_toList]
    simp [Builtin.zeroCells,h2,hk]
   have hF:Flat C.memF b.tys (List.replicate n z) us:=by
    refine ⟨by rw [hul,List.length_replicate,hw],fun k y hy=>?_⟩
    have hk:k<n:=by have:=(List.getElem?_eq_some_iff.1 hy).1;simpa using this
    obtain rfl:y=z:=(List.mem_replicate.1 (List.mem_of_getElem? hy)).2
    rw [hty]
    refine ⟨zf0,fun j c hj=>?_⟩
    have hjl:j<P.cellsOf e:=by rw [← hlen,← zf0];exact (List.getElem?_eq_some_iff.1 hj).1
    have hle:(k+1)*P.cellsOf e≤n*P.cellsOf e:=Nat.mul_le_mul_right _ hk
    rw [Nat.add_mul,Nat.one_mul] at hle
    have htj:(ctsT P 6 e)[j]?=some ((ctsT P 6 e)[j]'(by omega)):=List.getElem?_eq_getElem (by omega)
    have huj:zv.cells[j]?=some (zv.cells[j]'(by omega)):=Array.getElem?_eq_getElem (by omega)
    refine ⟨zv.cells[j]'(by omega),_,?_,htj,zf2 j _ c _ htj hj huj⟩
    rw [hlen,hget _ (by omega),show (k*P.cellsOf e+j) % P.cellsOf e=j by rw [Nat.mul_comm,Nat.mul_add_mod];exact Nat.mod_eq_of_lt hjl]
    simp [h2,hjl]
   have hzl:(b.xs.take lo++List.replicate n z++b.xs.drop (lo+n)).length=b.xs.length:=by simp;omega
   have st1:BlkR C (w.setCells (C.loc nm).1 ((C.loc nm).2+lo*C.width nm) us) nm ⟨false,b.tys,b.xs.take lo++List.replicate n z++b.xs.drop (lo+n)⟩ :=
    (eb ▸ hB:BlkR C w nm ⟨false,b.tys,b.xs⟩).put hr hF (p:=lo) (by rw [List.length_replicate]) (by rw [hzl,← hBl]) rfl rfl (by omega) (by rw [List.length_replicate];omega) (by rw [hzl];exact r3) (by rw [hzl];exact hB.max)
   have hkle:(lo+n)*C.width nm≤C.room nm*C.width nm:=Nat.mul_le_mul_right _ (by omega)
   rw [Nat.add_mul] at hkle
   have hrun:(Builtin.clear_ #[t] o.type #[.slice (some (C.at nm lo 0)) n cap]).run P w = .ok (.tuple #[]) (w.setCells (C.loc nm).1 ((C.loc nm).2+lo*C.width nm) us):=by
    have hat:C.at nm lo 0=⟨(C.loc nm).1,(C.loc nm).2+lo*C.width nm,none⟩:=by unfold Ctx.at at_;simp
    have hst:=run_storeCells_cells (P:=P) (C.loc nm).1 ((C.loc nm).2+lo*C.width nm) us 0 w (fun j hj=>by
      have:=(r4 (lo*C.width nm+j) (by omega)).1
      rwa [show (C.loc nm).2+(lo*C.width nm+j)=(C.loc nm).2+lo*C.width nm+0+j by omega] at this)
     (fun j hj=>by
      have:=(r4 (lo*C.width nm+j) (by omega)).2
      rwa [show (C.loc nm).2+(lo*C.width nm+j)=(C.loc nm).2+lo*C.width nm+0+j by omega] at this) hF.one
    rw [Nat.add_zero] at hst
    have hn1:∃ m,n=m+1:=Nat.exists_eq_succ_of_ne_zero h0
    rw [hat]
    clear hF st1 hget
    obtain ⟨m,hm⟩:=hn1
    rw [hm] at hus' ⊢
    simp [Builtin.clear_,run_underlying ht,run_zero hi hzero,← hus',hst]
   have hdel:=hs.toHSim.del nm
   have away:∀ n b1,getH (delH st.heap nm) n=some b1→C.real n=true→(C.loc n).1 ≠ (C.loc nm).1:=fun n b1 hn hrn=>by
    rw [getH_delH] at hn
    split at hn
    ·cases hn
    ·rename_i hne
     exact hs.apart n b1 nm b hn hb hrn hr (fun e=>hne e.symm)
   have amem:(∀ z v,C.mem z=some v→z.block ≠ (C.loc nm).1)∧¬ C.fr (C.loc nm).1:=⟨fun z v hz e=>(hs.mem z v hz).2.2 nm b hb hr e.symm,fun hf=>(hs.frame _ hf).2.2 nm b hb hr rfl⟩
   have hw1:=hdel.world (grownBy_setCells w (C.loc nm).1 ((C.loc nm).2+lo*C.width nm) us) (fun k hk=>by
    obtain rfl:=Option.some.inj hk
    exact ⟨r1,fun n b1=>away n b1,amem⟩)
   have hw2:=hw1.setBlk st1 fun _=>⟨fun n b1 _ hn hrn=>away n b1 hn hrn,amem⟩
   have hsame:∀ n' b',getH (setH (delH st.heap nm) nm b') n'=getH (setH st.heap nm b') n':=fun n' b'=>by
    rw [getH_setH,getH_setH,getH_delH]
    split <;> rfl
   have hw3:HSim C (setH st.heap nm ⟨false,b.tys,b.xs.take lo++List.replicate n z++b.xs.drop (lo+n)⟩) (w.setCells (C.loc nm).1 ((C.loc nm).2+lo*C.width nm) us) :=
    ⟨fun n b1 hn=>hw2.blk n b1 (by rw [hsame];exact hn),fun n b1 n' b2 g1 g2=>hw2.apart n b1 n' b2 (by rw [hsame];exact g1) (by rw [hsame];exact g2),
     fun z v hz=>⟨(hw2.mem z v hz).1,(hw2.mem z v hz).2.1,fun n b1 hn=>(hw2.mem z v hz).2.2 n b1 (by rw [hsame];exact hn)⟩,hw2.grown,hw2.kept,hw2.blk0,hw2.own,hw2.glob,fun k hk=>⟨(hw2.frame k hk).1,(hw2.frame k hk).2.1,fun n b1 hn=>(hw2.frame k hk).2.2 n b1 (by rw [hsame];exact hn)⟩⟩
   exact ⟨C,.value (.tuple #[]),.tuple #[],_,exec hrun,.inl rfl,Agree.refl _ _,(hs.withH hw3 hs.env).puts htup hd⟩
end
end Go.Proofs.VE
