import Derived.Orders
import Derived.Deep.LoopGhost
namespace Go.Proofs.VE
open Go
abbrev Nm:=List Nat
inductive CT where
 | int (k:IntKind)
 | bool
 | str
 | sl (e:List CT)
 | fnc (f:Nat)
 | oth
 deriving Inhabited
inductive AV where
 | undef
 | bool (b:Bool)
 | int (k:IntKind) (n:Int)
 | str (s:ByteArray)
 | nilp
 | ptr (nm:Nm) (i off:Nat)
 | rptr (tys:List CT) (x:AV) (off:Nat)
 | snil
 | sle (nil:Bool) (tys:List CT)
 | own (nm:Nm)
 | sub (nm:Nm) (lo len:Nat)
 | sl (tys:List CT) (xs:List AV)
 | fl (tys:List CT) (xs:List AV)
 | fn (f:Nat) (caps:List AV)
 | nilfn
 | agg (cs:List AV)
 | tup (vs:List AV)
 deriving Inhabited
structure Blk where
 box:Bool
 tys:List CT
 xs:List AV
 deriving Inhabited
structure St where
 env:List (Nat × AV)
 heap:List (Nm × Blk)
 deriving Inhabited
def AV.cells:AV→List AV
 | .agg cs=>cs
 | x=>[x]
def nmEq:Nm→Nm→Bool
 | [],[]=>true
 | a :: x,b :: y=>bif Nat.beq a b then nmEq x y else false
 | _,_=>false
def nmLt:Nm→Nm→Bool
 | _,[]=>false
 | [],_ :: _=>true
 | a :: x,b :: y=>bif Nat.blt a b then true else bif Nat.beq a b then nmLt x y else false
def getE:List (Nat × AV)→Nat→AV
 | [],_ => .undef
 | (t,v) :: r,d=>bif Nat.beq t d then v else getE r d
def setE:List (Nat × AV)→Nat→AV→List (Nat × AV)
 | [],d,v=>[(d,v)]
 | (t,u) :: r,d,v=>bif Nat.beq t d then (d,v) :: r else bif Nat.blt d t then (d,v) :: (t,u) :: r else (t,u) :: setE r d v
def getH:List (Nm × Blk)→Nm→Option Blk
 | [],_=>none
 | (n,b) :: r,m=>bif nmEq n m then some b else getH r m
def setH:List (Nm × Blk)→Nm→Blk→List (Nm × Blk)
 | [],m,b=>[(m,b)]
 | (n,c) :: r,m,b=>bif nmEq n m then (m,b) :: r else bif nmLt m n then (m,b) :: (n,c) :: r else (n,c) :: setH r m b
def delH:List (Nm × Blk)→Nm→List (Nm × Blk)
 | [],_=>[]
 | (n,c) :: r,m=>bif nmEq n m then delH r m else (n,c) :: delH r m
def St.get (st:St) (m:Nm):Option Blk:=getH st.heap m
def St.put (st:St) (m:Nm) (b:Blk):St:={ st with heap:=setH st.heap m b }
def St.set (st:St) (d:Option Nat) (v:AV):St :=
 match d with
 | some d=>{ st with env:=setE st.env d v }
 | none=>st
def ofVal1:Value→AV
 | .bool b => .bool b
 | .int k n => .int k n
 | .string s => .str s
 | .pointer none => .nilp
 | .slice none 0 0 => .snil
 | .nilFunc => .nilfn
 | _ => .undef
def ofVal:Value→AV
 | .agg cs=>bif cs.toList.all fun v=>match v with | .agg _ | .tuple _=>false|_=>true then .agg (cs.toList.map ofVal1) else .undef
 | .tuple vs => .tup (vs.toList.map ofVal1)
 | v=>ofVal1 v
def toV:AV→Option Value
 | .bool b=>some (.bool b)
 | .int k n=>some (.int k n)
 | .str s=>some (.string s)
 | _=>none
def ofV:Value→Option AV
 | .bool b=>some (.bool b)
 | .int k n=>some (.int k n)
 | .string s=>some (.str s)
 | _=>none
def okV:AV→Bool
 | .undef | .tup _=>false
 | _=>true
def kEq:IntKind→IntKind→Bool
 | .i8,.i8 | .i16,.i16 | .i32,.i32 | .i64,.i64 | .u8,.u8 | .u16,.u16 | .u32,.u32 | .u64,.u64=>true
 | _,_=>false
mutual
def ctEq:CT→CT→Bool
 | .int k,.int j=>kEq k j
 | .bool,.bool=>true
 | .str,.str=>true
 | .sl a,.sl b=>ctsEq a b
 | .fnc a,.fnc b=>Nat.beq a b
 | _,_=>false
def ctsEq:List CT→List CT→Bool
 | [],[]=>true
 | a :: x,b :: y=>ctEq a b && ctsEq x y
 | _,_=>false
end
def flatCT:CT→Bool
 | .int _ | .bool | .str=>true
 | _=>false
def confC:CT→AV→Bool
 | .int k,.int j _=>kEq k j
 | .bool,.bool _=>true
 | .str,.str _=>true
 | .sl e,.sl e' _=>ctsEq e e'
 | _,_=>false
def confCs:List CT→List AV→Bool
 | [],[]=>true
 | t :: ts,x :: xs=>confC t x && confCs ts xs
 | _,_=>false
def fI (x:AV) (o:Nat):Int:=match x.cells[o]? with|some (.int _ n)=>n|_=>0
def fB (x:AV) (o:Nat):Bool:=match x.cells[o]? with|some (.bool b)=>b|_=>false
def fS (x:AV) (o:Nat):ByteArray:=match x.cells[o]? with|some (.str s)=>s|_ => .empty
def fL (x:AV) (o:Nat):List AV:=match x.cells[o]? with|some (.sl _ xs)=>xs|_=>[]
def bytesA (xs:List AV):ByteArray:=xs.foldl (fun r x=>r.push (UInt8.ofNat (fI x 0).toNat)) .empty
def proj (x:AV) (o:Nat):CT→AV
 | .int k => .int k (fI x o)
 | .bool => .bool (fB x o)
 | .str => .str (fS x o)
 | .sl e => .sl e (fL x o)
 | .fnc f => .fn f []
 | .oth => .undef
def projs (x:AV):Nat→List CT→List AV
 | _,[]=>[]
 | o,c :: cs=>proj x o c :: projs x (o+1) cs
def runP (P:Program) {α:Type}:Sem α→Option α
 | .pure a=>some a
 | .program k=>runP P (k P)
 | _=>none
def aggT (P:Program) (t:TypeId):Option Bool :=
 match P.underlying t with
 | some (.struct _)|some (.array _ _)=>some true
 | some _=>some false
 | none=>none
def zeroA (P:Program) (t:TypeId):Option AV:=((P.info? t).bind (·.zero)).map ofVal
def ctsT (P:Program):Nat→TypeId→List CT
 | 0,_=>[.oth]
 | n+1,t =>
  match P.underlying t with
  | some .bool=>[.bool]
  | some (.int k)=>[.int k]
  | some .string=>[.str]
  | some (.slice e)=>[.sl (ctsT P n e)]
  | some (.struct fs)=>fs.toList.flatMap fun f=>ctsT P n f.type
  | some (.array k e)=>(List.replicate k e).flatMap fun e=>ctsT P n e
  | _=>[.oth]
def goodCT:CT→Bool
 | .oth=>false
 | .fnc _=>false
 | .sl e=>e.all flatCT
 | _=>true
def elemT (P:Program) (t:TypeId):Option TypeId :=
 match P.underlying t with
 | some (.slice e) =>
  match P.underlying e with
  | some _=>some e
  | none=>none
 | _=>none
def fieldT (P:Program) (t:TypeId) (f:Nat):Option Field :=
 match P.underlying t with
 | some (.struct fs)=>fs[f]?
 | _=>none
def partT (P:Program) (t:TypeId) (tys:List CT) (x:AV) (off:Nat):Option AV :=
 match aggT P t with
 | some true=>bif Nat.ble (off+P.cellsOf t) tys.length then some (.agg (projs x off ((tys.drop off).take (P.cellsOf t)))) else none
 | some false =>
  match tys[off]? with
  | some c=>some (proj x off c)
  | none=>none
 | none=>none
def partA (P:Program) (t:TypeId) (x:AV) (off:Nat):Option AV :=
 match aggT P t with
 | some true=>bif Nat.ble (off+P.cellsOf t) x.cells.length then some (.agg ((x.cells.drop off).take (P.cellsOf t))) else none
 | some false=>x.cells[off]?
 | none=>none
def partB (P:Program) (t:TypeId) (b:Blk) (i off:Nat):Option AV :=
 bif b.box then (bif Nat.beq i 0 then (match b.xs with|[x]=>partA P t x off|_=>none) else none)
 else partT P t b.tys (b.xs.getD i .undef) off
def pickA (c:Bool):AV→AV→AV
 | .bool x,.bool y => .bool (bif c then x else y)
 | a,b=>bif c then a else b
def sliceA (heap:List (Nm × Blk)) (sz:Nat) (x:AV) (lo hi:Option Int):Option (Bool × AV) :=
 match x with
 | .sl tys xs=>some (Nat.beq tys.length sz && (decide (0≤lo.getD 0) && decide (lo.getD 0≤hi.getD xs.length) && decide (hi.getD xs.length≤xs.length)),.sl tys ((xs.take (hi.getD xs.length).toNat).drop (lo.getD 0).toNat))
 | .own nm =>
  match getH heap nm with
  | some b=>some (!b.box && Nat.beq b.tys.length sz && (decide (0≤lo.getD 0) && decide (lo.getD 0≤hi.getD b.xs.length) && decide (hi.getD b.xs.length≤b.xs.length)),.sub nm (lo.getD 0).toNat ((hi.getD b.xs.length).toNat - (lo.getD 0).toNat))
  | none=>none
 | .sub nm o n =>
  match getH heap nm with
  | some b=>some (!b.box && Nat.beq b.tys.length sz && (decide (0≤lo.getD 0) && decide (lo.getD 0≤hi.getD n) && decide (hi.getD n≤n)),.sub nm (o+(lo.getD 0).toNat) ((hi.getD n).toNat - (lo.getD 0).toNat))
  | none=>none
 | .snil=>some (decide (0≤lo.getD 0) && decide (lo.getD 0≤hi.getD 0) && decide (hi.getD 0≤0),.snil)
 | _=>none
def sliceS (x:AV) (lo hi:Option Int):Option (Bool × AV) :=
 match x with
 | .str s=>some (decide (0≤lo.getD 0) && decide (lo.getD 0≤hi.getD s.size) && decide (hi.getD s.size≤s.size),.str (s.extract (lo.getD 0).toNat (hi.getD s.size).toNat))
 | _=>none
def intOf?:AV→Option Int
 | .int _ n=>some n
 | _=>none
def indexAddrA (P:Program) (heap:List (Nm × Blk)) (t:TypeId) (x:AV) (i:Int):Option (Bool × AV) :=
 match elemT P t with
 | some e =>
  match x with
  | .own nm =>
   match getH heap nm with
   | some b=>some (!b.box && Nat.beq b.tys.length (P.cellsOf e) && (decide (0≤i) && decide (i<b.xs.length)),.ptr nm i.toNat 0)
   | none=>none
  | .sub nm o n =>
   match getH heap nm with
   | some b=>some (!b.box && Nat.beq b.tys.length (P.cellsOf e) && (decide (0≤i) && decide (i<n) && decide (o+n≤b.xs.length)),.ptr nm (o+i.toNat) 0)
   | none=>none
  | .sl tys xs=>some (Nat.beq tys.length (P.cellsOf e) && (decide (0≤i) && decide (i<xs.length)),.rptr tys (xs.getD i.toNat .undef) 0)
  | _=>none
 | none =>
 match P.underlying t with
 | some (.array n e) =>
  match x with
  | .ptr nm j off =>
   some (decide (0≤i) && decide (i<n) && !Nat.beq (P.cellsOf e) 0,.ptr nm j (off+i.toNat*P.cellsOf e))
  | .rptr z y off =>
   some (decide (0≤i) && decide (i<n) && !Nat.beq (P.cellsOf e) 0,.rptr z y (off+i.toNat*P.cellsOf e))
  | _=>none
 | _=>none
def lenA (heap:List (Nm × Blk)):AV→Option Nat
 | .own nm=>match getH heap nm with|some b=>bif b.box then none else some b.xs.length|none=>none
 | .sub _ _ n=>some n
 | .sl _ xs=>some xs.length
 | .snil=>some 0
 | .sle _ _=>some 0
 | _=>none
def binA (P:Program) (op:BinOp) (t:TypeId) (x y:AV):Option (Bool × AV) :=
 match op,x,y with
 | .quo,.int .i64 a,.int .i64 b=>some (!decide (b=0),.int .i64 (IntKind.i64.wrap (a.tdiv b)))
 | .rem,.int .i64 a,.int .i64 b=>some (!decide (b=0),.int .i64 (a.tmod b))
 | .add,.str a,.str b=>some (decide (a.size+b.size≤4611686018427387904),.str (a++b))
 | op,x,y =>
  match toV x,toV y with
  | some v,some u=>((runP P (do eqGuard op t (.const v) (.const u) v u;binOp op t v u)).bind ofV).map fun v=>(true,v)
  | _,_=>none
def eqC (P:Program) (t:TypeId) (a b:AV):Option Bool :=
 match P.underlying t,a,b with
 | some (.int _),.int k a,.int j b=>bif kEq k j then some (decide (a=b)) else none
 | some .bool,.bool a,.bool b=>some (a == b)
 | some .string,.str a,.str b=>some (a == b)
 | _,_,_=>none
def eqFs (P:Program) (xs ys:List AV):List Field→Option Bool
 | []=>some true
 | f :: fs =>
  bif f.name == "_" then none else
  match partA P f.type (.agg xs) f.offset,partA P f.type (.agg ys) f.offset,eqFs P xs ys fs with
  | some a,some b,some q =>
   match eqC P f.type a b with
   | some p=>some (bif p then q else false)
   | none=>none
  | _,_,_=>none
def eqS (P:Program) (t:TypeId) (xs ys:List AV):Option Bool :=
 match P.underlying t with
 | some (.struct fs)=>bif !P.eqGuardType P.depth t && !P.stoodInHeld t then eqFs P xs ys fs.toList else none
 | _=>none
def nilS (P:Program) (t:TypeId) (x:AV):Option (Bool × Bool) :=
 match P.underlying t with
 | some (.slice _) =>
  match x with
  | .snil=>some (true,true)
  | .sle b _=>some (true,b)
  | .sl _ xs=>some (decide (0<xs.length),false)
  | _=>none
 | _=>none
def binX (P:Program) (op:BinOp) (t:TypeId) (x y:AV):Option (Bool × AV) :=
 match op,x,y with
 | .eql,.agg xs,.agg ys=>(eqS P t xs ys).map fun b=>(true,.bool b)
 | .neq,.agg xs,.agg ys=>(eqS P t xs ys).map fun b=>(true,.bool (!b))
 | .eql,x,.snil=>(nilS P t x).map fun b=>(b.1,.bool b.2)
 | .neq,x,.snil=>(nilS P t x).map fun b=>(b.1,.bool (!b.2))
 | op,x,y=>binA P op t x y
def foldMin:Int→List AV→Option Int
 | n,[]=>some n
 | n,.int .i64 m :: r=>foldMin (if m<n then m else n) r
 | _,_=>none
def foldMax:Int→List AV→Option Int
 | n,[]=>some n
 | n,.int .i64 m :: r=>foldMax (if m > n then m else n) r
 | _,_=>none
def strAt (s:ByteArray) (i:Nat):Int:=((s[i]?).getD 0).toNat
def layAt (cs:List AV) (off:Nat) (vs:List AV):List AV:=cs.take off++vs++cs.drop (off+vs.length)
def fillA (place:Nat→Option (Nat × Nat)) (cells:List AV):List (Nat × AV)→Option (List AV)
 | []=>some cells
 | (i,v) :: rest =>
  match place i with
  | none=>none
  | some (off,size) =>
   bif okV v && Nat.beq v.cells.length size && Nat.ble (off+v.cells.length) cells.length then fillA place (layAt cells off v.cells) rest else none
def opA (e:List (Nat × AV)):Operand→AV
 | .tmp t=>getE e t
 | .const v=>ofVal v
 | .global _ => .undef
 | .func f => .fn f []
def valA (P:Program) (st:St) (op:Op):Option (Bool × AV) :=
 match op with
 | .move x | .assign x=>some (true,opA st.env x)
 | .pick c a b =>
  match opA st.env c with
  | .bool c=>some (true,pickA c (opA st.env a) (opA st.env b))
  | _=>none
 | .load t a =>
  match opA st.env a with
  | .ptr nm i off =>
   match getH st.heap nm with
   | some b=>(partB P t b i off).map (true,·)
   | none=>none
  | .rptr tys x off=>(partT P t tys x off).map (true,·)
  | _=>none
 | .nilCheck x =>
  match opA st.env x with
  | .ptr nm i off=>some (true,.ptr nm i off)
  | .rptr z x off=>some (true,.rptr z x off)
  | .fn f cs=>some (true,.fn f cs)
  | _=>none
 | .binOp op t x y _=>binX P op t (opA st.env x) (opA st.env y)
 | .unOp op _ x =>
  match toV (opA st.env x) with
  | some v=>((runP P (Op.unary op v)).bind ofV).map (true,·)
  | none=>none
 | .convert s d x =>
  match opA st.env x with
  | .int k n=>((runP P (convert s d (.int k n))).bind ofV).map (true,·)
  | .own nm =>
   match (elemT P s).bind P.underlying,P.underlying d,getH st.heap nm with
   | some (.int .u8),some .string,some b=>bif !b.box && ctsEq b.tys [.int .u8] then some (true,.str (bytesA b.xs)) else none
   | _,_,_=>none
  | _=>none
 | .makeFunc (.func f) first caps=>bif first.isEmpty then some (true,.fn f (caps.toList.map (opA st.env))) else none
 | .slice t x lo hi mx =>
  match mx,lo.map (fun x=>intOf? (opA st.env x)),hi.map (fun x=>intOf? (opA st.env x)) with
  | some _,_,_=>none
  | none,some none,_=>none
  | none,_,some none=>none
  | none,l,h =>
   match elemT P t with
   | some e=>sliceA st.heap (P.cellsOf e) (opA st.env x) (l.bind id) (h.bind id)
   | none =>
    match P.underlying t with
    | some .string=>sliceS (opA st.env x) (l.bind id) (h.bind id)
    | _=>none
 | .fieldAddr s x f =>
  match fieldT P s f with
  | some fd =>
   bif Nat.beq (P.cellsOf fd.type) 0 then none else
   match opA st.env x with
   | .ptr nm i off=>some (true,.ptr nm i (off+fd.offset))
   | .rptr z y off=>some (true,.rptr z y (off+fd.offset))
   | _=>none
  | none=>none
 | .field t x f =>
  match fieldT P t f with
  | some fd =>
   match opA st.env x with
   | .agg cs=>(partA P fd.type (.agg cs) fd.offset).map (true,·)
   | _=>none
  | none=>none
 | .indexAddr t x i =>
  match intOf? (opA st.env i) with
  | some i=>indexAddrA P st.heap t (opA st.env x) i
  | none=>none
 | .index t x i =>
  match P.underlying t,opA st.env x,intOf? (opA st.env i) with
  | some .string,.str s,some i=>some (decide (0≤i) && decide (i<s.size),.int .u8 (strAt s i.toNat))
  | some (.array n e),.agg cs,some i=>(partA P e (.agg cs) (i.toNat*P.cellsOf e)).map (decide (0≤i) && decide (i<n),·)
  | _,_,_=>none
 | .extract x k =>
  match opA st.env x with
  | .tup vs=>vs[k]?.map (true,·)
  | _=>none
 | .build t parts =>
  match P.underlying t,zeroA P t with
  | some (.struct fs),some z =>
   bif okV z && fs.toList.all (fun f=>(P.info? f.type).isSome) then
    (fillA (fun i=>(fs[i]?).map fun f=>(f.offset,P.cellsOf f.type)) z.cells (parts.toList.map fun (i,x)=>(i,opA st.env x))).map fun cs=>(true,.agg cs)
   else none
  | some (.array _ e),some z =>
   bif okV z && (P.info? e).isSome then
    (fillA (fun i=>some (i*P.cellsOf e,P.cellsOf e)) z.cells (parts.toList.map fun (i,x)=>(i,opA st.env x))).map fun cs=>(true,.agg cs)
   else none
  | _,_=>none
 | .call { callee := .builtin .len,args,argTypes } =>
  match args.toList,(argTypes[0]?).bind P.underlying with
  | [x],some (.slice _)=>(lenA st.heap (opA st.env x)).map fun (n:Nat)=>(true,AV.int .i64 (n:Int))
  | [x],some .string =>
   match opA st.env x with
   | .str s=>some (true,.int .i64 s.size)
   | _=>none
  | _,_=>none
 | .call { callee := .builtin .min,args,.. } =>
  match args.toList.map (opA st.env) with
  | .int .i64 n :: r=>(foldMin n r).map fun n=>(true,.int .i64 n)
  | _=>none
 | .call { callee := .builtin .max,args,.. } =>
  match args.toList.map (opA st.env) with
  | .int .i64 n :: r=>(foldMax n r).map fun n=>(true,.int .i64 n)
  | _=>none
 | _=>none
end Go.Proofs.VE
