import Derived.Test.YtealoedecngaoaaGreatDoorP5
import Derived.Shelf.Strconv.Itoa3
import Derived.Shelf.Strings.OnBuilder
namespace Go.Proofs.VE
open Go
theorem retOK_str (w w':World) (s:ByteArray):RetOK w w' (.str s) (.string s):=fun _=>⟨[],fun _=>none,.nil,.nil,(fun _ _ h=>by cases h),fun _ _ => .str s⟩
def itoaB (n:Int):ByteArray:=⟨(Lib.itoa n).toArray⟩
def itoaM:TModel
 | [.int .i64 n]=>some (decide (-9223372036854775808≤n) && decide (n≤9223372036854775807),.str (itoaB n))
 | _=>none
structure ItoaWalk [Glob] (P:Program) (g:FuncId):Prop where
 known:Known P g
 calls:∀ (n:Int) (w:World),-9223372036854775808≤n→n≤9223372036854775807→Glob.ok w →
  Calls P g #[.int .i64 n] w fun e w'=>e = .returned (.string ⟨(Lib.itoa n).toArray⟩)∧∃ k os,w'=Sort.grow (w.drewN k) os
theorem below_grow (n:Nat) (w:World) (k:Nat) (os:Array Obj) (h:n≤w.heap.size):RowKit.Below n w (Sort.grow (w.drewN k) os) :=
 ⟨rfl,rfl,rfl,by rw [Sort.size_grow];exact Nat.le_add_right _ _,fun j hj=>Sort.heap_grow_old (w.drewN k) os (Nat.lt_of_lt_of_le hj h)⟩
theorem itoa_meets [Glob] {P:Program} {g:FuncId} (h:ItoaWalk P g):Meets P g itoaM:=by
 refine ⟨h.known,fun xs r hm w us hG hl hv=>?_⟩
 unfold itoaM at hm
 split at hm
 ·rename_i n
  simp only [Option.some.injEq,Prod.mk.injEq,Bool.and_eq_true,decide_eq_true_eq] at hm
  obtain ⟨⟨h0,h1⟩,rfl⟩:=hm
  match us,hl with
  | [u],_ =>
  have v0:=hv 0 _ _ rfl rfl
  cases v0
  refine (h.calls n w h0 h1 hG.1).mono fun e w' hw=>?_
  obtain ⟨rfl,k,os,rfl⟩:=hw
  exact ⟨_,rfl,below_grow _ w k os (Nat.le_refl _),retOK_str _ _ _⟩
 ·cases hm
def joinB (xs:List AV) (sep:ByteArray):ByteArray:=⟨(Lib.join ((xs.map fun x=>fS x 0).map (·.data.toList)) sep.data.toList).toArray⟩
def joinM:TModel
 | [.sl tys xs,.str sep]=>bif ctsEq tys [.str] then some (decide (xs.length≤140737488355328) && decide ((joinB xs sep).size≤140737488355328),.str (joinB xs sep)) else none
 | _=>none
structure JoinWalk (P:Program) (g:FuncId):Prop where
 known:Known P g
 none_:∀ (a:Option Addr) (c:Nat) (sep:ByteArray) (w:World),Calls P g #[.slice a 0 c,.string sep] w fun e w'=>e = .returned (.string ByteArray.empty)∧w'=w
 some_:∀ (bk o c:Nat) (xs:List ByteArray) (sep:ByteArray) (w:World),(∀ (j:Nat) x,xs[j]?=some x→w.cell? ⟨bk,o+j,none⟩=some (.string x))→bk<w.heap.size→xs.length≤140737488355328→xs.length≤c →
  (Lib.join (xs.map (·.data.toList)) sep.data.toList).length≤140737488355328 →
  Calls P g #[.slice (some ⟨bk,o,none⟩) xs.length c,.string sep] w fun e w'=>e = .returned (.string ⟨(Lib.join (xs.map (·.data.toList)) sep.data.toList).toArray⟩)∧RowKit.Below w.heap.size w w'
theorem join_meets [Glob] {P:Program} {g:FuncId} (h:JoinWalk P g):Meets P g joinM:=by
 refine ⟨h.known,fun xs r hm w us hG hl hv=>?_⟩
 unfold joinM at hm
 split at hm
 ·rename_i tys ys sep
  have hm2:=bif_pair hm
  clear hm
  obtain ⟨ht,hm⟩:=hm2
  obtain rfl:=ctsEq_eq _ _ ht
  simp only [Option.some.injEq,Prod.mk.injEq,Bool.and_eq_true,decide_eq_true_eq] at hm
  obtain ⟨⟨h0,h1⟩,rfl⟩:=hm
  match us,hl with
  | [u0,u1],_ =>
  have v0:=hv 0 _ _ rfl rfl
  have v1:=hv 1 _ _ rfl rfl
  cases v1
  cases v0 with
  | sl _ _ _ hvc =>
  cases hvc with
  | sl _ _ a cap U hcap hmax hmm ha hx hvv =>
  by_cases hz:ys.length=0
  ·obtain rfl:=List.eq_nil_of_length_eq_zero hz
   refine (h.none_ a cap sep w).mono fun e w' hw=>?_
   obtain ⟨rfl,rfl⟩:=hw
   exact ⟨_,rfl,RowKit.Below.refl _ _,retOK_str _ _ _⟩
  ·obtain ⟨b,o,rfl⟩:=ha (by omega)
   have hc:∀ (j:Nat) x,(ys.map fun x=>fS x 0)[j]?=some x→w.cell? ⟨b,o+j,none⟩=some (.string x):=fun j x hj=>by
    rw [List.getElem?_map] at hj
    cases hy:ys[j]? with
    | none=>rw [hy] at hj;cases hj
    | some y =>
     rw [hy] at hj
     obtain rfl:=Option.some.inj hj
     have hjl:=(List.getElem?_eq_some_iff.1 hy).1
     obtain ⟨b',o',e1,e2⟩:=hmm j 0 hjl (by simp)
     simp only [Option.some.injEq,Addr.mk.injEq] at e1
     obtain ⟨rfl,rfl,_⟩:=e1
     have hyl:=hx j y hy
     simp only [List.length_singleton] at hyl
     have g:=hvv j y 0 .str y.cells[0] hy rfl (List.getElem?_eq_getElem (by omega))
     have e2':w.cell? (at_ b o 1 j 0)=some (U j 0):=e2
     unfold at_ at e2'
     simp only [Nat.mul_one,Nat.add_zero] at e2'
     rw [e2']
     show some (U j 0)=some (Value.string (fS y 0))
     unfold fS
     rw [List.getElem?_eq_getElem (show 0<y.cells.length by omega)]
     generalize y.cells[0]=c at g
     generalize U j 0=u at g
     cases g
     rfl
   have hlen:(ys.map fun x=>fS x 0).length=ys.length:=List.length_map _
   have key:=h.some_ b o cap (ys.map fun x=>fS x 0) sep w hc (World.block_lt_of_cell? w _ (by
     have:=hc 0 _ (List.getElem?_eq_getElem (by rw [hlen];omega))
     exact this)) (by rw [hlen];exact h0) (by rw [hlen];exact hcap) (by simpa [joinB,ByteArray.size] using h1)
   rw [hlen] at key
   refine key.mono fun e w' hw=>?_
   obtain ⟨rfl,hb⟩:=hw
   exact ⟨_,rfl,hb,retOK_str _ _ _⟩
 ·cases hm
end Go.Proofs.VE
