import Derived.Test.YteppndjaglhehaaDoorP3
import Derived.Test.YteppndjaglhehaaDoorRows
import Derived.Lib.LaidTab
import Derived.Lib.ItoaNum
import Derived.MakeChecks
import Derived.KernelRfl
import Derived.Shelf.Vars
import Derived.Handed
import Derived.Stop.LaidErr
import Derived.SizedLaws
namespace Go.Proofs.YteppndjaglhehaaDoor
open Go Go.Proofs.VE
def laid7:List (String × DataW Unit):=[("math/bits.deBruijn32tab",Rows.laid_math_bits_deBruijn32tab),("math/bits.deBruijn64tab",Rows.laid_math_bits_deBruijn64tab),("internal/strconv.uint64pow10",Rows.laid_internal_strconv_uint64pow10),("unicode/utf8.acceptRanges",Rows.laid_unicode_utf8_acceptRanges),("strconv.ErrRange",Rows.laid_strconv_ErrRange),("strconv.ErrSyntax",Rows.laid_strconv_ErrSyntax),("unicode/utf8.first",Rows.laid_unicode_utf8_first)]
theorem gPow:Tryd.prog.globalNamed "internal/strconv.uint64pow10" = some 1:=by kernel_rfl
theorem tPow:(Tryd.prog.globals[1]?).map (·.type)=some 159:=by kernel_rfl
abbrev TabP (w:World):Prop:=Lib.TabIs Tryd.prog w "internal/strconv.uint64pow10" .u64 Lib.pow10Tab
theorem pow_stable (w w':World) (h:∀ k,k<8→w'.heap[k]?=w.heap[k]?) (ok:TabP w):TabP w':=by
 unfold TabP Lib.TabIs World.var? at ok ⊢
 simp only [gPow,Option.bind_some] at ok ⊢
 rw [h 1 (by decide)]
 exact ok
def errAt (w:World) (g:Nat):Prop:=∃ ev,w.cell? ⟨g,0,none⟩=some ev∧(ev = .nilIface∨∃ te pe,ev = .iface te pe)
def intAt (w:World) (g:Nat):Prop:=∃ m,w.cell? ⟨g,0,none⟩=some (.int .i64 m)
theorem cell_stable {w w':World} (h:∀ k,k<8→w'.heap[k]?=w.heap[k]?) (g:Nat) (hg:g<8):w'.cell? ⟨g,0,none⟩=w.cell? ⟨g,0,none⟩:=by
 unfold World.cell?
 simp only
 rw [h g hg]
structure GOk (w:World):Prop where
 tab:TabP w
 max:intAt w 0
 syn:errAt w 4
 rng:errAt w 5
theorem ok_stable (w w':World) (h:∀ k,k<8→w'.heap[k]?=w.heap[k]?) (ok:GOk w):GOk w' :=
 ⟨pow_stable w w' h ok.tab,by unfold intAt;rw [cell_stable h 0 (by decide)];exact ok.max,by unfold errAt;rw [cell_stable h 4 (by decide)];exact ok.syn,by unfold errAt;rw [cell_stable h 5 (by decide)];exact ok.rng⟩
instance glob0:Glob:=⟨GOk,8,ok_stable⟩
theorem sized (w:World) (h:w.ShapedOpen Tryd.prog):8≤w.heap.size:=by
 obtain ⟨cs,hh,_,_⟩:=h.1 7 _ _ (of_decide_eq_true (by kernel_rfl):7<Tryd.prog.globals.size) (by kernel_rfl:_=some (#[.int .u8 0,.int .u8 0,.int .u8 0,.int .u8 0,.int .u8 0,.int .u8 0,.int .u8 0,.int .u8 0,.int .u8 0,.int .u8 0,.int .u8 0,.int .u8 0,.int .u8 0,.int .u8 0,.int .u8 0,.int .u8 0,.int .u8 0,.int .u8 0,.int .u8 0,.int .u8 0,.int .u8 0,.int .u8 0,.int .u8 0,.int .u8 0,.int .u8 0,.int .u8 0,.int .u8 0,.int .u8 0,.int .u8 0,.int .u8 0,.int .u8 0,.int .u8 0,.int .u8 0,.int .u8 0,.int .u8 0,.int .u8 0,.int .u8 0,.int .u8 0,.int .u8 0,.int .u8 0,.int .u8 0,.int .u8 0,.int .u8 0,.int .u8 0,.int .u8 0,.int .u8 0,.int .u8 0,.int .u8 0,.int .u8 0,.int .u8 0,.int .u8 0,.int .u8 0,.int .u8 0,.int .u8 0,.int .u8 0,.int .u8 0,.int .u8 0,.int .u8 0,.int .u8 0,.int .u8 0,.int .u8 0,.int .u8 0,.int .u8 0,.int .u8 0],182))
 exact (Array.getElem?_eq_some_iff.1 hh).1
theorem ptrRow (u:TypeId) (h:Tryd.prog.typeName? 3 u=some "*errors.errorString"):u=178 :=
 typeName_ptr_named (nm := "errors.errorString") (by rw [show "*" ++ "errors.errorString" = "*errors.errorString" by decide];kernel_rfl) (by kernel_rfl) (by decide) u (by rw [show "*" ++ "errors.errorString" = "*errors.errorString" by decide];exact h)
theorem glob_of (w:World) (h:laidMetH Tryd.prog laid7 w) (hs:w.ShapedOpen Tryd.prog):Glob.ok w∧Glob.n≤w.heap.size:=by
 rw [MakeChecks.laidMetH_plain _ _ _ (by kernel_rfl)] at h
 have hr:=h.tail.tail.tail.tail
 have hsy:=h.tail.tail.tail.tail.tail
 obtain ⟨ps,⟨g0,t0,cs0,f0,p0,q0,hg0,ht0,hv0,hd0,⟨g1,t1,cs1,f1,p1,q1,hg1,ht1,hv1,hd1,⟨g2,t2,cs2,f2,p2,q2,hg2,ht2,hv2,hd2,_,_⟩,_⟩,_⟩,_,_⟩:=h
 obtain rfl:=Option.some.inj (gPow.symm.trans hg2)
 obtain rfl:=Option.some.inj (tPow.symm.trans ht2)
 have ok:TabP w:=by
  have e:cs2.toList=Lib.pow10Tab.map fun z=>Value.int .u64 z:=Lib.cells_of_tab (zs:=Lib.pow10Tab) (k := .u64) Tryd.underlying159 (by kernel_rfl) (by kernel_rfl) (by kernel_rfl) hd2
  unfold TabP Lib.TabIs
  rw [hv2,← e]
 obtain ⟨a1,s1,hv1,_⟩:=laid_sentinel hr (by kernel_rfl:Tryd.prog.globalNamed "strconv.ErrRange" = some 5) (by kernel_rfl:(Tryd.prog.globals[5]?).map (·.type)=some 92) Tryd.underlying92 ptrRow Tryd.underlying178 Tryd.underlying180 rfl rfl Tryd.underlying9 (by kernel_rfl) (by kernel_rfl)
 obtain ⟨a2,s2,hv2,_⟩:=laid_sentinel hsy (by kernel_rfl:Tryd.prog.globalNamed "strconv.ErrSyntax" = some 4) (by kernel_rfl:(Tryd.prog.globals[4]?).map (·.type)=some 92) Tryd.underlying92 ptrRow Tryd.underlying178 Tryd.underlying180 rfl rfl Tryd.underlying9 (by kernel_rfl) (by kernel_rfl)
 have c1:w.cell? ⟨5,0,none⟩=some (.iface 178 (.pointer (some a1))):=by simpa using World.var?_cell (by kernel_rfl:Tryd.prog.globalNamed "strconv.ErrRange" = some 5) hv1 0
 have c2:w.cell? ⟨4,0,none⟩=some (.iface 178 (.pointer (some a2))):=by simpa using World.var?_cell (by kernel_rfl:Tryd.prog.globalNamed "strconv.ErrSyntax" = some 4) hv2 0
 exact ⟨⟨ok,cell_of_shapedOpen_int (t:=3) (zero:=#[.int .i64 0]) hs (of_decide_eq_true (by kernel_rfl)) (by kernel_rfl) rfl (by kernel_rfl) (by kernel_rfl) Tryd.underlying3,⟨_,c2,.inr ⟨_,_,rfl⟩⟩,⟨_,c1,.inr ⟨_,_,rfl⟩⟩⟩,sized w hs⟩
theorem handed_and_shaped {H:Type} {enc:TypeId × Value→H} {a:Assume} {C:Checked} {os:Os} {f:FuncId} {fn:Func} {s:ChangeSpec} {conds:List PathCond} {apart fresh handsOn again:Bool} {X:World→Array Value→Prop}
  (hX:∀ (w w':World) (args:Array Value),w.heap=w'.heap→X w args→X w' args)
  (own:ownKnob C.prog.godebug=none) (started:os.Started) (noInit:C.prog.inits.idxOf? f=none) (hfn:C.prog.funcs[f]?=some fn)
  (witness:∃ (w:World) (tape:Tape) (i:Input),w.os=os∧(w.forCall tape i).Shaped C.prog∧i.vars=[]∧Input.okWide C.prog (w.forCall tape i) .any w.heap.size f i ∧
   ((s.pre enc C.prog fn conds apart (w.forCall tape i).memory i.args∧X (w.forCall tape i).memory i.args)∧sizedMet enc C.prog fn (OpenSpec.ofChange s) apart (w.forCall tape i).memory i.args)∧a.holds C.prog (lone (Frame.enter C.prog f i.args .normal) [] (w.forCall tape i)))
  (contract:∀ (W:World) (base:Nat) (args:Array Value) (ds gs:List (DataW H)) (before:List MemPlace),
   (∀ (j:Nat) t v,fn.params[j]?=some t→args[j]?=some v→Value.okWide C.prog W .any base t v) →
   DataW.Whole enc C.prog fn.params.toList s.vars apart W args.toList ds gs before →
   conds.all (PathCond.test C.prog ⟨fn.params.toList,ds,s.plain.varTypes C.prog,gs⟩)=true →
   (DataW.weightsEach C.prog (fn.params.toList++s.plain.varTypes C.prog) (ds++gs)).all (·≤reachBytes)=true→X W args∧W.ShapedOpen C.prog →
   a.holds C.prog (lone (Frame.enter C.prog f args .normal) [] W) →
   Calls C.prog f args W fun e W'=>∃ v,e = .returned v∧s.post enc C.prog fn apart fresh handsOn again W args v W') :
  ReturnsInHanded a C os f .any (fun w args=>(s.pre enc C.prog fn conds apart w args∧X w args)∧sizedMet enc C.prog fn (OpenSpec.ofChange s) apart w args) (s.post enc C.prog fn apart fresh handsOn again):=by
 refine returnsInHanded_of_calls own started noInit witness ?_
 intro w tape i _ hsh _ hok hpre hholds
 obtain ⟨_,_,_,fn',hfn',_,_,_,_,hval⟩:=hok
 have e:fn'=fn:=Option.some.inj (hfn'.symm.trans hfn)
 subst e
 obtain ⟨⟨⟨ds,gs,before,hw,hc⟩,hx⟩,hz⟩:=hpre
 have hw':=DataW.Whole.of_heap (w':=w.forCall tape i) (by rfl) hw
 refine (contract (w.forCall tape i) w.heap.size i.args ds gs before hval hw' hc (hz.weights hw) ⟨hX _ _ _ (by rfl) hx,hsh⟩ hholds).mono fun e W' ⟨v,he,hp⟩=>?_
 subst he
 exact ChangeSpec.post_blind hp
end Go.Proofs.YteppndjaglhehaaDoor
