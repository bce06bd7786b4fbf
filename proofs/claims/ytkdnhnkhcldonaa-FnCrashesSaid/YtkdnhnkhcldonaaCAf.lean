import Derived.Test.YtkdnhnkhcldonaaCAe
namespace Go.Proofs.Ytkdnhnkhcldonaa
open Go Go.Proofs.VE
set_option linter.unusedVariables false
set_option linter.unusedSimpArgs false
def jB (v a b:Int):AV:=AV.agg [AV.int .i64 1,AV.int .i64 v,AV.int .i64 a,AV.int .i64 b]
def jS (ss:List AV) (i:Int):AV:=AV.agg [AV.int .i64 2,AV.int .i64 (fI (ss.getD i.toNat .undef) 0),AV.int .i64 (fI (ss.getD i.toNat .undef) 1),AV.int .i64 0]
def jE (v a:Int):AV:=AV.agg [AV.int .i64 3,AV.int .i64 v,AV.int .i64 a,AV.int .i64 0]
theorem room4 (X:List AV) (a:AV) (h:X.length≤1048577):(decide ((X.length+[a].length)*32≤140737488355328) && decide (X.length+[a].length≤140737488355328))=true:=by
 simp only [List.length_singleton,Bool.and_eq_true,decide_eq_true_eq]
 omega
theorem run38 (v:Int) (x y z ss:List AV) (b:AV) (hs:ss.length≤1048576):runW (R38_0 v x y z ss) (((ss.length:Int) - 0).toNat+1) (0,[b])=some (b :: appF allT (jS ss) ss.length 0 []):=by
 refine runW_appK (fun i ys=>(i,b :: ys)) (fun ys=>b :: ys) ss.length allT (jS ss) (fun i ys h0 hn hl=>?_) (fun ys=>?_)
 ·have d1:decide (i<(ss.length:Int))=true:=decide_eq_true hn
  have d2:decide (0≤i)=true:=decide_eq_true h0
  simp only [R38_0,F38_0,d1,d2,room4 (b :: ys) _ (by simp only [List.length_cons];omega),Bool.and_self,cond_true,allT]
  rw [wrap_in (a:=i+1) (by omega) (by omega)]
  rfl
 ·simp only [R38_0,F38_0,Int.lt_irrefl,decide_false,cond_false]
theorem run33 (v:Int) (x y z ss:List AV) (b:AV) (hs:ss.length≤1048576):runW (R33_0 v ss.length x y z ss) (((ss.length:Int) - 0).toNat+1) (0,[b])=some (b :: appF allT (jS ss) ss.length 0 []):=by
 refine runW_appK (fun i ys=>(i,b :: ys)) (fun ys=>b :: ys) ss.length allT (jS ss) (fun i ys h0 hn hl=>?_) (fun ys=>?_)
 ·have d1:decide (i<(ss.length:Int))=true:=decide_eq_true hn
  have d2:decide (0≤i)=true:=decide_eq_true h0
  simp only [R33_0,F33_0,d1,d2,room4 (b :: ys) _ (by simp only [List.length_cons];omega),Bool.and_self,cond_true,allT]
  rw [wrap_in (a:=i+1) (by omega) (by omega)]
  rfl
 ·simp only [R33_0,F33_0,Int.lt_irrefl,decide_false,cond_false]
def jr (v a b at_:Int) (ss:List AV):List AV:=(jB v a b :: appF allT (jS ss) ss.length 0 [])++[jE v at_]
theorem jr_len (v a b at_:Int) (ss:List AV):(jr v a b at_ ss).length≤ss.length+2:=by
 have:=appF_len (p:=allT) (c:=jS ss) ss.length 0 []
 unfold jr
 simp only [List.length_append,List.length_cons,List.length_nil]
 simp only [List.length_nil] at this
 omega
theorem journal_new {vs rs ps:List AV} (h:Col vs rs ps) {v a b at_:Int} {ss:List AV} (hv : -1000≤v∧v≤1000) (hf:(findP ps v).isSome=false) (hc:Cr vs rs ps v a b at_ ss) :
  ∃ t:Int,(q38 vs rs ps v=true∧v38_0 vs rs ps v=jr v a b t ss)∧(q33 vs rs ps v=true∧v33_0 vs rs ps v=jr v a b t ss):=by
 have hl:=h.n64
 have hlen:=h.len
 have hfew:=col_few h
 have h64:=hc.s64
 have hnew:=col_few hc.ok
 obtain ⟨n1,n2,n3⟩:=P73 vs rs ps v (by omega)
 obtain ⟨o1,o2⟩:=P66 vs rs ps v (by omega)
 obtain ⟨m1,m2,m3⟩:=P73 (appS ss vs) (appS ss rs) (insP ps v at_) v (by omega)
 obtain ⟨m1',m2',m3'⟩:=P68 (appS ss vs) (appS ss rs) (insP ps v at_) v (by omega)
 obtain ⟨k1,k2,k3⟩:=hc.pc
 obtain ⟨k1',k2',k3'⟩:=hc.pc'
 obtain ⟨c0,c1,c2,c3,c4,c5⟩:=hc.c
 obtain ⟨d0,d1,d2,d3,d4⟩:=hc.c'
 have hlp:=appF_len (p:=allT) (c:=jS ss) ss.length 0 []
 simp only [List.length_nil] at hlp
 refine ⟨ro (findP (insP ps v at_) v) 0 (pat (insP ps v at_)),⟨?_,?_⟩,?_,?_⟩
 ·unfold q38
  rw [n1,c0,c5,n3,hf,k1,k2,k3,c1,c2,c3,c4,run38 _ _ _ _ _ _ (by omega)]
  simp only [ro,m1,room4 (_ :: _) _ (show (_ :: appF allT (jS ss) ss.length 0 []).length≤1048577 by simp only [List.length_cons];omega),Bool.not_true,cond_false,Bool.and_true]
  rfl
 ·unfold v38_0
  rw [c5,n3,hf,k2,k3,c1,c2,c3,c4,run38 _ _ _ _ _ _ (by omega),m2]
  rfl
 ·unfold q33
  rw [o1,o2,hf,k1',k2',k3',d0,d1,d2,d3,d4,run33 _ _ _ _ _ _ (by omega)]
  simp only [ro,m1',room4 (_ :: _) _ (show (_ :: appF allT (jS ss) ss.length 0 []).length≤1048577 by simp only [List.length_cons];omega),cond_false,Bool.and_true]
 ·unfold v33_0
  rw [o2,hf,k2',k3',d1,d2,d3,d4,run33 _ _ _ _ _ _ (by omega),m2']
  rfl
theorem journal_old {vs rs ps:List AV} (h:Col vs rs ps) {v:Int} (hv : -1000≤v∧v≤1000) (hf:(findP ps v).isSome=true) :
  (q38 vs rs ps v=true∧v38_0 vs rs ps v=[])∧(q33 vs rs ps v=true∧v33_0 vs rs ps v=[]):=by
 have hl:=h.n64
 have hlen:=h.len
 have hfew:=col_few h
 obtain ⟨n1,n2,n3⟩:=P73 vs rs ps v (by omega)
 obtain ⟨o1,o2⟩:=P66 vs rs ps v (by omega)
 obtain ⟨⟨c0,c1,c2,c3,c4,c5⟩,_⟩:=crack_old h hv hf
 refine ⟨⟨?_,?_⟩,?_,?_⟩
 ·unfold q38
  rw [n1,c0,c5,n3,hf]
  rfl
 ·unfold v38_0
  rw [c5,n3,hf]
  rfl
 ·unfold q33
  rw [o1,o2,hf]
  rfl
 ·unfold v33_0
  rw [o2,hf]
  rfl
end Go.Proofs.Ytkdnhnkhcldonaa
