import Derived.Test.YtmcnplggcedihaaGreatBPe
namespace Go.Proofs.YtmcnplggcedihaaGreat
open Go Go.Proofs.VE
set_option linter.unusedVariables false
set_option linter.unusedSimpArgs false
def jB (v a b:Int):AV:=AV.agg [AV.int .i64 1,AV.int .i64 v,AV.int .i64 a,AV.int .i64 b]
def jS (ss:List AV) (i:Int):AV:=AV.agg [AV.int .i64 2,AV.int .i64 (fI (ss.getD i.toNat .undef) 0),AV.int .i64 (fI (ss.getD i.toNat .undef) 1),AV.int .i64 0]
def jE (v a:Int):AV:=AV.agg [AV.int .i64 3,AV.int .i64 v,AV.int .i64 a,AV.int .i64 0]
theorem room4 (X:List AV) (a:AV) (h:X.length≤1048577):(decide ((X.length+[a].length)*32≤140737488355328) && decide (X.length+[a].length≤140737488355328))=true:=by
 simp only [List.length_singleton,Bool.and_eq_true,decide_eq_true_eq]
 omega
def jr (v a b at_:Int) (ss:List AV):List AV:=(jB v a b :: appF allT (jS ss) ss.length 0 [])++[jE v at_]
theorem jr_len (v a b at_:Int) (ss:List AV):(jr v a b at_ ss).length≤ss.length+2:=by
 have:=appF_len (p:=allT) (c:=jS ss) ss.length 0 []
 unfold jr
 simp only [List.length_append,List.length_cons,List.length_nil]
 simp only [List.length_nil] at this
 omega
end Go.Proofs.YtmcnplggcedihaaGreat
