import Derived.Test.YtkdnhnkhcldonaaCAf
namespace Go.Proofs.Ytkdnhnkhcldonaa
open Go Go.Proofs.VE
set_option linter.unusedVariables false
set_option linter.unusedSimpArgs false
theorem crack_args {t:Nat} {x:AV} (h:TA Try.prog t x) (ha:aggT Try.prog t=some true) (hc:ctsT Try.prog 7 t=[.sl [.int .i64],.sl [.int .i64],.sl [.int .i64,.int .i64]]):∃ v r p,x = .agg [.sl [.int .i64] v,.sl [.int .i64] r,.sl [.int .i64,.int .i64] p]∧v.length≤9223372036854775807∧r.length≤9223372036854775807∧p.length≤9223372036854775807:=by
 obtain ⟨cs,rfl,h1⟩:=ta_agg h ha hc
 obtain ⟨x2,_,rfl,g2,h4⟩:=tws_cons h1
 obtain ⟨x3,_,rfl,g3,h5⟩:=tws_cons h4
 obtain ⟨x4,_,rfl,g4,h6⟩:=tws_cons h5
 obtain rfl:=tws_nil h6
 obtain ⟨v,rfl,l2,_⟩:=tw_sl g2
 obtain ⟨r,rfl,l3,_⟩:=tw_sl g3
 obtain ⟨p,rfl,l4,_⟩:=tw_sl g4
 exact ⟨v,r,p,rfl,l2,l3,l4⟩
end Go.Proofs.Ytkdnhnkhcldonaa
