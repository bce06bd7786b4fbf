import Derived.Test.YtealoedecngaoaaGreatDoorP3
namespace Go.Proofs.VE
open Go
section
variable {P:Program} {C C':Ctx} {nt:Nat} {st:St} {a:Act} {w w':World} {heap:List (Nm × Blk)}
theorem Flat.drop {mem:Addr→Option Value} {tys:List CT} {xs:List AV} {us:List Value} (h:Flat mem tys xs us) (p:Nat):Flat mem tys (xs.drop p) (us.drop (p*tys.length)):=by
 refine ⟨by rw [List.length_drop,List.length_drop,h.len,Nat.sub_mul],fun i x hx=>?_⟩
 rw [List.getElem?_drop] at hx
 obtain ⟨h1,h2⟩:=h.cells _ x hx
 refine ⟨h1,fun j c hc=>?_⟩
 obtain ⟨u,ct,h3,h4,h5⟩:=h2 j c hc
 refine ⟨u,ct,?_,h4,h5⟩
 rw [List.getElem?_drop,← h3]
 congr 1
 rw [Nat.add_mul]
 omega
end
end Go.Proofs.VE
