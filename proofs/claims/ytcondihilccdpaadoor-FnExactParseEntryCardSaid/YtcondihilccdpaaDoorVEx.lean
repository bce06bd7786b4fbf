import Derived.Test.YtcondihilccdpaaDoorVEw
namespace Go.Proofs.VE
open Go
inductive Out (S R:Type) where
 | fail
 | next (s:S)
 | stop (r:R)
def Out.el {S R α:Type} (d:α) (N:S→α) (K:R→α):Out S R→α
 | .fail=>d
 | .next s=>N s
 | .stop r=>K r
def runW {S R:Type} (f:S→Out S R):Nat→S→Option R
 | 0,_=>none
 | n+1,s=>(f s).el none (fun s=>runW f n s) some
def ro {R α:Type} (o:Option R) (d:α) (f:R→α):α:=match o with
 | none=>d
 | some r=>f r
def sumE {A B α:Type} (f:A→α) (g:B→α):A ⊕ B→α
 | .inl a=>f a
 | .inr b=>g b
section
variable {S R α:Type} {d:α} {N:S→α} {K:R→α}
theorem el_fail:(Out.fail:Out S R).el d N K=d:=rfl
theorem el_next {s:S}:(Out.next s:Out S R).el d N K=N s:=rfl
theorem el_stop {r:R}:(Out.stop r:Out S R).el d N K=K r:=rfl
theorem el_cond {c:Bool} {A B:Out S R}:(bif c then A else B).el d N K=bif c then A.el d N K else B.el d N K:=by cases c <;> rfl
theorem el_ro {T:Type} {o:Option T} {A:T→Out S R}:(ro o .fail A).el d N K=ro o d fun r=>(A r).el d N K:=by cases o <;> rfl
theorem el_sum {T U:Type} {o:T ⊕ U} {A:T→Out S R} {B:U→Out S R}:(sumE A B o).el d N K=sumE (fun r=>(A r).el d N K) (fun r=>(B r).el d N K) o:=by cases o <;> rfl
end
theorem loop_run {S R:Type} {body:St→Kont→Option AV} {norm:St→Option St} {f:S→Out S R} {k:Kont} (E:S→St) (K:R→Option AV)
  (hstep:∀ (s:S) (next:St→Option AV),stepA body norm next (E s) k=(f s).el none (fun s=>next (E s)) K) :
  ∀ (n:Nat) (s:S),loopA body norm n (E s) k=ro (runW f n s) none K
 | 0,_=>rfl
 | n+1,s=>by
  show stepA body norm (fun st=>loopA body norm n st k) (E s) k=_
  rw [hstep]
  show _=ro ((f s).el none (fun s=>runW f n s) some) none K
  cases f s with
  | fail=>rfl
  | next s=>exact loop_run E K hstep n s
  | stop r=>rfl
section
variable {c:Bool} {A B:Option AV} {p q:Bool} {V:Option AV}
theorem br (F:Bool→Option AV) (h1:p=true→A=F true) (h2:q=true→B=F false):(bif c then p else q)=true→(bif c then A else B)=F c:=by
 cases c
 ·exact h2
 ·exact h1
theorem brT (F:Bool→Option AV) (h1:true=true→A=F true) (h2:true=true→B=F false):true=true→(bif c then A else B)=F c:=by
 cases c
 ·exact h2
 ·exact h1
theorem brL (h1:p=true→A=V):(c && p)=true→(bif c then A else B)=V:=by
 cases c
 ·intro h;cases h
 ·exact h1
theorem brR (h1:p=true→B=V):(!c && p)=true→(bif c then A else B)=V:=by
 cases c
 ·exact h1
 ·intro h;cases h
theorem brL1 (h1:true=true→A=V):c=true→(bif c then A else B)=V:=by
 cases c
 ·intro h;cases h
 ·exact fun _=>h1 rfl
theorem brR1 (h1:true=true→B=V):(!c)=true→(bif c then A else B)=V:=by
 cases c
 ·exact fun _=>h1 rfl
 ·intro h;cases h
theorem brO {T:Type} {o:Option T} {A:T→Option AV} {p:T→Bool} (F:Option T→Option AV) (h:∀ r,p r=true→A r=F (some r)):ro o false p=true→ro o none A=F o:=by
 cases o
 ·intro h;cases h
 ·exact h _
theorem brS {T U:Type} {A:T→Option AV} {B:U→Option AV} {p:T→Bool} {q:U→Bool} (F:T ⊕ U→Option AV) (h1:∀ r,p r=true→A r=F (.inl r)) (h2:∀ r,q r=true→B r=F (.inr r)) (o:T ⊕ U):sumE p q o=true→sumE A B o=F o:=by
 cases o
 ·exact h1 _
 ·exact h2 _
end
theorem bif_some {g:Bool} {X:Option AV} {r:AV} (h:(bif g then X else none)=some r):g=true∧X=some r:=by
 cases g
 ·cases h
 ·exact ⟨rfl,h⟩
theorem bif_pair {α:Type} {g:Bool} {X:Option α} {r:α} (h:(bif g then X else none)=some r):g=true∧X=some r:=by
 cases g
 ·cases h
 ·exact ⟨rfl,h⟩
theorem pair_inj {a:Bool} {b r:AV} (h:some (a,b)=some (true,r)):a=true∧b=r:=by
 simp only [Option.some.injEq,Prod.mk.injEq] at h
 exact h
theorem trip_inj {α β:Type} {a:Bool} {b r:α} {c s:β} (h:some (a,b,c)=some (true,r,s)):a=true∧b=r∧c=s:=by
 simp only [Option.some.injEq,Prod.mk.injEq] at h
 exact h
theorem of_tt {X:Prop} (h:true=true→X):X:=h rfl
theorem noI {Q:Nat→Prop}:∀ g ∈ ([]:List Nat),Q g:=fun _ h=>absurd h List.not_mem_nil
theorem noLM {cf:Cfg} {ce:CallE} {π:Nm} {fid cur:Nat} {c:Code} (h:cf.LM fid cur=none):LoopOK cf ce π fid cur c:=fun m hm=>by
 rw [h] at hm
 cases hm
end Go.Proofs.VE
