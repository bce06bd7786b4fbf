import Derived.Test.YtealoedecngaoaaGreatDoorP2
namespace Go.Proofs.VE
open Go
theorem law_calls [Glob] {P:Program} {n:Nat} {m:TModel} {xs:List AV} {us:List Value} {W:World} (hm:Meets P n m) (hG:Glob.ok W∧Glob.n≤W.heap.size) (h:m xs=some (true,.bool true)) (hlen:xs.length=us.length)
  (hv:∀ (i:Nat) (x:AV) (u:Value),xs[i]?=some x→us[i]?=some u→VR (C0 W) x u):Calls P n us.toArray W fun e W'=>e = .returned (.bool true)∧RowKit.Below W.heap.size W W' :=
 (hm.2 xs _ h W us hG hlen hv).mono fun _ _ ⟨_,he,hb,hr⟩=>⟨he.trans (by rw [ret_bool hr]),hb⟩
theorem ta_one {P:Program} {t:TypeId} {x:AV} {ct:CT} (h:TA P t x) (ha:aggT P t=some false) (hc:ctsT P 7 t=[ct]):TW ct x:=by
 rcases h with ⟨h1,_⟩|⟨_,c,h2,h3⟩
 ·rw [ha] at h1;cases h1
 ·rw [hc] at h2
  obtain rfl:=(List.cons.inj h2).1
  exact h3
theorem tw_sl {e:List CT} {x:AV} (h:TW (.sl e) x):∃ xs,x = .sl e xs∧xs.length≤9223372036854775807∧∀ y ∈ xs,TWs e y.cells:=by
 cases h with
 | sl _ xs hl hx hv=>exact ⟨xs,rfl,by simpa [maxLen] using hl,fun y hy=>⟨hx y hy,fun j ct c h1 h2=>hv y j ct c hy h1 h2⟩⟩
abbrev Ai (x:Int):AV:=AV.int .i64 x
noncomputable def hid {α:Type} (x:α):α:=Classical.choose (⟨x,rfl⟩:∃ y,y=x)
theorem hid_eq {α:Type} (x:α):hid x=x:=Classical.choose_spec (⟨x,rfl⟩:∃ y,y=x)
end Go.Proofs.VE
