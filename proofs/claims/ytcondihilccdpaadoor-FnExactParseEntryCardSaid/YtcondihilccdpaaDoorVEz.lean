import Derived.Test.YtcondihilccdpaaDoorVEy
namespace Go.Proofs.VE
open Go
theorem law_calls [Glob] {P:Program} {n:Nat} {m:TModel} {xs:List AV} {us:List Value} {W:World} (hm:Meets P n m) (hG:Glob.ok W∧Glob.n≤W.heap.size) (h:m xs=some (true,.bool true)) (hlen:xs.length=us.length)
  (hv:∀ (i:Nat) (x:AV) (u:Value),xs[i]?=some x→us[i]?=some u→VR (C0 W) x u):Calls P n us.toArray W fun e W'=>e = .returned (.bool true)∧RowKit.Below W.heap.size W W' :=
 (hm.2 xs _ h W us hG hlen hv).mono fun _ _ ⟨_,he,hb,hr⟩=>⟨he.trans (by rw [ret_bool hr]),hb⟩
theorem ta_one {P:Program} {t:TypeId} {x:AV} {ct:CT} (h:TA P t x) (ha:aggT P t=some false) (hc:ctsT P 7 t=[ct]):TW ct x:=by
 rcases h with ⟨h1,_⟩|⟨_,c,h2,h3⟩
 ·rw [ha] at h1;cases h1
 ·rw [hc] at h2
  obtain rfl:=(List.cons.inj h2).1
  exact h3
theorem ta_agg {P:Program} {t:TypeId} {x:AV} {cts:List CT} (h:TA P t x) (ha:aggT P t=some true) (hc:ctsT P 7 t=cts):∃ cs,x = .agg cs∧TWs cts cs:=by
 rcases h with ⟨_,cs,h2,h3⟩|⟨h1,_⟩
 ·rw [hc] at h3;exact ⟨cs,h2,h3⟩
 ·rw [ha] at h1;cases h1
theorem tw_sl {e:List CT} {x:AV} (h:TW (.sl e) x):∃ xs,x = .sl e xs∧xs.length≤9223372036854775807∧∀ y ∈ xs,TWs e y.cells:=by
 cases h with
 | sl _ xs hl hx hv=>exact ⟨xs,rfl,by simpa [maxLen] using hl,fun y hy=>⟨hx y hy,fun j ct c h1 h2=>hv y j ct c hy h1 h2⟩⟩
theorem tw_int {k:IntKind} {x:AV} (h:TW (.int k) x):∃ n,x = .int k n∧(Lit.int k n).wf=true:=by
 cases h with
 | int _ n h=>exact ⟨n,rfl,h⟩
theorem tw_bool {x:AV} (h:TW .bool x):∃ b,x = .bool b:=by
 cases h with
 | bool b=>exact ⟨b,rfl⟩
theorem tw_str {x:AV} (h:TW .str x):∃ s,x = .str s∧s.size≤9223372036854775807:=by
 cases h with
 | str s h=>exact ⟨s,rfl,by simpa [maxLen] using h⟩
theorem tws_nil {l:List AV} (h:TWs [] l):l=[]:=List.eq_nil_of_length_eq_zero h.1
theorem tws_cons {c:CT} {cs:List CT} {l:List AV} (h:TWs (c :: cs) l):∃ y ys,l=y :: ys∧TW c y∧TWs cs ys:=by
 obtain ⟨h1,h2⟩:=h
 cases l with
 | nil=>simp at h1
 | cons y ys=>exact ⟨y,ys,rfl,h2 0 c y rfl rfl,by simpa using h1,fun j ct z hj hz=>h2 (j+1) ct z (by simpa using hj) (by simpa using hz)⟩
abbrev Ai (x:Int):AV:=AV.int .i64 x
noncomputable def hid {α:Type} (x:α):α:=Classical.choose (⟨x,rfl⟩:∃ y,y=x)
theorem hid_eq {α:Type} (x:α):hid x=x:=Classical.choose_spec (⟨x,rfl⟩:∃ y,y=x)
end Go.Proofs.VE
