import Derived.Test.YtealoedecngaoaaGreatDoorP12
import Derived.Test.YtealoedecngaoaaGreatDoorP3
namespace Go.Proofs.YtealoedecngaoaaGreatDoor
open Go Go.Proofs.VE
set_option linter.unusedVariables false
set_option linter.unusedSimpArgs false
theorem v72 (a b c:Int):v72_0 a b c=(decide (b≤a) && decide (a≤c)):=by
 unfold v72_0;cases h:decide (a ≥ b) <;> simp_all
theorem run100 (xs:List AV) (h:xs.length≤1048576):runW (R100_0 xs) (((xs.length:Int) - 0).toNat+1) 0=some (ro (findF (fun i => !v72_0 (fI (xs.getD i.toNat .undef) 0) (-999) 999) xs.length 0) (.inl ()) fun _ => .inr ()):=by
 refine runW_find (fun i=>i) xs.length _ _ _ (fun i h0 hn=>?_) ?_ xs.length _ 0 (Int.le_refl 0) (by omega) (by omega)
 ·simp only [R100_0,F100_0,G100_0,h0,hn,decide_true,Bool.and_self,cond_true]
  rw [wrap_in (a:=i+1) (by omega) (by omega)]
 ·simp only [R100_0,F100_0,G100_0,Int.lt_irrefl,decide_false,cond_false]
theorem run191 (xs:List AV) (lo hi:AV) (h:xs.length≤1048576):runW (R191_0 xs lo hi xs.length) (((xs.length:Int) - 0).toNat+1) 0=some (ro (findF (fun i=>v166_0 (fI (xs.getD i.toNat .undef) 0) lo hi) xs.length 0) (.inl ()) fun i => .inr i):=by
 refine runW_find (fun i=>i) xs.length _ _ _ (fun i h0 hn=>?_) ?_ xs.length _ 0 (Int.le_refl 0) (by omega) (by omega)
 ·simp only [R191_0,F191_0,G191_0,h0,hn,decide_true,Bool.and_self,cond_true]
  rw [wrap_in (a:=i+1) (by omega) (by omega)]
 ·simp only [R191_0,F191_0,G191_0,Int.lt_irrefl,decide_false,cond_false]
theorem P100 (xs:List AV) (h:xs.length≤1048576):q100 xs=true∧v100_0 xs=((findF (fun i => !v72_0 (fI (xs.getD i.toNat .undef) 0) (-999) 999) xs.length 0).isNone && decide (xs.length≤64)):=by
 unfold q100 v100_0
 rw [run100 xs h]
 cases findF (fun i => !v72_0 (fI (xs.getD i.toNat .undef) 0) (-999) 999) xs.length 0 with
 | none=>refine ⟨rfl,?_⟩;simp only [ro,sumE,Option.isNone_none,Bool.true_and];congr 1;simp only [eq_iff_iff];omega
 | some j=>exact ⟨rfl,rfl⟩
theorem P106 (xs:List AV) (lo hi:Int) (h:xs.length≤1048576):q106 xs lo hi=true∧v106_0 xs lo hi=(findF (fun i => !v72_0 (fI (xs.getD i.toNat .undef) 0) lo hi) xs.length 0).isNone:=by
 unfold q106 v106_0 v165_0 q165 q191 v191_0
 rw [run191 xs _ _ h]
 have e:(fun i:Int=>v166_0 (fI (xs.getD i.toNat .undef) 0) (AV.int .i64 lo) (AV.int .i64 hi))=fun i => !v72_0 (fI (xs.getD i.toNat .undef) 0) lo hi:=by
  funext i
  unfold v166_0
  rw [v72,show fI (AV.int .i64 lo) 0=lo from rfl,show fI (AV.int .i64 hi) 0=hi from rfl]
  generalize fI (xs.getD i.toNat .undef) 0=z
  by_cases h1:z<lo <;> by_cases h2:z > hi <;> simp [h1,h2] <;> omega
 rw [e]
 cases hf:findF (fun i => !v72_0 (fI (xs.getD i.toNat .undef) 0) lo hi) xs.length 0 with
 | none=>exact ⟨rfl,rfl⟩
 | some j =>
  have:=(findF_some _ _ hf).1
  refine ⟨rfl,?_⟩
  simp [ro,sumE]
  omega
theorem P95 (xs:List AV) (h:xs.length≤1048576):q95 xs=true∧v95_0 xs=v100_0 xs:=by
 rw [(P100 xs h).2]
 unfold q95 v95_0
 rw [(P106 xs _ _ h).1,(P106 xs _ _ h).2]
 have e64:decide ((xs.length:Int)≤64)=decide (xs.length≤64):=by congr 1;simp only [eq_iff_iff];omega
 rw [e64]
 cases decide (xs.length≤64) <;> simp
end Go.Proofs.YtealoedecngaoaaGreatDoor

namespace Go.Proofs.YtealoedecngaoaaGreatDoor
open Go Go.Proofs.VE
set_option linter.unusedVariables false
set_option linter.unusedSimpArgs false
def noneB (p:Int→Bool) (n:Nat):Bool:=(findF p n 0).isNone
theorem findF_isNone {p:Int→Bool}:∀ (m:Nat) (i:Int),(findF p m i).isNone=true ↔ ∀ j,i≤j→j<i+m→p j=false
 | 0,i=>⟨fun _ j h1 h2=>by omega,fun _=>rfl⟩
 | m+1,i=>by
  simp only [findF]
  cases hp:p i with
  | true =>
   refine ⟨fun h=>(by cases h),fun h=>?_⟩
   have:=h i (by omega) (by omega)
   rw [hp] at this
   cases this
  | false =>
   rw [cond_false,findF_isNone m (i+1)]
   refine ⟨fun h j h1 h2=>?_,fun h j h1 h2=>h j (by omega) (by omega)⟩
   by_cases e:j=i
   ·rw [e,hp]
   ·exact h j (by omega) (by omega)
theorem noneB_iff {p:Int→Bool} {n:Nat}:noneB p n=true ↔ ∀ j:Int,0≤j→j<n→p j=false:=by
 unfold noneB
 rw [findF_isNone]
 exact ⟨fun h j h1 h2=>h j h1 (by omega),fun h j h1 h2=>h j h1 (by omega)⟩
def hasI (xs:List AV) (x:Int):Bool:=(findF (fun i=>decide (fI (xs.getD i.toNat .undef) 0=x)) xs.length 0).isSome
theorem P145 (xs:List AV) (x:Int) (h:xs.length≤1048576):q145 xs x=true∧v145_0 xs x=hasI xs x:=by
 have hr:runW (R145_0 xs x) (((xs.length:Int) - 0).toNat+1) 0=some (ro (findF (fun i=>decide (fI (xs.getD i.toNat .undef) 0=x)) xs.length 0) (.inl ()) fun _ => .inr ()):=by
  refine runW_find (fun i=>i) xs.length _ _ _ (fun i h0 hn=>?_) ?_ xs.length _ 0 (Int.le_refl 0) (by omega) (by omega)
  ·simp only [R145_0,F145_0,G145_0,h0,hn,decide_true,Bool.and_self,cond_true]
   rw [wrap_in (a:=i+1) (by omega) (by omega)]
  ·simp only [R145_0,F145_0,G145_0,Int.lt_irrefl,decide_false,cond_false]
 unfold q145 v145_0 hasI
 rw [hr]
 cases findF (fun i=>decide (fI (xs.getD i.toNat .undef) 0=x)) xs.length 0 <;> exact ⟨rfl,rfl⟩
theorem P167 (xs:List AV) (x:Int) (h:xs.length≤1048576):q167 xs x=true∧v167_0 xs x=ro (findF (fun i=>decide (fI (xs.getD i.toNat .undef) 0=x)) xs.length 0) (-1) id:=by
 have hr:runW (R167_0 xs x xs.length) (((xs.length:Int) - 0).toNat+1) 0=some (ro (findF (fun i=>decide (fI (xs.getD i.toNat .undef) 0=x)) xs.length 0) (.inl ()) fun i => .inr i):=by
  refine runW_find (fun i=>i) xs.length _ _ _ (fun i h0 hn=>?_) ?_ xs.length _ 0 (Int.le_refl 0) (by omega) (by omega)
  ·simp only [R167_0,F167_0,G167_0,h0,hn,decide_true,Bool.and_self,cond_true]
   rw [wrap_in (a:=i+1) (by omega) (by omega)]
   have e:decide (x=fI (xs.getD i.toNat .undef) 0)=decide (fI (xs.getD i.toNat .undef) 0=x):=by congr 1;simp only [eq_iff_iff];omega
   rw [e]
  ·simp only [R167_0,F167_0,G167_0,Int.lt_irrefl,decide_false,cond_false]
 unfold q167 v167_0
 rw [hr]
 cases findF (fun i=>decide (fI (xs.getD i.toNat .undef) 0=x)) xs.length 0 <;> exact ⟨rfl,rfl⟩
theorem P107 (xs:List AV) (x:Int) (h:xs.length≤1048576):q107 xs x=true∧v107_0 xs x=hasI xs x:=by
 unfold q107 v107_0 hasI
 rw [(P167 xs x h).1,(P167 xs x h).2]
 refine ⟨rfl,?_⟩
 cases hf:findF (fun i=>decide (fI (xs.getD i.toNat .undef) 0=x)) xs.length 0 with
 | none=>rfl
 | some j =>
  have:=(findF_some _ _ hf).1
  simp [ro]
  omega
def badR (rs:List AV) (i:Int):Bool:=hasI ((rs.take (Int.toNat i)).drop (Int.toNat 0)) (fI (rs.getD i.toNat .undef) 0)
def badI (vs:List AV) (a b:Int):Bool := !noneB (fun k => !(decide (fI (vs.getD k.toNat .undef) 0<a) == decide (k<b))) vs.length
def badA (vs ps:List AV) (i:Int):Bool :=
 !v72_0 (fI (ps.getD i.toNat .undef) 0) (-1000) 1000 || (!v72_0 (fI (ps.getD i.toNat .undef) 1) 0 vs.length ||
  (decide (i > 0) && (decide (fI (ps.getD i.toNat .undef) 0≤fI (ps.getD (i - 1).toNat .undef) 0) || decide (fI (ps.getD i.toNat .undef) 1<fI (ps.getD (i - 1).toNat .undef) 1))))
def badP (vs ps:List AV) (i:Int):Bool:=badA vs ps i || badI vs (fI (ps.getD i.toNat .undef) 0) (fI (ps.getD i.toNat .undef) 1)
theorem run146i (vs ps:List AV) (t a b:Int) (h:vs.length≤1048576):runW (R146_2 vs ps t a b) (((vs.length:Int) - 0).toNat+1) 0=some (bif badI vs a b then .inr () else .inl ()):=by
 have hr:runW (R146_2 vs ps t a b) (((vs.length:Int) - 0).toNat+1) 0=some (ro (findF (fun k => !(decide (fI (vs.getD k.toNat .undef) 0<a) == decide (k<b))) vs.length 0) (.inl ()) fun _ => .inr ()):=by
  refine runW_find (fun i=>i) vs.length _ _ _ (fun i h0 hn=>?_) ?_ vs.length _ 0 (Int.le_refl 0) (by omega) (by omega)
  ·simp only [R146_2,F146_2,G146_2,h0,hn,decide_true,Bool.and_self,cond_true]
   rw [wrap_in (a:=i+1) (by omega) (by omega)]
  ·simp only [R146_2,F146_2,G146_2,Int.lt_irrefl,decide_false,cond_false]
 rw [hr]
 unfold badI noneB
 cases findF (fun k => !(decide (fI (vs.getD k.toNat .undef) 0<a) == decide (k<b))) vs.length 0 <;> rfl
def L146 (vs ps:List AV) (i:Int):Unit ⊕ (Int × Int) ⊕ (Int × Int):=bif badA vs ps i then .inr (.inl (fI (ps.getD i.toNat .undef) 0,fI (ps.getD i.toNat .undef) 1)) else .inr (.inr (fI (ps.getD i.toNat .undef) 0,fI (ps.getD i.toNat .undef) 1))
theorem step146 (vs ps:List AV) (i:Int) (h:vs.length≤1048576) (h':ps.length≤1048576) (h0:0≤i) (hn:i<ps.length):R146_0 vs ps i=bif badP vs ps i then .stop (L146 vs ps i) else .next (i+1):=by
 simp only [R146_0,F146_0,G146_0,h0,hn,decide_true,Bool.and_self,cond_true,run146i vs ps _ _ _ h,ro]
 rw [wrap_in (a:=i+1) (by omega) (by omega),wrap_in (a:=i - 1) (by omega) (by omega)]
 unfold badP L146 badA
 generalize badI vs (fI (ps.getD i.toNat AV.undef) 0) (fI (ps.getD i.toNat AV.undef) 1)=bi
 generalize v72_0 (fI (ps.getD i.toNat AV.undef) 0) (-1000) 1000=b1
 generalize v72_0 (fI (ps.getD i.toNat AV.undef) 1) 0 vs.length=b2
 by_cases hi:i > 0
 ·have hm:decide (0≤i - 1)=true:=decide_eq_true (by omega)
  have hm':decide (i - 1<(ps.length:Int))=true:=decide_eq_true (by omega)
  rw [decide_eq_true hi,hm,hm']
  generalize decide (fI (ps.getD i.toNat AV.undef) 0≤fI (ps.getD (i - 1).toNat AV.undef) 0)=b3
  generalize decide (fI (ps.getD i.toNat AV.undef) 1<fI (ps.getD (i - 1).toNat AV.undef) 1)=b4
  cases b1 <;> cases b2 <;> cases b3 <;> cases b4 <;> cases bi <;> rfl
 ·rw [decide_eq_false hi]
  cases b1 <;> cases b2 <;> cases bi <;> rfl
theorem P146 (vs ps:List AV) (h:vs.length≤1048576) (h':ps.length≤1048576):q146 vs ps=true∧v146_0 vs ps=noneB (badP vs ps) ps.length:=by
 have hr:runW (R146_0 vs ps) (((ps.length:Int) - 0).toNat+1) 0=some (ro (findF (badP vs ps) ps.length 0) (.inl ()) (L146 vs ps)):=by
  refine runW_find (fun i=>i) ps.length _ _ _ (fun i h0 hn=>step146 vs ps i h h' h0 hn) ?_ ps.length _ 0 (Int.le_refl 0) (by omega) (by omega)
  simp only [R146_0,F146_0,G146_0,Int.lt_irrefl,decide_false,cond_false]
 unfold q146 v146_0 noneB
 rw [hr]
 cases findF (badP vs ps) ps.length 0 with
 | none=>exact ⟨rfl,rfl⟩
 | some j =>
  simp only [ro,L146]
  cases badA vs ps j <;> exact ⟨rfl,rfl⟩
theorem run39i (vs rs ps p1 v1:List AV) (t1 t2 a b:Int) (h:vs.length≤1048576):runW (R39_4 p1 t1 t2 vs vs.length v1 rs ps a b) (((vs.length:Int) - 0).toNat+1) 0=some (bif badI vs a b then .inr () else .inl ()):=by
 have hr:runW (R39_4 p1 t1 t2 vs vs.length v1 rs ps a b) (((vs.length:Int) - 0).toNat+1) 0=some (ro (findF (fun k => !(decide (fI (vs.getD k.toNat .undef) 0<a) == decide (k<b))) vs.length 0) (.inl ()) fun _ => .inr ()):=by
  refine runW_find (fun i=>i) vs.length _ _ _ (fun i h0 hn=>?_) ?_ vs.length _ 0 (Int.le_refl 0) (by omega) (by omega)
  ·simp only [R39_4,F39_4,G39_4,h0,hn,decide_true,Bool.and_self,cond_true]
   rw [wrap_in (a:=i+1) (by omega) (by omega)]
  ·simp only [R39_4,F39_4,G39_4,Int.lt_irrefl,decide_false,cond_false]
 rw [hr]
 unfold badI noneB
 cases findF (fun k => !(decide (fI (vs.getD k.toNat .undef) 0<a) == decide (k<b))) vs.length 0 <;> rfl
theorem dlt (z n:Int):decide (z<n) = !decide (n≤z):=by
 by_cases h:n≤z
 ·rw [decide_eq_true h,decide_eq_false (by omega)];rfl
 ·rw [decide_eq_false h,decide_eq_true (by omega)];rfl
theorem dgt (z n:Int):decide (z > n) = !decide (z≤n):=by
 by_cases h:z≤n
 ·rw [decide_eq_true h,decide_eq_false (by omega)];rfl
 ·rw [decide_eq_false h,decide_eq_true (by omega)];rfl
theorem bound_eq (v:Int):v108_0 v=v72_0 v (-1000) 1000:=by
 unfold v108_0
 rw [v72]
 by_cases h1 : -1000≤v <;> by_cases h2:v≤1000 <;> simp [h1,h2]
theorem step39 (vs rs ps:List AV) (i:Int) (h:vs.length≤1048576) (h':ps.length≤1048576) (h0:0≤i) (hn:i<ps.length):R39_2 ps ps.length vs rs ps i=bif badP vs ps i then .stop (L146 vs ps i) else .next (i+1):=by
 simp only [R39_2,F39_2,G39_2,h0,hn,decide_true,Bool.and_self,cond_true,run39i vs rs ps ps vs _ _ _ _ h,ro,bound_eq]
 rw [wrap_in (a:=i+1) (by omega) (by omega),wrap_in (a:=i - 1) (by omega) (by omega)]
 unfold badP L146 badA
 rw [v72 (fI (ps.getD i.toNat AV.undef) 1) 0 vs.length]
 generalize badI vs (fI (ps.getD i.toNat AV.undef) 0) (fI (ps.getD i.toNat AV.undef) 1)=bi
 generalize v72_0 (fI (ps.getD i.toNat AV.undef) 0) (-1000) 1000=b1
 rw [dlt (fI (ps.getD i.toNat AV.undef) 1) 0,dgt (fI (ps.getD i.toNat AV.undef) 1)]
 generalize decide (0≤fI (ps.getD i.toNat AV.undef) 1)=b2
 generalize decide (fI (ps.getD i.toNat AV.undef) 1≤(vs.length:Int))=b5
 by_cases hi:i > 0
 ·have hm:decide (0≤i - 1)=true:=decide_eq_true (by omega)
  have hm':decide (i - 1<(ps.length:Int))=true:=decide_eq_true (by omega)
  rw [decide_eq_true hi,hm,hm']
  generalize decide (fI (ps.getD i.toNat AV.undef) 0≤fI (ps.getD (i - 1).toNat AV.undef) 0)=b3
  generalize decide (fI (ps.getD i.toNat AV.undef) 1<fI (ps.getD (i - 1).toNat AV.undef) 1)=b4
  cases b1 <;> cases b2 <;> cases b5 <;> cases b3 <;> cases b4 <;> cases bi <;> rfl
 ·rw [decide_eq_false hi]
  cases b1 <;> cases b2 <;> cases b5 <;> cases bi <;> rfl
theorem run39 (vs rs ps:List AV) (h:vs.length≤1048576) (h':ps.length≤1048576):runW (R39_2 ps ps.length vs rs ps) (((ps.length:Int) - 0).toNat+1) 0=some (ro (findF (badP vs ps) ps.length 0) (.inl ()) (L146 vs ps)):=by
 refine runW_find (fun i=>i) ps.length _ _ _ (fun i h0 hn=>step39 vs rs ps i h h' h0 hn) ?_ ps.length _ 0 (Int.le_refl 0) (by omega) (by omega)
 simp only [R39_2,F39_2,G39_2,Int.lt_irrefl,decide_false,cond_false]
theorem run71 (vs rs ps:List AV) (h:rs.length≤1048576):runW (R71_0 vs rs ps) (((rs.length:Int) - 0).toNat+1) 0=some (ro (findF (fun i => !v72_0 (fI (rs.getD i.toNat .undef) 0) 0 999 || badR rs i) rs.length 0) (.inl ()) fun _ => .inr ()):=by
 refine runW_find (fun i=>i) rs.length _ _ _ (fun i h0 hn=>?_) ?_ rs.length _ 0 (Int.le_refl 0) (by omega) (by omega)
 ·have hl:((rs.take (Int.toNat i)).drop (Int.toNat 0)).length≤1048576:=by rw [List.length_drop,List.length_take];omega
  have hle:decide (i≤(rs.length:Int))=true:=decide_eq_true (by omega)
  have h00:decide ((0:Int)≤0)=true:=rfl
  have h00n:decide ((0:Nat)≤0)=true:=rfl
  simp only [R71_0,F71_0,G71_0,h0,hn,hle,h00,h00n,decide_true,Bool.and_self,cond_true,(P145 _ _ hl).1,(P145 _ _ hl).2,badR]
  rw [wrap_in (a:=i+1) (by omega) (by omega)]
  cases v72_0 (fI (rs.getD i.toNat .undef) 0) 0 999 <;> cases hasI ((rs.take (Int.toNat i)).drop (Int.toNat 0)) (fI (rs.getD i.toNat .undef) 0) <;> rfl
 ·simp only [R71_0,F71_0,G71_0,Int.lt_irrefl,decide_false,cond_false]
theorem run39r (vs rs ps:List AV) (h:rs.length≤1048576):runW (R39_0 rs rs.length vs rs ps) (((rs.length:Int) - 0).toNat+1) 0=some (ro (findF (badR rs) rs.length 0) (.inl ()) fun _ => .inr ()):=by
 refine runW_find (fun i=>i) rs.length _ _ _ (fun i h0 hn=>?_) ?_ rs.length _ 0 (Int.le_refl 0) (by omega) (by omega)
 ·have hl:((rs.take (Int.toNat i)).drop (Int.toNat 0)).length≤1048576:=by rw [List.length_drop,List.length_take];omega
  have hle:decide (i≤(rs.length:Int))=true:=decide_eq_true (by omega)
  have h00:decide ((0:Int)≤0)=true:=rfl
  have h00n:decide ((0:Nat)≤0)=true:=rfl
  simp only [R39_0,F39_0,G39_0,h0,hn,hle,h00,h00n,decide_true,Bool.and_self,cond_true,(P107 _ _ hl).1,(P107 _ _ hl).2,badR]
  rw [wrap_in (a:=i+1) (by omega) (by omega)]
 ·simp only [R39_0,F39_0,G39_0,Int.lt_irrefl,decide_false,cond_false]
def isC (vs rs ps:List AV):Bool:=v100_0 vs && (decide ((rs.length:Int)=vs.length) && (noneB (fun i => !v72_0 (fI (rs.getD i.toNat .undef) 0) 0 999) rs.length && (noneB (badR rs) rs.length && noneB (badP vs ps) ps.length)))
theorem noneB_or (p q:Int→Bool) (n:Nat):noneB (fun i=>p i || q i) n=(noneB p n && noneB q n):=by
 rw [Bool.eq_iff_iff,Bool.and_eq_true,noneB_iff,noneB_iff,noneB_iff]
 constructor
 ·intro h
  exact ⟨fun j h1 h2=>by have:=h j h1 h2;simp only [Bool.or_eq_false_iff] at this;exact this.1,fun j h1 h2=>by have:=h j h1 h2;simp only [Bool.or_eq_false_iff] at this;exact this.2⟩
 ·rintro ⟨h,h'⟩ j h1 h2
  rw [h j h1 h2,h' j h1 h2]
  rfl
theorem P71 (vs rs ps:List AV) (h:vs.length≤1048576) (h':rs.length≤1048576) (h'':ps.length≤1048576):q71 vs rs ps=true∧v71_0 vs rs ps=isC vs rs ps:=by
 unfold q71 v71_0 isC
 rw [(P100 vs h).1,run71 vs rs ps h',(P146 vs ps h h'').1,(P146 vs ps h h'').2,← Bool.and_assoc (noneB _ _) (noneB _ _),← noneB_or]
 generalize noneB (badP vs ps) ps.length=bp
 unfold noneB
 cases v100_0 vs <;> cases decide ((rs.length:Int)=vs.length) <;> cases findF (fun i => !v72_0 (fI (rs.getD i.toNat .undef) 0) 0 999 || badR rs i) rs.length 0 <;> exact ⟨rfl,rfl⟩
theorem few (vs ps:List AV) (h:noneB (badP vs ps) ps.length=true):ps.length≤2001:=by
 rw [noneB_iff] at h
 have hb:∀ j:Int,0≤j→j<ps.length→(-1000≤fI (ps.getD j.toNat .undef) 0∧fI (ps.getD j.toNat .undef) 0≤1000)∧(0<j→fI (ps.getD (j - 1).toNat .undef) 0<fI (ps.getD j.toNat .undef) 0):=fun j h0 hn=>by
  have e:=h j h0 hn
  simp only [badP,badA,v72,Bool.or_eq_false_iff,Bool.not_eq_false',Bool.and_eq_true,decide_eq_true_eq] at e
  refine ⟨e.1.1,fun hj=>?_⟩
  have e3:=e.1.2.2
  rw [decide_eq_true hj,Bool.true_and,Bool.or_eq_false_iff] at e3
  have:=e3.1
  simp only [decide_eq_false_iff_not] at this
  omega
 have grow:∀ m:Nat,(m:Int)<ps.length→(m:Int) - 1000≤fI (ps.getD m .undef) 0:=by
  intro m
  induction m with
  | zero=>intro hm;have:=(hb 0 (by omega) hm).1.1;simp at this ⊢;exact this
  | succ m ih =>
   intro hm
   have h1:=ih (by omega)
   have h2:=(hb ((m:Int)+1) (by omega) (by omega)).2 (by omega)
   rw [show ((m:Int)+1 - 1).toNat=m by omega,show ((m:Int)+1).toNat=m+1 by omega] at h2
   omega
 by_cases hl:ps.length≤2001
 ·exact hl
 ·exfalso
  have h1:=grow 2001 (by omega)
  have h2:=(hb 2001 (by omega) (by omega)).1.2
  rw [show ((2001:Int)).toNat=2001 from rfl] at h2
  omega
theorem P39 (vs rs ps:List AV) (h:vs.length≤1048576) (h':rs.length≤1048576) (h'':ps.length≤1048576):q39 vs rs ps=true∧v39_0 vs rs ps=isC vs rs ps:=by
 unfold q39 v39_0 isC
 rw [(P95 vs h).1,(P95 vs h).2,(P106 rs _ _ h').1,(P106 rs _ _ h').2,run39r vs rs ps h',run39 vs rs ps h h'']
 have hf:=few vs ps
 unfold noneB at hf ⊢
 cases v100_0 vs with
 | false=>exact ⟨rfl,rfl⟩
 | true =>
  cases decide ((rs.length:Int)=vs.length) with
  | false=>exact ⟨rfl,rfl⟩
  | true =>
   cases findF (fun i => !v72_0 (fI (rs.getD i.toNat .undef) 0) 0 999) rs.length 0 with
   | some j=>exact ⟨rfl,rfl⟩
   | none =>
    cases hp:findF (badP vs ps) ps.length 0 with
    | none =>
     rw [hp] at hf
     have c:decide ((ps.length:Int) > 2001)=false:=decide_eq_false (by have:=hf rfl;omega)
     rw [c]
     cases findF (badR rs) rs.length 0 <;> exact ⟨rfl,rfl⟩
    | some j =>
     cases decide ((ps.length:Int) > 2001) with
     | true=>cases findF (badR rs) rs.length 0 <;> exact ⟨rfl,rfl⟩
     | false =>
      cases findF (badR rs) rs.length 0 with
      | some k=>exact ⟨rfl,rfl⟩
      | none =>
       simp only [ro,sumE,L146]
       cases badA vs ps j <;> exact ⟨rfl,rfl⟩
end Go.Proofs.YtealoedecngaoaaGreatDoor

namespace Go.Proofs.YtealoedecngaoaaGreatDoor
open Go Go.Proofs.VE
set_option linter.unusedVariables false
set_option linter.unusedSimpArgs false
def el (xs:List AV) (k:Int):Int:=fI (xs.getD k.toNat .undef) 0
def pat (ps:List AV) (k:Int):Int:=fI (ps.getD k.toNat .undef) 1
structure Col (vs rs ps:List AV):Prop where
 n64:vs.length≤64
 vals:∀ k:Int,0≤k→k<vs.length → -999≤el vs k∧el vs k≤999
 len:(rs.length:Int)=vs.length
 rows:∀ k:Int,0≤k→k<rs.length→0≤el rs k∧el rs k≤999
 dist:∀ j k:Int,0≤j→j<k→k<rs.length→el rs j ≠ el rs k
 pv:∀ i:Int,0≤i→i<ps.length → -1000≤el ps i∧el ps i≤1000
 pa:∀ i:Int,0≤i→i<ps.length→0≤pat ps i∧pat ps i≤vs.length
 asc:∀ i:Int,0<i→i<ps.length→el ps (i - 1)<el ps i∧pat ps (i - 1)≤pat ps i
 part:∀ i:Int,0≤i→i<ps.length→∀ k:Int,0≤k→k<vs.length→(el vs k<el ps i ↔ k<pat ps i)
theorem hasI_iff (xs:List AV) (x:Int):hasI xs x=true ↔ ∃ j:Int,0≤j∧j<xs.length∧el xs j=x:=by
 unfold hasI
 constructor
 ·intro h
  obtain ⟨j,hj⟩:=Option.isSome_iff_exists.1 h
  obtain ⟨h1,h2,h3⟩:=findF_some _ _ hj
  exact ⟨j,h1,by omega,of_decide_eq_true h3⟩
 ·rintro ⟨j,h1,h2,h3⟩
  cases hf:findF (fun i=>decide (fI (xs.getD i.toNat .undef) 0=x)) xs.length 0 with
  | some j=>rfl
  | none =>
   have h:(findF (fun i=>decide (fI (xs.getD i.toNat .undef) 0=x)) xs.length 0).isNone=true:=by rw [hf];rfl
   have:=(findF_isNone _ _).1 h j h1 (by omega)
   exact absurd h3 (of_decide_eq_false this)
theorem badR_iff (rs:List AV) (k:Int) (h0:0≤k) (h1:k<rs.length):badR rs k=false ↔ ∀ j:Int,0≤j→j<k→el rs j ≠ el rs k:=by
 have ek:fI (rs.getD k.toNat .undef) 0=el rs k:=rfl
 have e0:Int.toNat 0=0:=rfl
 unfold badR
 rw [ek,e0,List.drop_zero]
 have tl:(rs.take (Int.toNat k)).length=k.toNat:=by rw [List.length_take];omega
 have te:∀ j:Int,0≤j→j<k→el (rs.take (Int.toNat k)) j=el rs j:=fun j j0 j1=>by
  unfold el
  simp only [List.getD_eq_getElem?_getD]
  rw [List.getElem?_take_of_lt (by omega)]
 constructor
 ·intro h j j0 j1 e
  have:hasI (rs.take (Int.toNat k)) (el rs k)=true:=(hasI_iff _ _).2 ⟨j,j0,by rw [tl];omega,by rw [te j j0 j1];exact e⟩
  rw [h] at this
  cases this
 ·intro h
  cases hb:hasI (rs.take (Int.toNat k)) (el rs k) with
  | false=>rfl
  | true =>
   obtain ⟨j,j0,j1,j2⟩:=(hasI_iff _ _).1 hb
   rw [tl] at j1
   rw [te j j0 (by omega)] at j2
   exact absurd j2 (h j j0 (by omega))
theorem badI_iff (vs:List AV) (a b:Int):badI vs a b=false ↔ ∀ k:Int,0≤k→k<vs.length→(el vs k<a ↔ k<b):=by
 unfold badI
 rw [Bool.not_eq_false',noneB_iff]
 constructor
 ·intro h k h0 h1
  have:=h k h0 h1
  simp only [Bool.not_eq_false',beq_iff_eq] at this
  constructor
  ·intro hk
   rw [decide_eq_true (show fI (vs.getD k.toNat .undef) 0<a from hk)] at this
   exact of_decide_eq_true this.symm
  ·intro hk
   rw [decide_eq_true hk] at this
   exact of_decide_eq_true this
 ·intro h k h0 h1
  have:=h k h0 h1
  simp only [Bool.not_eq_false',beq_iff_eq]
  by_cases hk:k<b
  ·rw [decide_eq_true hk,decide_eq_true (show fI (vs.getD k.toNat .undef) 0<a from this.2 hk)]
  ·rw [decide_eq_false hk,decide_eq_false (show ¬ fI (vs.getD k.toNat .undef) 0<a from fun h=>hk (this.1 h))]
theorem badP_iff (vs ps:List AV) (i:Int):badP vs ps i=false ↔ ((-1000≤el ps i∧el ps i≤1000)∧(0≤pat ps i∧pat ps i≤vs.length)∧(0<i→el ps (i - 1)<el ps i∧pat ps (i - 1)≤pat ps i))∧∀ k:Int,0≤k→k<vs.length→(el vs k<el ps i ↔ k<pat ps i):=by
 unfold badP
 rw [Bool.or_eq_false_iff,badI_iff]
 have e:badA vs ps i=false ↔ ((-1000≤el ps i∧el ps i≤1000)∧(0≤pat ps i∧pat ps i≤vs.length)∧(0<i→el ps (i - 1)<el ps i∧pat ps (i - 1)≤pat ps i)):=by
  unfold badA el pat
  simp only [v72,Bool.or_eq_false_iff,Bool.not_eq_false',Bool.and_eq_true,decide_eq_true_eq,Bool.and_eq_false_iff,decide_eq_false_iff_not]
  constructor
  ·rintro ⟨h1,h2,h3⟩
   exact ⟨h1,h2,fun hi=>by rcases h3 with h3|h3 <;> omega⟩
  ·rintro ⟨h1,h2,h3⟩
   refine ⟨h1,h2,?_⟩
   by_cases hi:i > 0
   ·have:=h3 hi
    right
    omega
   ·exact .inl hi
 rw [e]
 rfl
theorem isC_iff (vs rs ps:List AV) (h:vs.length≤1048576):isC vs rs ps=true ↔ Col vs rs ps:=by
 unfold isC
 rw [(P100 vs h).2]
 simp only [Bool.and_eq_true,decide_eq_true_eq,noneB_iff]
 rw [findF_isNone]
 constructor
 ·rintro ⟨⟨h1,h2⟩,h3,h4,h5,h6⟩
  refine ⟨h2,fun k k0 k1=>?_,h3,fun k k0 k1=>?_,fun j k j0 jk k1=>(badR_iff rs k (by omega) k1).1 (h5 k (by omega) k1) j j0 jk,fun i i0 i1=>((badP_iff vs ps i).1 (h6 i i0 i1)).1.1,fun i i0 i1=>((badP_iff vs ps i).1 (h6 i i0 i1)).1.2.1,
   fun i i0 i1=>((badP_iff vs ps i).1 (h6 i (by omega) i1)).1.2.2 i0,fun i i0 i1=>((badP_iff vs ps i).1 (h6 i i0 i1)).2⟩
  ·have:=h1 k k0 (by omega)
   simp only [v72,Bool.not_eq_false',Bool.and_eq_true,decide_eq_true_eq] at this
   exact this
  ·have:=h4 k k0 k1
   simp only [v72,Bool.not_eq_false',Bool.and_eq_true,decide_eq_true_eq] at this
   exact this
 ·rintro ⟨a1,a2,a3,a4,a5,a6,a7,a8,a9⟩
  refine ⟨⟨fun k k0 k1=>?_,a1⟩,a3,fun k k0 k1=>?_,fun k k0 k1=>(badR_iff rs k k0 k1).2 fun j j0 jk=>a5 j k j0 jk k1,fun i i0 i1=>(badP_iff vs ps i).2 ⟨⟨a6 i i0 i1,a7 i i0 i1,fun hi=>a8 i hi i1⟩,a9 i i0 i1⟩⟩
  ·simp only [v72,Bool.not_eq_false',Bool.and_eq_true,decide_eq_true_eq]
   exact a2 k k0 (by omega)
  ·simp only [v72,Bool.not_eq_false',Bool.and_eq_true,decide_eq_true_eq]
   exact a4 k k0 k1
theorem Col.up {vs rs ps:List AV} (h:Col vs rs ps):∀ (d:Nat) (i:Int),0≤i→i+d<ps.length→(0<d→el ps i<el ps (i+d))∧pat ps i≤pat ps (i+d)
 | 0,i,_,_=>⟨fun h=>absurd h (by omega),by rw [show i+((0:Nat):Int)=i by omega];exact Int.le_refl _⟩
 | d+1,i,h0,h1=>by
  obtain ⟨a,b⟩:=Col.up h d i h0 (by omega)
  obtain ⟨c,e⟩:=h.asc (i+((d+1:Nat):Int)) (by omega) h1
  rw [show i+((d+1:Nat):Int) - 1=i+d by omega] at c e
  refine ⟨fun _=>?_,by omega⟩
  rcases Nat.eq_zero_or_pos d with hd|hd
  ·subst hd
   rw [show i+((0:Nat):Int)=i by omega] at c
   exact c
  ·have:=a hd
   omega
theorem Col.lt {vs rs ps:List AV} (h:Col vs rs ps) {i j:Int} (h0:0≤i) (h1:i<j) (h2:j<ps.length):el ps i<el ps j∧pat ps i≤pat ps j:=by
 have:=h.up (j - i).toNat i h0 (by omega)
 rw [show i+((j - i).toNat:Int)=j by omega] at this
 exact ⟨this.1 (by omega),this.2⟩
theorem sw_len (i j:Int) (xs:List AV):(v149_0 i j xs).length=xs.length:=by unfold v149_0;rw [List.length_set,List.length_set]
theorem el_set (xs:List AV) (i k:Int) (x:Int) (h0:0≤i) (h1:i<xs.length) (k0:0≤k):el (xs.set i.toNat (AV.agg [AV.int .i64 x])) k=if k=i then x else el xs k:=by
 unfold el
 by_cases e:k=i
 ·subst e
  rw [if_pos rfl,getD_set (by omega)]
  rfl
 ·rw [if_neg e]
  simp only [List.getD_eq_getElem?_getD]
  rw [List.getElem?_set_ne (by omega)]
theorem el_sw (xs:List AV) (i j k:Int) (i0:0≤i) (i1:i<xs.length) (j0:0≤j) (j1:j<xs.length) (k0:0≤k):el (v149_0 i j xs) k=if k=j then el xs i else if k=i then el xs j else el xs k:=by
 unfold v149_0
 rw [el_set _ _ _ _ j0 (by rw [List.length_set];exact j1) k0,el_set _ _ _ _ i0 i1 k0]
 rfl
theorem Col.sw {vs rs ps:List AV} (h:Col vs rs ps) {a b i j:Int} (a0:0≤a) (b1:b≤vs.length) (hab:∀ p:Int,0≤p→p<ps.length→pat ps p≤a∨b≤pat ps p) (i0:a≤i) (i1:i<b) (j0:a≤j) (j1:j<b) :
  Col (v149_0 i j vs) (v149_0 i j rs) ps:=by
 have hl:=h.len
 have ev:∀ k:Int,0≤k→el (v149_0 i j vs) k=if k=j then el vs i else if k=i then el vs j else el vs k:=fun k k0=>el_sw vs i j k (by omega) (by omega) (by omega) (by omega) k0
 have er:∀ k:Int,0≤k→el (v149_0 i j rs) k=if k=j then el rs i else if k=i then el rs j else el rs k:=fun k k0=>el_sw rs i j k (by omega) (by omega) (by omega) (by omega) k0
 have dd:∀ p q:Int,0≤p→p<rs.length→0≤q→q<rs.length→p ≠ q→el rs p ≠ el rs q:=fun p q p0 p1 q0 q1 hn e=>by
  rcases Int.lt_or_gt_of_ne hn with h1|h1
  ·exact h.dist p q p0 h1 q1 e
  ·exact h.dist q p q0 h1 p1 e.symm
 refine ⟨by rw [sw_len];exact h.n64,fun k k0 k1=>?_,by rw [sw_len,sw_len];exact h.len,fun k k0 k1=>?_,fun p q p0 pq q1=>?_,h.pv,fun i' i0' i1'=>by rw [sw_len];exact h.pa i' i0' i1',h.asc,fun p p0 p1 k k0 k1=>?_⟩
 ·rw [sw_len] at k1
  rw [ev k k0]
  split
  ·exact h.vals i (by omega) (by omega)
  ·split
   ·exact h.vals j (by omega) (by omega)
   ·exact h.vals k k0 k1
 ·rw [sw_len] at k1
  rw [er k k0]
  split
  ·exact h.rows i (by omega) (by omega)
  ·split
   ·exact h.rows j (by omega) (by omega)
   ·exact h.rows k k0 k1
 ·rw [sw_len] at q1
  rw [er p p0,er q (by omega)]
  split
  ·split
   ·omega
   ·split
    ·rename_i e1 e2 e3
     exact dd i j (by omega) (by omega) (by omega) (by omega) (by omega)
    ·rename_i e1 e2 e3
     exact dd i q (by omega) (by omega) (by omega) (by omega) (by omega)
  ·split
   ·split
    ·rename_i e1 e2 e3
     exact dd j i (by omega) (by omega) (by omega) (by omega) (by omega)
    ·split
     ·omega
     ·exact dd j q (by omega) (by omega) (by omega) (by omega) (by omega)
   ·split
    ·exact dd p i (by omega) (by omega) (by omega) (by omega) (by omega)
    ·split
     ·exact dd p j (by omega) (by omega) (by omega) (by omega) (by omega)
     ·exact h.dist p q p0 pq q1
 ·rw [sw_len] at k1
  rw [ev k k0]
  have hp:=hab p p0 p1
  have hi:=h.part p p0 p1 i (by omega) (by omega)
  have hj:=h.part p p0 p1 j (by omega) (by omega)
  split
  ·rw [hi]
   omega
  ·split
   ·rw [hj]
    omega
   ·exact h.part p p0 p1 k k0 k1
def appS (ss xs:List AV):List AV:=ss.foldl (fun xs s=>v149_0 (fI s 0) (fI s 1) xs) xs
theorem appS_cons (s:AV) (ss xs:List AV):appS (s :: ss) xs=appS ss (v149_0 (fI s 0) (fI s 1) xs):=rfl
theorem appS_snoc (s:AV) (ss xs:List AV):appS (ss++[s]) xs=v149_0 (fI s 0) (fI s 1) (appS ss xs):=by unfold appS;rw [List.foldl_append];rfl
theorem appS_len (ss:List AV):∀ xs:List AV,(appS ss xs).length=xs.length:=by
 induction ss with
 | nil=>intro xs;rfl
 | cons s ss ih=>intro xs;rw [appS_cons,ih,sw_len]
def inS (a b:Int) (ss:List AV):Prop:=∀ s ∈ ss,a≤fI s 0∧fI s 0<b∧a≤fI s 1∧fI s 1<b
theorem Col.swaps {ps:List AV} {a b:Int} (a0:0≤a) (hab:∀ p:Int,0≤p→p<ps.length→pat ps p≤a∨b≤pat ps p):∀ (ss vs rs:List AV),Col vs rs ps→b≤vs.length→inS a b ss→Col (appS ss vs) (appS ss rs) ps
 | [],vs,rs,h,_,_=>h
 | s :: ss,vs,rs,h,hb,hs=>by
  obtain ⟨h1,h2,h3,h4⟩:=hs s List.mem_cons_self
  exact Col.swaps a0 hab ss _ _ (h.sw a0 hb hab h1 h2 h3 h4) (by rw [sw_len];exact hb) fun x hx=>hs x (List.mem_cons_of_mem _ hx)
end Go.Proofs.YtealoedecngaoaaGreatDoor

namespace Go.Proofs.YtealoedecngaoaaGreatDoor
open Go Go.Proofs.VE
set_option linter.unusedVariables false
set_option linter.unusedSimpArgs false
def mk2 (a b:Int):AV:=AV.agg [AV.int .i64 a,AV.int .i64 b]
def N2 (ps:List AV):Prop:=∀ x ∈ ps,mk2 (fI x 0) (fI x 1)=x
theorem N2.at {ps:List AV} (h:N2 ps) {k:Int} (h0:0≤k) (h1:k<ps.length):mk2 (fI (ps.getD k.toNat .undef) 0) (fI (ps.getD k.toNat .undef) 1)=ps.getD k.toNat .undef:=by
 refine h _ ?_
 rw [List.getD_eq_getElem?_getD,List.getElem?_eq_getElem (by omega)]
 exact List.getElem_mem _
theorem N2.map {f:AV→AV} (hf:∀ x,∃ a b,f x=mk2 a b) (xs:List AV):N2 (xs.map f):=fun x hx=>by
 obtain ⟨y,_,rfl⟩:=List.mem_map.1 hx
 obtain ⟨a,b,e⟩:=hf y
 rw [e]
 rfl
theorem take_snoc {xs:List AV} {k:Int} (h0:0≤k) (h1:k<xs.length):xs.take (k+1).toNat=xs.take k.toNat++[xs.getD k.toNat .undef]:=by
 rw [show (k+1).toNat=k.toNat+1 by omega,List.take_add_one,List.getD_eq_getElem?_getD,List.getElem?_eq_getElem (by omega)]
 rfl
def findP (ps:List AV) (v:Int):Option Int:=findF (fun i=>decide (fI (ps.getD i.toNat .undef) 0=v)) ps.length 0
theorem P21 (vs rs ps:List AV) (v:Int) (h:ps.length≤1048576):q21 vs rs ps v=true∧v21_0 vs rs ps v=ro (findP ps v) 0 (pat ps)∧v21_1 vs rs ps v=(findP ps v).isSome:=by
 have hr:runW (R21_0 v vs rs ps) (((ps.length:Int) - 0).toNat+1) 0=some (ro (findP ps v) (.inl ()) fun i => .inr (fI (ps.getD i.toNat .undef) 1)):=by
  refine runW_find (fun i=>i) ps.length _ _ _ (fun i h0 hn=>?_) ?_ ps.length _ 0 (Int.le_refl 0) (by omega) (by omega)
  ·simp only [R21_0,F21_0,G21_0,h0,hn,decide_true,Bool.and_self,cond_true]
   rw [wrap_in (a:=i+1) (by omega) (by omega)]
  ·simp only [R21_0,F21_0,G21_0,Int.lt_irrefl,decide_false,cond_false]
 unfold q21 v21_0 v21_1
 rw [hr]
 cases findP ps v <;> exact ⟨rfl,rfl,rfl⟩
theorem P19 (vs rs ps:List AV) (v:Int) (h:ps.length≤1048576):q19 vs rs ps v=true∧v19_0 vs rs ps v=ro (findP ps v) 0 (pat ps)∧v19_1 vs rs ps v=(findP ps v).isSome:=by
 have hr:runW (R19_0 v ps ps.length) (((ps.length:Int) - 0).toNat+1) 0=some (ro (findP ps v) (.inl ()) fun i => .inr (fI (ps.getD i.toNat .undef) 1,fI (ps.getD i.toNat .undef) 0,fI (ps.getD i.toNat .undef) 1)):=by
  refine runW_find (fun i=>i) ps.length _ _ _ (fun i h0 hn=>?_) ?_ ps.length _ 0 (Int.le_refl 0) (by omega) (by omega)
  ·simp only [R19_0,F19_0,G19_0,h0,hn,decide_true,Bool.and_self,cond_true]
   rw [wrap_in (a:=i+1) (by omega) (by omega)]
  ·simp only [R19_0,F19_0,G19_0,Int.lt_irrefl,decide_false,cond_false]
 unfold q19 v19_0 v19_1
 rw [hr]
 cases findP ps v <;> exact ⟨rfl,rfl,rfl⟩
theorem P143 (vs rs ps:List AV) (v:Int) (h:ps.length≤1048576):q143 vs rs ps v=true∧v143_0 vs rs ps v=(findP ps v).isSome:=⟨(P19 vs rs ps v h).1,(P19 vs rs ps v h).2.2⟩
theorem findP_none {ps:List AV} {v:Int} (h:(findP ps v).isSome=false):∀ k:Int,0≤k→k<ps.length→el ps k ≠ v:=fun k h0 h1 e=>by
 have:(findP ps v).isNone=true:=by
  cases hf:findP ps v with
  | none=>rfl
  | some j=>rw [hf] at h;cases h
 have:=(findF_isNone _ _).1 this k h0 (by omega)
 exact of_decide_eq_false this e
structure Pc (n:Int) (ps:List AV) (v a b t:Int):Prop where
 t0:0≤t
 t1:t≤ps.length
 lo:∀ k:Int,0≤k→k<t→el ps k<v
 hi:∀ k:Int,t≤k→k<ps.length→v<el ps k
 ea:a=if t=0 then 0 else pat ps (t - 1)
 eb:b=if t=ps.length then n else pat ps t
def place (ps:List AV) (v:Int):Int:=ro (findF (fun i=>decide (fI (ps.getD i.toNat .undef) 0 > v)) ps.length 0) ps.length id
theorem place_spec (ps:List AV) (v:Int):0≤place ps v∧place ps v≤ps.length∧(∀ k:Int,0≤k→k<place ps v→el ps k≤v)∧(place ps v<ps.length→v<el ps (place ps v)):=by
 unfold place
 cases hf:findF (fun i=>decide (fI (ps.getD i.toNat .undef) 0 > v)) ps.length 0 with
 | none =>
  refine ⟨by simp [ro],by simp [ro],fun k h0 h1=>?_,fun h=>?_⟩
  ·have:(findF (fun i=>decide (fI (ps.getD i.toNat .undef) 0 > v)) ps.length 0).isNone=true:=by rw [hf];rfl
   have:=(findF_isNone _ _).1 this k h0 (by simp only [ro] at h1;omega)
   have:=of_decide_eq_false this
   unfold el
   omega
  ·simp only [ro] at h
   omega
 | some j =>
  obtain ⟨h1,h2,h3⟩:=findF_some _ _ hf
  refine ⟨by simpa [ro] using h1,by simp only [ro,id];omega,fun k h0 hk=>?_,fun _=>?_⟩
  ·simp only [ro,id] at hk
   have key:∀ (m:Nat) (i:Int),findF (fun i=>decide (fI (ps.getD i.toNat .undef) 0 > v)) m i=some j→∀ k,i≤k→k<j→¬ fI (ps.getD k.toNat .undef) 0 > v:=by
    intro m
    induction m with
    | zero=>intro i h;cases h
    | succ m ih =>
     intro i h k hk1 hk2
     simp only [findF] at h
     cases hp:decide (fI (ps.getD i.toNat .undef) 0 > v) with
     | true=>rw [hp] at h;simp only [cond_true,Option.some.injEq] at h;omega
     | false =>
      rw [hp] at h
      by_cases e:k=i
      ·subst e;exact of_decide_eq_false hp
      ·exact ih (i+1) h k (by omega) hk2
   have:=key _ _ hf k h0 hk
   unfold el
   omega
  ·simp only [ro,id]
   exact of_decide_eq_true h3
theorem pc_of {vs rs ps:List AV} (h:Col vs rs ps) {v:Int} (hf:(findP ps v).isSome=false):Pc vs.length ps v (if place ps v=0 then 0 else pat ps (place ps v - 1)) (if place ps v=ps.length then (vs.length:Int) else pat ps (place ps v)) (place ps v):=by
 obtain ⟨h0,h1,h2,h3⟩:=place_spec ps v
 refine ⟨h0,h1,fun k k0 k1=>?_,fun k k0 k1=>?_,rfl,rfl⟩
 ·have:=findP_none hf k k0 (by omega)
  have:=h2 k k0 k1
  omega
 ·by_cases e:k=place ps v
  ·rw [e];exact h3 (by omega)
  ·have:=(h.lt (i:=place ps v) (j:=k) h0 (by omega) k1).1
   have:=h3 (by omega)
   omega
theorem P144 {vs rs ps:List AV} {v a b t:Int} (h:Pc vs.length ps v a b t) (hl:ps.length≤1048576):q144 vs rs ps v=true∧v144_0 vs rs ps v=a∧v144_1 vs rs ps v=b:=by
 obtain ⟨r,h1,h2⟩:=runW_ends (f:=R144_0 v (vs.length:Int) ps ps.length) (fun s:Int × Int=>0≤s.2∧s.2≤t∧s.1=if s.2=0 then 0 else pat ps (s.2 - 1))
  (fun r=>match r with | .inl x=>t=ps.length∧x=a | .inr x=>t<ps.length∧x.1=a∧x.2.1=b) (fun s=>((ps.length:Int) - s.2).toNat) (fun s hs=>by
   obtain ⟨t6,k⟩:=s
   obtain ⟨k0,k1,e⟩:=hs
   simp only at k0 k1 e
   have ht1:=h.t1
   by_cases hk:k<ps.length
   ·have d1:decide (k<(ps.length:Int))=true:=decide_eq_true hk
    have d2:decide (0≤k)=true:=decide_eq_true k0
    have wk:IntKind.i64.wrap (k+1)=k+1:=wrap_in (by omega) (by omega)
    by_cases hkt:k<t
    ·have hv:=h.lo k k0 hkt
     have d3:decide (fI (ps.getD k.toNat .undef) 0≤v)=true:=decide_eq_true (Int.le_of_lt hv)
     have d4:decide (fI (ps.getD k.toNat .undef) 0 ≥ v)=false:=decide_eq_false (by unfold el at hv;omega)
     refine .inl ⟨(pat ps k,k+1),?_,⟨by simp only;omega,by simp only;omega,?_⟩,by simp only;omega⟩
     ·simp only [R144_0,F144_0,G144_0,d1,d2,d3,d4,wk,Bool.and_self,cond_true,cond_false]
      rfl
     ·simp only
      rw [if_neg (by omega),show k+1 - 1=k by omega]
    ·have hkt':k=t:=by omega
     subst hkt'
     have hv:=h.hi k (Int.le_refl _) hk
     have d3:decide (fI (ps.getD k.toNat .undef) 0≤v)=false:=decide_eq_false (by unfold el at hv;omega)
     have d4:decide (fI (ps.getD k.toNat .undef) 0 ≥ v)=true:=decide_eq_true (Int.le_of_lt hv)
     refine .inr ⟨.inr (t6,fI (ps.getD k.toNat .undef) 1,fI (ps.getD k.toNat .undef) 0,fI (ps.getD k.toNat .undef) 1),?_,hk,?_,?_⟩
     ·simp only [R144_0,F144_0,G144_0,d1,d2,d3,d4,Bool.and_self,cond_true,cond_false]
     ·simp only;rw [e,h.ea]
     ·simp only;rw [h.eb,if_neg (by omega)];rfl
   ·have d1:decide (k<(ps.length:Int))=false:=decide_eq_false hk
    have hkt':k=t:=by omega
    subst hkt'
    refine .inr ⟨.inl t6,?_,by omega,?_⟩
    ·simp only [R144_0,F144_0,G144_0,d1,cond_false]
    ·rw [e,h.ea]) (((ps.length:Int) - 0).toNat+1) (0,0) ⟨by simp,h.t0,rfl⟩ (by simp)
 unfold q144 v144_0 v144_1
 rw [h1]
 cases r with
 | inl x =>
  obtain ⟨e1,e2⟩:=h2
  refine ⟨rfl,e2,?_⟩
  simp only [ro,sumE]
  rw [h.eb,if_pos e1]
 | inr x =>
  obtain ⟨e1,e2,e3⟩:=h2
  exact ⟨rfl,e2,e3⟩
theorem P164 {n:Nat} {ps:List AV} {v a b t:Int} (h:Pc n ps v a b t) (hl:ps.length≤1048576):q164 n ps v=true∧v164_0 n ps v=a∧v164_1 n ps v=b:=by
 have ht1:=h.t1
 have ht0:=h.t0
 obtain ⟨r,h1,h2⟩:=runW_ends (f:=R164_0 ps v (n:Int)) (fun s:Int × Int=>0≤s.2∧s.2≤ps.length∧s.1=if min s.2 t=0 then 0 else pat ps (min s.2 t - 1)) (fun r=>r=a) (fun s=>((ps.length:Int) - s.2).toNat) (fun s hs=>by
   obtain ⟨t8,k⟩:=s
   obtain ⟨k0,k1,e⟩:=hs
   simp only at k0 k1 e
   by_cases hk:k<ps.length
   ·have d1:decide (k<(ps.length:Int))=true:=decide_eq_true hk
    have d2:decide (0≤k)=true:=decide_eq_true k0
    have wk:IntKind.i64.wrap (k+1)=k+1:=wrap_in (by omega) (by omega)
    by_cases hkt:k<t
    ·have hv:=h.lo k k0 hkt
     have d3:decide (fI (ps.getD k.toNat .undef) 0≤v)=true:=decide_eq_true (Int.le_of_lt hv)
     refine .inl ⟨(pat ps k,k+1),?_,⟨by simp only;omega,by simp only;omega,?_⟩,by simp only;omega⟩
     ·simp only [R164_0,F164_0,G164_0,d1,d2,d3,wk,Bool.and_self,cond_true,cond_false]
      rfl
     ·simp only
      rw [Int.min_eq_left (by omega:k+1≤t),if_neg (by omega),show k+1 - 1=k by omega]
    ·have hv:=h.hi k (by omega) hk
     have d3:decide (fI (ps.getD k.toNat .undef) 0≤v)=false:=decide_eq_false (by unfold el at hv;omega)
     refine .inl ⟨(t8,k+1),?_,⟨by simp only;omega,by simp only;omega,?_⟩,by simp only;omega⟩
     ·simp only [R164_0,F164_0,G164_0,d1,d2,d3,wk,Bool.and_self,cond_true,cond_false]
     ·simp only
      rw [e,Int.min_eq_right (by omega:t≤k+1),Int.min_eq_right (by omega:t≤k)]
   ·have d1:decide (k<(ps.length:Int))=false:=decide_eq_false hk
    refine .inr ⟨t8,?_,?_⟩
    ·simp only [R164_0,F164_0,G164_0,d1,cond_false]
    ·rw [e,h.ea,Int.min_eq_right (by omega:t≤k)]) (((ps.length:Int) - 0).toNat+1) (0,0) ⟨by simp,by simp,by simp only;rw [Int.min_eq_left ht0];rfl⟩ (by simp)
 subst h2
 obtain ⟨r',h3,h4⟩:=runW_ends (f:=R164_2 ps v r) (fun s:Int × Int => -1≤s.2∧s.2<ps.length∧s.1=if max (s.2+1) t=ps.length then (n:Int) else pat ps (max (s.2+1) t)) (fun r=>r=b) (fun s=>(s.2+1).toNat) (fun s hs=>by
   obtain ⟨t9,k⟩:=s
   obtain ⟨k0,k1,e⟩:=hs
   simp only at k0 k1 e
   by_cases hk:k ≥ 0
   ·have d1:decide (k ≥ 0)=true:=decide_eq_true hk
    have d2:decide (0≤k)=true:=decide_eq_true hk
    have d3:decide (k<(ps.length:Int))=true:=decide_eq_true k1
    have wk:IntKind.i64.wrap (k - 1)=k - 1:=wrap_in (by omega) (by omega)
    by_cases hkt:k<t
    ·have hv:=h.lo k hk hkt
     have d4:decide (fI (ps.getD k.toNat .undef) 0 ≥ v)=false:=decide_eq_false (by unfold el at hv;omega)
     refine .inl ⟨(t9,k - 1),?_,⟨by simp only;omega,by simp only;omega,?_⟩,by simp only;omega⟩
     ·simp only [R164_2,F164_2,G164_2,d1,d2,d3,d4,wk,Bool.and_self,cond_true,cond_false]
     ·simp only
      rw [e,Int.max_eq_right (by omega:k+1≤t),Int.max_eq_right (by omega:k - 1+1≤t)]
    ·have hv:=h.hi k (by omega) k1
     have d4:decide (fI (ps.getD k.toNat .undef) 0 ≥ v)=true:=decide_eq_true (Int.le_of_lt hv)
     refine .inl ⟨(pat ps k,k - 1),?_,⟨by simp only;omega,by simp only;omega,?_⟩,by simp only;omega⟩
     ·simp only [R164_2,F164_2,G164_2,d1,d2,d3,d4,wk,Bool.and_self,cond_true,cond_false]
      rfl
     ·simp only
      rw [Int.max_eq_left (by omega:t≤k - 1+1),show k - 1+1=k by omega,if_neg (by omega)]
   ·have d1:decide (k ≥ 0)=false:=decide_eq_false hk
    refine .inr ⟨t9,?_,?_⟩
    ·simp only [R164_2,F164_2,G164_2,d1,cond_false]
    ·rw [e,h.eb,Int.max_eq_right (by omega:k+1≤t)]) (((((ps.length:Int) - 1)) - 0+1).toNat+1) ((n:Int),(ps.length:Int) - 1) ⟨by simp only;omega,by simp only;omega,by simp only;rw [Int.max_eq_left (by omega:t≤(ps.length:Int) - 1+1),if_pos (by omega)]⟩ (by simp only;omega)
 subst h4
 unfold q164 v164_0 v164_1
 rw [wrap_in (a:=(ps.length:Int) - 1) (by omega) (by omega),h1]
 simp only [ro]
 rw [h3]
 refine ⟨?_,?_,?_⟩ <;> first|rfl|trivial
structure Piece (vs ps:List AV) (v a b:Int):Prop where
 a0:0≤a
 ab:a≤b
 b1:b≤vs.length
 cut:∀ p:Int,0≤p→p<ps.length→pat ps p≤a∨b≤pat ps p
 lo:∀ k:Int,0≤k→k<a→el vs k<v
 hi:∀ k:Int,b≤k→k<vs.length→v≤el vs k
theorem piece_of {vs rs ps:List AV} (h:Col vs rs ps) {v a b t:Int} (hp:Pc vs.length ps v a b t):Piece vs ps v a b:=by
 obtain ⟨t0,t1,lo,hi,ea,eb⟩:=hp
 have fa:0≤a∧a≤vs.length∧∀ k:Int,0≤k→k<a→el vs k<v:=by
  rw [ea]
  split
  ·exact ⟨Int.le_refl 0,by omega,fun k h0 h1=>by omega⟩
  ·have:=h.pa (t - 1) (by omega) (by omega)
   refine ⟨this.1,this.2,fun k k0 k1=>?_⟩
   have h1:=(h.part (t - 1) (by omega) (by omega) k k0 (by omega)).2 k1
   have h2:=lo (t - 1) (by omega) (by omega)
   omega
 have fb:0≤b∧b≤vs.length∧∀ k:Int,b≤k→k<vs.length→v≤el vs k:=by
  rw [eb]
  split
  ·exact ⟨by omega,Int.le_refl _,fun k h0 h1=>by omega⟩
  ·have:=h.pa t (by omega) (by omega)
   refine ⟨this.1,this.2,fun k k0 k1=>?_⟩
   have h1:=h.part t (by omega) (by omega) k (by omega) k1
   have h2:=hi t (Int.le_refl _) (by omega)
   omega
 refine ⟨fa.1,?_,fb.2.1,fun p p0 p1=>?_,fa.2.2,fb.2.2⟩
 ·rw [ea,eb]
  split
  ·split
   ·omega
   ·exact (h.pa t (by omega) (by omega)).1
  ·split
   ·exact (h.pa (t - 1) (by omega) (by omega)).2
   ·exact (h.lt (i:=t - 1) (j:=t) (by omega) (by omega) (by omega)).2
 ·by_cases hpt:p<t
  ·left
   rw [ea,if_neg (by omega)]
   by_cases e:p=t - 1
   ·rw [e];exact Int.le_refl _
   ·exact (h.lt (i:=p) (j:=t - 1) p0 (by omega) (by omega)).2
  ·right
   rw [eb,if_neg (by omega)]
   by_cases e:p=t
   ·rw [e];exact Int.le_refl _
   ·exact (h.lt (i:=t) (j:=p) t0 (by omega) p1).2
end Go.Proofs.YtealoedecngaoaaGreatDoor

namespace Go.Proofs.YtealoedecngaoaaGreatDoor
open Go Go.Proofs.VE
set_option linter.unusedVariables false
set_option linter.unusedSimpArgs false
theorem P138 (v r p:List AV) (h1:v.length≤1048576) (h2:r.length≤1048576) (h3:p.length≤1048576):q138 v r p=true∧v138_0 v r p=v∧v138_1 v r p=r∧v138_2 v r p=p:=by
 unfold q138 v138_0 v138_1 v138_2
 simp only [List.length_nil,Nat.zero_add,List.nil_append]
 rw [decide_eq_true (by omega:v.length*8≤140737488355328),decide_eq_true (by omega:v.length≤140737488355328),decide_eq_true (by omega:r.length*8≤140737488355328),decide_eq_true (by omega:r.length≤140737488355328),decide_eq_true (by omega:p.length*16≤140737488355328),decide_eq_true (by omega:p.length≤140737488355328)]
 simp
abbrev PS:=Int × Int × List AV
structure Parted (vs:List AV) (v a b:Int) (ss:List AV) (at_:Int):Prop where
 i0:a≤at_
 i1:at_≤b
 ins:inS a b ss
 n2:N2 ss
 len:(ss.length:Int)≤at_ - a
 lo:∀ k:Int,a≤k→k<at_→el (appS ss vs) k<v
 hi:∀ k:Int,at_≤k→k<b→v≤el (appS ss vs) k
 ord:∀ x ∈ ss,fI x 0<fI x 1
theorem room2 (X:List AV) (a:AV) (h:X.length≤1048576):(decide ((X.length+[a].length)*16≤140737488355328) && decide (X.length+[a].length≤140737488355328))=true:=by
 simp only [List.length_singleton,Bool.and_eq_true,decide_eq_true_eq]
 omega
theorem q149_in (i j:Int) (xs:List AV) (i0:0≤i) (i1:i<xs.length) (j0:0≤j) (j1:j<xs.length):q149 i j xs=true:=by
 unfold q149
 rw [List.length_set,decide_eq_true i0,decide_eq_true i1,decide_eq_true j0,decide_eq_true j1]
 rfl
theorem mem_at {xs:List AV} {k:Int} (h0:0≤k) (h1:k<xs.length):xs.getD k.toNat .undef ∈ xs:=by
 rw [List.getD_eq_getElem?_getD,List.getElem?_eq_getElem (by omega)]
 exact List.getElem_mem _
theorem P102 (vs rs ps ss:List AV) (hv:vs.length≤1048576) (hp:ps.length≤1048576) (hl:(rs.length:Int)=vs.length) (hs:ss.length≤1048576) (h:inS 0 vs.length ss) :
  q102 vs rs ps ss=true∧v102_0 vs rs ps ss=appS ss vs∧v102_1 vs rs ps ss=appS ss rs∧v102_2 vs rs ps ss=ps∧v102_3 vs rs ps ss=true:=by
 obtain ⟨c0,c1,c2,c3⟩:=P138 vs rs ps hv (by omega) hp
 obtain ⟨r,h1,h2⟩:=runW_ends (f:=R102_0 ss vs rs ps ps) (fun s:Int × List AV × List AV=>0≤s.1∧s.1≤ss.length∧s.2.1=appS (ss.take s.1.toNat) vs∧s.2.2=appS (ss.take s.1.toNat) rs) (fun r=>r = .inl (appS ss vs,appS ss rs)) (fun s=>((ss.length:Int) - s.1).toNat) (fun s hI=>by
   obtain ⟨k,X,Y⟩:=s
   obtain ⟨k0,k1,ex,ey⟩:=hI
   simp only at k0 k1 ex ey
   subst ex ey
   by_cases hk:k<ss.length
   ·have d1:decide (k<(ss.length:Int))=true:=decide_eq_true hk
    have d2:decide (0≤k)=true:=decide_eq_true k0
    have wk:IntKind.i64.wrap (k+1)=k+1:=wrap_in (by omega) (by omega)
    obtain ⟨g1,g2,g3,g4⟩:=h _ (mem_at k0 hk)
    have lx:=appS_len (ss.take k.toNat) vs
    have ly:=appS_len (ss.take k.toNat) rs
    have wl:IntKind.i64.wrap (((appS (ss.take k.toNat) vs).length:Int) - 1)=(vs.length:Int) - 1:=by rw [lx,wrap_in (by omega) (by omega)]
    have e1:v72_0 (fI (ss.getD k.toNat AV.undef) 0) 0 ((vs.length:Int) - 1)=true:=by rw [v72,decide_eq_true g1,decide_eq_true (by omega)];rfl
    have e2:v72_0 (fI (ss.getD k.toNat AV.undef) 1) 0 ((vs.length:Int) - 1)=true:=by rw [v72,decide_eq_true g3,decide_eq_true (by omega)];rfl
    refine .inl ⟨(k+1,v149_0 (fI (ss.getD k.toNat AV.undef) 0) (fI (ss.getD k.toNat AV.undef) 1) (appS (ss.take k.toNat) vs),v149_0 (fI (ss.getD k.toNat AV.undef) 0) (fI (ss.getD k.toNat AV.undef) 1) (appS (ss.take k.toNat) rs)),?_,⟨by simp only;omega,by simp only;omega,?_,?_⟩,by simp only;omega⟩
    ·simp only [R102_0,F102_0,G102_0,d1,d2,wk,wl,e1,e2,q149_in _ _ (appS (ss.take k.toNat) vs) g1 (by omega) g3 (by omega),q149_in _ _ (appS (ss.take k.toNat) rs) g1 (by omega) g3 (by omega),Bool.and_self,Bool.not_true,cond_true,cond_false]
    ·simp only
     rw [take_snoc k0 hk,appS_snoc]
    ·simp only
     rw [take_snoc k0 hk,appS_snoc]
   ·have d1:decide (k<(ss.length:Int))=false:=decide_eq_false hk
    refine .inr ⟨_,by simp only [R102_0,F102_0,G102_0,d1,cond_false];rfl,?_⟩
    rw [List.take_of_length_le (by omega)]) (((ss.length:Int) - 0).toNat+1) (0,vs,rs) ⟨by simp,by simp,rfl,rfl⟩ (by simp)
 subst h2
 unfold q102 v102_0 v102_1 v102_2 v102_3
 rw [c0,c1,c2,c3,decide_eq_true hl,h1]
 exact ⟨rfl,rfl,rfl,rfl,rfl⟩
def insP (ps:List AV) (v a:Int):List AV:=ps.take (place ps v).toNat++[mk2 v a]++ps.drop (place ps v).toNat
theorem insP_len (ps:List AV) (v a:Int):(insP ps v a).length=ps.length+1:=by
 have:=place_spec ps v
 unfold insP
 simp only [List.length_append,List.length_take,List.length_drop,List.length_singleton]
 omega
theorem insP_N2 {ps:List AV} (h:N2 ps) (v a:Int):N2 (insP ps v a):=fun x hx=>by
 unfold insP at hx
 rcases List.mem_append.1 hx with hx|hx
 ·rcases List.mem_append.1 hx with hx|hx
  ·exact h x (List.mem_of_mem_take hx)
  ·rw [List.mem_singleton.1 hx]
   rfl
 ·exact h x (List.mem_of_mem_drop hx)
theorem insP_at (ps:List AV) (v a:Int) (i:Int) (h0:0≤i):(insP ps v a).getD i.toNat .undef=if i<place ps v then ps.getD i.toNat .undef else if i=place ps v then mk2 v a else ps.getD (i - 1).toNat .undef:=by
 obtain ⟨p0,p1,_,_⟩:=place_spec ps v
 unfold insP
 simp only [List.getD_eq_getElem?_getD]
 have tl:(ps.take (place ps v).toNat).length=(place ps v).toNat:=by rw [List.length_take];omega
 split
 ·rw [List.append_assoc,List.getElem?_append_left (by omega),List.getElem?_take_of_lt (by omega)]
 ·split
  ·rename_i e1 e2
   rw [List.append_assoc,List.getElem?_append_right (by omega),tl,e2,Nat.sub_self]
   rfl
  ·rw [List.append_assoc,List.getElem?_append_right (by omega),tl,List.getElem?_append_right (by simp;omega),List.getElem?_drop]
   congr 2
   simp only [List.length_singleton]
   omega
theorem Col.pivot {vs rs ps:List AV} (h:Col vs rs ps) {v at_:Int} (hf:∀ k:Int,0≤k→k<ps.length→el ps k ≠ v) (hv : -1000≤v∧v≤1000) (ha:0≤at_∧at_≤vs.length) (hat:∀ k:Int,0≤k→k<vs.length→(el vs k<v ↔ k<at_))
  (hcut:∀ p:Int,0≤p→p<ps.length→(el ps p<v→pat ps p≤at_)∧(v<el ps p→at_≤pat ps p)):Col vs rs (insP ps v at_):=by
 obtain ⟨p0,p1,p2,p3⟩:=place_spec ps v
 have hlen:=insP_len ps v at_
 generalize hpl:place ps v=t at *
 have eel:∀ i:Int,0≤i→el (insP ps v at_) i=if i<t then el ps i else if i=t then v else el ps (i - 1):=fun i h0=>by
  unfold el
  rw [insP_at ps v at_ i h0,hpl]
  split
  ·rfl
  ·split <;> rfl
 have epa:∀ i:Int,0≤i→pat (insP ps v at_) i=if i<t then pat ps i else if i=t then at_ else pat ps (i - 1):=fun i h0=>by
  unfold pat
  rw [insP_at ps v at_ i h0,hpl]
  split
  ·rfl
  ·split <;> rfl
 have lo:∀ k:Int,0≤k→k<t→el ps k<v:=fun k k0 k1=>by
  have:=p2 k k0 k1
  have:=hf k k0 (by omega)
  omega
 have hi:∀ k:Int,t≤k→k<ps.length→v<el ps k:=fun k k0 k1=>by
  by_cases e:k=t
  ·rw [e];exact p3 (by omega)
  ·have:=(h.lt (i:=t) (j:=k) p0 (by omega) k1).1
   have:=p3 (by omega)
   omega
 refine ⟨h.n64,h.vals,h.len,h.rows,h.dist,fun i i0 i1=>?_,fun i i0 i1=>?_,fun i i0 i1=>?_,fun i i0 i1 k k0 k1=>?_⟩
 ·rw [eel i i0]
  split
  ·exact h.pv i i0 (by omega)
  ·split
   ·exact hv
   ·exact h.pv (i - 1) (by omega) (by omega)
 ·rw [epa i i0]
  split
  ·exact h.pa i i0 (by omega)
  ·split
   ·exact ha
   ·exact h.pa (i - 1) (by omega) (by omega)
 ·rw [eel i (by omega),eel (i - 1) (by omega),epa i (by omega),epa (i - 1) (by omega)]
  by_cases h1:i<t
  ·have q:i - 1<t:=by omega
   rw [if_pos h1,if_pos h1,if_pos q,if_pos q]
   exact h.asc i i0 (by omega)
  ·by_cases h2:i=t
   ·have q:i - 1<t:=by omega
    rw [if_neg h1,if_neg h1,if_pos h2,if_pos h2,if_pos q,if_pos q]
    have a1:=lo (i - 1) (by omega) (by omega)
    exact ⟨a1,(hcut (i - 1) (by omega) (by omega)).1 a1⟩
   ·have q:¬ i - 1<t:=by omega
    rw [if_neg h1,if_neg h1,if_neg h2,if_neg h2,if_neg q,if_neg q]
    by_cases h3:i - 1=t
    ·rw [if_pos h3,if_pos h3]
     have a1:=hi (i - 1) (by omega) (by omega)
     exact ⟨a1,(hcut (i - 1) (by omega) (by omega)).2 a1⟩
    ·rw [if_neg h3,if_neg h3]
     exact h.asc (i - 1) (by omega) (by omega)
 ·rw [eel i i0,epa i i0]
  split
  ·exact h.part i i0 (by omega) k k0 k1
  ·split
   ·exact hat k k0 k1
   ·exact h.part (i - 1) (by omega) (by omega) k k0 k1
theorem drop_snoc {xs:List AV} {t k:Int} (h0:0≤t) (ht:t≤k) (h1:k<xs.length):(xs.take (k+1).toNat).drop t.toNat=(xs.take k.toNat).drop t.toNat++[xs.getD k.toNat .undef]:=by
 rw [take_snoc (by omega) h1,List.drop_append_of_le_length (by rw [List.length_take];omega)]
theorem run103 (a1 a2 vs rs ps:List AV) (v a:Int) (h3:ps.length≤1048576) (hN:N2 ps):∃ r:Bool × List AV,runW (R103_0 a1 a2 vs rs ps v a) (((ps.length:Int) - 0).toNat+1) (false,0,[])=some r∧(r.2.length≤1048577∧(r.1=false→r.2++[mk2 v a]=insP ps v a∧r.2.length≤1048576)∧(r.1=true→r.2=insP ps v a)):=by
 obtain ⟨p0,p1,p2,p3⟩:=place_spec ps v
 have hins:insP ps v a=ps.take (place ps v).toNat++[mk2 v a]++ps.drop (place ps v).toNat:=rfl
 have hlen:=insP_len ps v a
 generalize hpl:place ps v=t at *
 obtain ⟨r,h1,h2⟩:=runW_ends (f:=R103_0 a1 a2 vs rs ps v a) (fun s:Bool × Int × List AV=>0≤s.2.1∧s.2.1≤ps.length∧((s.1=false∧s.2.1≤t∧s.2.2=ps.take s.2.1.toNat)∨(s.1=true∧t<s.2.1∧s.2.2=ps.take t.toNat++[mk2 v a]++(ps.take s.2.1.toNat).drop t.toNat)))
  (fun r=>(r.1=false∧t=ps.length∧r.2=ps)∨(r.1=true∧t<ps.length∧r.2=ps.take t.toNat++[mk2 v a]++ps.drop t.toNat)) (fun s=>((ps.length:Int) - s.2.1).toNat) (fun s hI=>by
   obtain ⟨b,k,acc⟩:=s
   obtain ⟨k0,k1,hI⟩:=hI
   simp only at k0 k1 hI
   by_cases hk:k<ps.length
   ·have d1:decide (k<(ps.length:Int))=true:=decide_eq_true hk
    have d2:decide (0≤k)=true:=decide_eq_true k0
    have wk:IntKind.i64.wrap (k+1)=k+1:=wrap_in (by omega) (by omega)
    have en:AV.agg [AV.int .i64 (fI (ps.getD k.toNat AV.undef) 0),AV.int .i64 (fI (ps.getD k.toNat AV.undef) 1)]=ps.getD k.toNat .undef:=hN.at k0 hk
    rcases hI with ⟨rfl,kt,rfl⟩|⟨rfl,kt,rfl⟩
    ·have hl:(ps.take k.toNat).length≤1048576:=by rw [List.length_take];omega
     by_cases hkt:k<t
     ·have d3:decide (fI (ps.getD k.toNat AV.undef) 0 > v)=false:=decide_eq_false (by have:=p2 k k0 hkt;unfold el at this;omega)
      refine .inl ⟨(false,k+1,ps.take (k+1).toNat),?_,⟨by simp only;omega,by simp only;omega,.inl ⟨rfl,by simp only;omega,rfl⟩⟩,by simp only;omega⟩
      simp only [R103_0,F103_0,G103_0,d1,d2,d3,wk,en,room2 _ _ hl,Bool.and_self,Bool.not_false,cond_true,cond_false]
      rw [take_snoc k0 hk]
     ·have hkt':k=t:=by omega
      have d3:decide (fI (ps.getD k.toNat AV.undef) 0 > v)=true:=decide_eq_true (by have:=p3 (by omega);rw [← hkt'] at this;exact this)
      have hl2:(ps.take k.toNat++[AV.agg [AV.int .i64 v,AV.int .i64 a]]).length≤1048576:=by rw [List.length_append,List.length_take,List.length_singleton];omega
      refine .inl ⟨(true,k+1,ps.take t.toNat++[mk2 v a]++(ps.take (k+1).toNat).drop t.toNat),?_,⟨by simp only;omega,by simp only;omega,.inr ⟨rfl,by simp only;omega,rfl⟩⟩,by simp only;omega⟩
      simp only [R103_0,F103_0,G103_0,d1,d2,d3,wk,en,room2 _ _ hl,room2 _ _ hl2,Bool.and_self,Bool.not_false,cond_true,cond_false]
      rw [drop_snoc p0 (by omega) hk,List.drop_eq_nil_of_le (show (ps.take k.toNat).length≤t.toNat by rw [List.length_take];omega),← hkt']
      rfl
    ·have hl:(ps.take t.toNat++[mk2 v a]++(ps.take k.toNat).drop t.toNat).length≤1048576:=by
      simp only [List.length_append,List.length_take,List.length_drop,List.length_singleton]
      omega
     refine .inl ⟨(true,k+1,ps.take t.toNat++[mk2 v a]++(ps.take (k+1).toNat).drop t.toNat),?_,⟨by simp only;omega,by simp only;omega,.inr ⟨rfl,by simp only;omega,rfl⟩⟩,by simp only;omega⟩
     simp only [R103_0,F103_0,G103_0,d1,d2,wk,en,room2 _ _ hl,Bool.and_self,Bool.not_true,cond_true,cond_false]
     rw [drop_snoc p0 (by omega) hk,List.append_assoc _ _ [ps.getD k.toNat AV.undef]]
   ·have d1:decide (k<(ps.length:Int))=false:=decide_eq_false hk
    rcases hI with ⟨rfl,kt,rfl⟩|⟨rfl,kt,rfl⟩
    ·refine .inr ⟨(false,ps.take k.toNat),by simp only [R103_0,F103_0,G103_0,d1,cond_false],.inl ⟨rfl,by omega,?_⟩⟩
     exact List.take_of_length_le (by omega)
    ·refine .inr ⟨(true,ps.take t.toNat++[mk2 v a]++(ps.take k.toNat).drop t.toNat),by simp only [R103_0,F103_0,G103_0,d1,cond_false],.inr ⟨rfl,by omega,?_⟩⟩
     rw [List.take_of_length_le (l:=ps) (i:=k.toNat) (by omega)]) (((ps.length:Int) - 0).toNat+1) (false,0,[]) ⟨by simp,by simp,.inl ⟨rfl,p0,rfl⟩⟩ (by simp)
 refine ⟨r,h1,?_⟩
 obtain ⟨b,acc⟩:=r
 rcases h2 with ⟨e1,e2,e3⟩|⟨e1,e2,e3⟩
 ·simp only at e1 e3
  subst e1 e3
  refine ⟨by simp only;omega,fun _=>⟨?_,h3⟩,fun h=>by cases h⟩
  rw [hins,e2]
  simp
 ·simp only at e1 e3
  subst e1 e3
  refine ⟨?_,⟨fun h=>(by cases h),fun _=>hins.symm⟩⟩
  simp only
  rw [← hins,hlen]
  omega
theorem P103 (vs rs ps:List AV) (v a:Int) (h1:vs.length≤1048576) (h2:rs.length≤1048576) (h3:ps.length≤1048575) (hN:N2 ps) :
  q103 vs rs ps v a=true∧v103_0 vs rs ps v a=vs∧v103_1 vs rs ps v a=rs∧v103_2 vs rs ps v a=(bif isC vs rs ps && isC vs rs (insP ps v a) then insP ps v a else ps)∧v103_3 vs rs ps v a=(isC vs rs ps && isC vs rs (insP ps v a)):=by
 obtain ⟨c0,c1,c2,c3⟩:=P138 vs rs ps h1 h2 (by omega)
 obtain ⟨r,g1,g2,g3,g4⟩:=run103 vs rs vs rs ps v a (by omega) hN
 have hl:=insP_len ps v a
 have k1:=P71 vs rs ps h1 h2 (by omega)
 have k2:=P71 vs rs (insP ps v a) h1 h2 (by omega)
 unfold q103 v103_0 v103_1 v103_2 v103_3
 rw [c0,c1,c2,c3,k1.1,k1.2,g1]
 obtain ⟨b,acc⟩:=r
 cases b with
 | false =>
  obtain ⟨e1,e2⟩:=g3 rfl
  simp only at e1 e2
  have e1':acc++[AV.agg [AV.int .i64 v,AV.int .i64 a]]=insP ps v a:=e1
  simp only [ro,Bool.not_false,cond_true,room2 _ _ e2,e1',k2.1,k2.2]
  cases isC vs rs ps <;> cases isC vs rs (insP ps v a) <;> (refine ⟨?_,?_,?_,?_,?_⟩ <;> first|rfl|trivial)
 | true =>
  have e1:=g4 rfl
  simp only at e1
  subst e1
  simp only [ro,Bool.not_true,cond_false,k2.1,k2.2]
  cases isC vs rs ps <;> cases isC vs rs (insP ps v a) <;> (refine ⟨?_,?_,?_,?_,?_⟩ <;> first|rfl|trivial)
end Go.Proofs.YtealoedecngaoaaGreatDoor

namespace Go.Proofs.YtealoedecngaoaaGreatDoor
open Go Go.Proofs.VE
set_option linter.unusedVariables false
set_option linter.unusedSimpArgs false
theorem col_few {vs rs ps:List AV} (h:Col vs rs ps):ps.length≤2001:=by
 have hl:=h.n64
 have hc:=(isC_iff vs rs ps (by omega)).2 h
 unfold isC at hc
 simp only [Bool.and_eq_true] at hc
 exact few vs ps hc.2.2.2.2
theorem appS_out {a b:Int} (a0:0≤a):∀ (ss vs:List AV),b≤vs.length→inS a b ss→∀ k:Int,0≤k→(k<a∨b≤k)→el (appS ss vs) k=el vs k
 | [],vs,_,_,k,_,_=>rfl
 | s :: ss,vs,hb,hs,k,k0,hk=>by
  obtain ⟨h1,h2,h3,h4⟩:=hs s List.mem_cons_self
  rw [appS_cons,appS_out a0 ss _ (by rw [sw_len];exact hb) (fun x hx=>hs x (List.mem_cons_of_mem _ hx)) k k0 hk,el_sw vs _ _ k (by omega) (by omega) (by omega) (by omega) k0,if_neg (by omega),if_neg (by omega)]
theorem Pc.cut {vs rs ps:List AV} (h:Col vs rs ps) {v a b t:Int} (hp:Pc vs.length ps v a b t) {p:Int} (p0:0≤p) (p1:p<ps.length):(el ps p<v→pat ps p≤a)∧(v<el ps p→b≤pat ps p):=by
 obtain ⟨t0,t1,lo,hi,ea,eb⟩:=hp
 constructor
 ·intro hl
  have hpt:p<t:=by
   rcases Int.lt_or_le p t with h1|h1
   ·exact h1
   ·have:=hi p h1 p1;omega
  rw [ea,if_neg (by omega)]
  by_cases e:p=t - 1
  ·rw [e];exact Int.le_refl _
  ·exact (h.lt (i:=p) (j:=t - 1) p0 (by omega) (by omega)).2
 ·intro hl
  have hpt:t≤p:=by
   rcases Int.lt_or_le p t with h1|h1
   ·have:=lo p p0 h1;omega
   ·exact h1
  rw [eb,if_neg (by omega)]
  by_cases e:p=t
  ·rw [e];exact Int.le_refl _
  ·exact (h.lt (i:=t) (j:=p) t0 (by omega) p1).2
theorem bound_of {v:Int} (hv : -1000≤v∧v≤1000):v72_0 v (-1000) 1000=true:=by
 rw [v72,decide_eq_true hv.1,decide_eq_true hv.2]
 rfl
theorem P101 {vs rs ps:List AV} (h:Col vs rs ps) {v a b t:Int} (hv : -1000≤v∧v≤1000) (hp:Pc vs.length ps v a b t):q101 vs rs ps v=true∧v101_0 vs rs ps v=a∧v101_1 vs rs ps v=b:=by
 have hl:=h.n64
 have hlen:=h.len
 have hf:=col_few h
 have hc:=(isC_iff vs rs ps (by omega)).2 h
 obtain ⟨g1,g2⟩:=P71 vs rs ps (by omega) (by omega) (by omega)
 obtain ⟨k1,k2,k3⟩:=P164 hp (by omega)
 unfold q101 v101_0 v101_1
 rw [g1,g2,hc,bound_of hv,k1,k2,k3]
 exact ⟨rfl,rfl,rfl⟩
end Go.Proofs.YtealoedecngaoaaGreatDoor

namespace Go.Proofs.YtealoedecngaoaaGreatDoor
open Go Go.Proofs.VE
set_option linter.unusedVariables false
set_option linter.unusedSimpArgs false
structure ParJ (vs:List AV) (v a b:Int) (s:PS):Prop where
 i0:a≤s.1
 ij:s.1≤s.2.1+1
 j1:s.2.1<b
 ins:inS a b s.2.2
 n2:N2 s.2.2
 len:(s.2.2.length:Int)≤s.1 - a
 mid:∀ k:Int,s.1≤k→k≤s.2.1→el (appS s.2.2 vs) k=el vs k
 lo:∀ k:Int,a≤k→k<s.1→el (appS s.2.2 vs) k<v
 hi:∀ k:Int,s.2.1<k→k<b→v≤el (appS s.2.2 vs) k
 ord:∀ x ∈ s.2.2,fI x 0<fI x 1
theorem stepJ (vs:List AV) (v a b:Int) (hn:vs.length≤1048576) (a0:0≤a) (b1:b≤vs.length) (s:PS) (h:ParJ vs v a b s) :
  (∃ x,R169_0 vs v s = .next x∧ParJ vs v a b x∧(x.2.1+1 - x.1).toNat<(s.2.1+1 - s.1).toNat)∨∃ r,R169_0 vs v s = .stop r∧Parted vs v a b r.2 r.1:=by
 obtain ⟨i',j',ss'⟩:=s
 obtain ⟨i0,ij,j1,ins,n2,len,mid,lo,hi,ord⟩:=h
 simp only at i0 ij j1 ins n2 len mid lo hi ord
 have hlen:=appS_len ss' vs
 by_cases hij:i'≤j'
 ·have d0:decide (i'≤j')=true:=decide_eq_true hij
  have c1:decide (0≤i')=true:=decide_eq_true (by omega)
  have c2:decide (i'<(vs.length:Int))=true:=decide_eq_true (by omega)
  have c3:decide (0≤j')=true:=decide_eq_true (by omega)
  have c4:decide (j'<(vs.length:Int))=true:=decide_eq_true (by omega)
  have wi:IntKind.i64.wrap (i'+1)=i'+1:=wrap_in (by omega) (by omega)
  have wj:IntKind.i64.wrap (j' - 1)=j' - 1:=wrap_in (by omega) (by omega)
  have mi:=mid i' (Int.le_refl _) hij
  have mj:=mid j' hij (Int.le_refl _)
  have gi:fI (vs.getD i'.toNat AV.undef) 0=el vs i':=rfl
  have gj:fI (vs.getD j'.toNat AV.undef) 0=el vs j':=rfl
  by_cases h1:el vs i'<v
  ·have d1:decide (el vs i'<v)=true:=decide_eq_true h1
   refine .inl ⟨(i'+1,j',ss'),?_,⟨by simp only;omega,by simp only;omega,j1,ins,n2,by simp only;omega,fun k k0 k1=>mid k (by simp only at k0;omega) k1,fun k k0 k1=>?_,hi,ord⟩,by simp only;omega⟩
   ·simp only [R169_0,F169_0,G169_0,gi,d0,c1,c2,d1,wi,Bool.and_self,cond_true]
   ·simp only at k1 ⊢
    by_cases e:k=i'
    ·rw [e,mi];exact h1
    ·exact lo k k0 (by omega)
  ·have d1:decide (el vs i'<v)=false:=decide_eq_false h1
   by_cases h2:el vs j' ≥ v
   ·have d2:decide (el vs j' ≥ v)=true:=decide_eq_true h2
    refine .inl ⟨(i',j' - 1,ss'),?_,⟨i0,by simp only;omega,by simp only;omega,ins,n2,len,fun k k0 k1=>mid k k0 (by simp only at k1;omega),lo,fun k k0 k1=>?_,ord⟩,by simp only;omega⟩
    ·simp only [R169_0,F169_0,G169_0,gi,gj,d0,c1,c2,c3,c4,d1,d2,wj,Bool.and_self,cond_true,cond_false]
    ·simp only at k0 ⊢
     by_cases e:k=j'
     ·rw [e,mj];exact h2
     ·exact hi k (by omega) k1
   ·have d2:decide (el vs j' ≥ v)=false:=decide_eq_false h2
    have hne:i'<j':=by
     rcases Int.lt_or_eq_of_le hij with h|h
     ·exact h
     ·rw [h] at h1;omega
    have hr:=room2 ss' (AV.agg [AV.int .i64 i',AV.int .i64 j']) (by omega)
    have eap:appS (ss'++[AV.agg [AV.int .i64 i',AV.int .i64 j']]) vs=v149_0 i' j' (appS ss' vs):=appS_snoc _ _ _
    have ev:∀ k:Int,0≤k→el (v149_0 i' j' (appS ss' vs)) k=if k=j' then el (appS ss' vs) i' else if k=i' then el (appS ss' vs) j' else el (appS ss' vs) k:=fun k k0=>el_sw _ i' j' k (by omega) (by omega) (by omega) (by omega) k0
    refine .inl ⟨(i'+1,j' - 1,ss'++[AV.agg [AV.int .i64 i',AV.int .i64 j']]),?_,
     ⟨by simp only;omega,by simp only;omega,by simp only;omega,fun x hx=>?_,fun x hx=>?_,by simp only [List.length_append,List.length_singleton];omega,fun k k0 k1=>?_,fun k k0 k1=>?_,fun k k0 k1=>?_,fun x hx=>?_⟩,by simp only;omega⟩
    ·simp only [R169_0,F169_0,G169_0,gi,gj,d0,c1,c2,c3,c4,d1,d2,wi,wj,hr,Bool.and_self,cond_true,cond_false]
    ·rcases List.mem_append.1 hx with hx|hx
     ·exact ins x hx
     ·rw [List.mem_singleton.1 hx]
      exact ⟨i0,by show i'<b;omega,by show a≤j';omega,j1⟩
    ·rcases List.mem_append.1 hx with hx|hx
     ·exact n2 x hx
     ·rw [List.mem_singleton.1 hx]
      rfl
    ·simp only at k0 k1
     rw [eap,ev k (by omega),if_neg (by omega),if_neg (by omega)]
     exact mid k (by omega) (by omega)
    ·simp only at k1
     rw [eap,ev k (by omega),if_neg (by omega)]
     split
     ·rw [mj];omega
     ·exact lo k k0 (by omega)
    ·simp only at k0
     rw [eap,ev k (by omega)]
     split
     ·rw [mi];omega
     ·rw [if_neg (by omega)]
      exact hi k (by omega) k1
    ·rcases List.mem_append.1 hx with hx|hx
     ·exact ord x hx
     ·rw [List.mem_singleton.1 hx]
      exact hne
 ·have d0:decide (i'≤j')=false:=decide_eq_false hij
  refine .inr ⟨(i',ss'),?_,⟨i0,by simp only;omega,ins,n2,len,lo,fun k k0 k1=>hi k (by simp only at k0;omega) k1,ord⟩⟩
  simp only [R169_0,F169_0,G169_0,d0,cond_false]
theorem P169s (vs:List AV) (v a b:Int) (hn:vs.length≤1048576) (a0:0≤a) (ab:a≤b) (b1:b≤vs.length):q169 vs a b v=true∧Parted vs v a b (v169_0 vs a b v) (v169_1 vs a b v):=by
 obtain ⟨r,h1,h5⟩:=runW_ends (ParJ vs v a b) (fun (r:Int × List AV)=>Parted vs v a b r.2 r.1) (fun s=>(s.2.1+1 - s.1).toNat) (stepJ vs v a b hn a0 b1) (((b - 1) - a+1).toNat+1) (a,b - 1,[])
  ⟨Int.le_refl _,by simp only;omega,by simp only;omega,fun x hx=>by simp at hx,fun x hx=>by simp at hx,by simp,fun k _ _=>rfl,fun k k0 k1=>by simp only at k1;omega,fun k k0 k1=>by simp only at k0;omega,fun x hx=>by simp at hx⟩ (by simp only;omega)
 have wb:IntKind.i64.wrap (b - 1)=b - 1:=wrap_in (by omega) (by omega)
 have d3:decide (b > (vs.length:Int))=false:=decide_eq_false (by omega)
 have d4:v72_0 a 0 b=true:=by rw [v72,decide_eq_true a0,decide_eq_true ab];rfl
 unfold q169 v169_0 v169_1
 rw [wb,d3,d4,h1]
 exact ⟨rfl,h5⟩
structure Cs (vs rs ps:List AV) (v a b at_:Int) (ss:List AV):Prop where
 c:q111 vs rs ps v=true∧v111_0 vs rs ps v=appS ss vs∧v111_1 vs rs ps v=appS ss rs∧v111_2 vs rs ps v=insP ps v at_∧v111_4 vs rs ps v=true
 ok:Col (appS ss vs) (appS ss rs) (insP ps v at_)
 n2:N2 (insP ps v at_)
 ins:inS 0 vs.length ss
theorem crack_newS {vs rs ps:List AV} (h:Col vs rs ps) (hN:N2 ps) {v:Int} (hv : -1000≤v∧v≤1000) (hf:(findP ps v).isSome=false):∃ (a b at_:Int) (ss:List AV),Cs vs rs ps v a b at_ ss:=by
 have hl:=h.n64
 have hlen:=h.len
 have hfew:=col_few h
 have hp:=pc_of h hf
 have hpi:=piece_of h hp
 generalize (if place ps v=0 then 0 else pat ps (place ps v - 1))=a at hp hpi
 generalize (if place ps v=ps.length then (vs.length:Int) else pat ps (place ps v))=b at hp hpi
 have a0:=hpi.a0
 have ab:=hpi.ab
 have b1:=hpi.b1
 have k97:=P101 h hv hp
 obtain ⟨d1,par⟩:=P169s vs v a b (by omega) a0 ab b1
 generalize hss:v169_0 vs a b v=ss at par
 generalize hat:v169_1 vs a b v=at_ at par
 have i0:=par.i0
 have i1:=par.i1
 have hs64:ss.length≤64:=by have:=par.len;omega
 have hin:inS 0 vs.length ss:=fun s hs=>by obtain ⟨x1,x2,x3,x4⟩:=par.ins s hs;exact ⟨by omega,by omega,by omega,by omega⟩
 have hcol1:=Col.swaps (ps:=ps) a0 hpi.cut ss vs rs h b1 par.ins
 have la:=appS_len ss vs
 have lr:=appS_len ss rs
 have hout:=appS_out a0 ss vs b1 par.ins
 have hcol2:Col (appS ss vs) (appS ss rs) (insP ps v at_):=by
  refine hcol1.pivot (findP_none hf) hv ⟨by omega,by omega⟩ (fun k k0 k1=>?_) (fun p p0 p1=>?_)
  ·rw [la] at k1
   constructor
   ·intro hk
    rcases Int.lt_or_le k at_ with q|q
    ·exact q
    ·exfalso
     rcases Int.lt_or_le k b with q2|q2
     ·have:=par.hi k q q2;omega
     ·have:=hpi.hi k q2 k1
      rw [← hout k k0 (.inr q2)] at this
      omega
   ·intro hk
    rcases Int.lt_or_le k a with q|q
    ·rw [hout k k0 (.inl q)];exact hpi.lo k k0 q
    ·exact par.lo k q hk
  ·obtain ⟨x1,x2⟩:=Pc.cut h hp p0 p1
   exact ⟨fun q=>by have:=x1 q;omega,fun q=>by have:=x2 q;omega⟩
 have hc0:=(isC_iff vs rs ps (by omega)).2 h
 have hc1:=(isC_iff (appS ss vs) (appS ss rs) ps (by omega)).2 hcol1
 have hc2:=(isC_iff (appS ss vs) (appS ss rs) (insP ps v at_) (by omega)).2 hcol2
 obtain ⟨e1,e2,e3,e4,e5⟩:=P102 vs rs ps ss (by omega) (by omega) hlen (by omega) hin
 obtain ⟨g1,g2,g3,g4,g5⟩:=P103 (appS ss vs) (appS ss rs) ps v at_ (by omega) (by omega) (by omega) hN
 rw [hc1,hc2] at g4
 obtain ⟨m1,m2⟩:=P71 vs rs ps (by omega) (by omega) (by omega)
 obtain ⟨n1,n2,n3⟩:=P21 vs rs ps v (by omega)
 obtain ⟨k1,k2,k3⟩:=k97
 refine ⟨a,b,at_,ss,?_,hcol2,insP_N2 hN v at_,hin⟩
 unfold q111 v111_0 v111_1 v111_2 v111_4
 rw [m1,m2,hc0,bound_of hv,n1,n3,hf,k1,k2,k3,d1,hss,hat,e1,e2,e3,e4,g1,g2,g3,g4]
 exact ⟨rfl,rfl,rfl,rfl,rfl⟩
theorem crack_oldS {vs rs ps:List AV} (h:Col vs rs ps) {v:Int} (hv : -1000≤v∧v≤1000) (hf:(findP ps v).isSome=true) :
  q111 vs rs ps v=true∧v111_0 vs rs ps v=vs∧v111_1 vs rs ps v=rs∧v111_2 vs rs ps v=ps∧v111_4 vs rs ps v=true:=by
 have hl:=h.n64
 have hlen:=h.len
 have hfew:=col_few h
 have hc0:=(isC_iff vs rs ps (by omega)).2 h
 obtain ⟨m1,m2⟩:=P71 vs rs ps (by omega) (by omega) (by omega)
 obtain ⟨n1,n2,n3⟩:=P21 vs rs ps v (by omega)
 obtain ⟨c0,c1,c2,c3⟩:=P138 vs rs ps (by omega) (by omega) (by omega)
 unfold q111 v111_0 v111_1 v111_2 v111_4
 rw [m1,m2,hc0,bound_of hv,n1,n3,hf,c0,c1,c2,c3]
 exact ⟨rfl,rfl,rfl,rfl,rfl⟩
end Go.Proofs.YtealoedecngaoaaGreatDoor

namespace Go.Proofs.YtealoedecngaoaaGreatDoor
open Go Go.Proofs.VE
set_option linter.unusedVariables false
set_option linter.unusedSimpArgs false
def dI (i:Int):AV := .int .i64 i
def E99 (xs vs:List AV) (i:Int):List AV→Int ⊕ (Int × List AV)
 | [] => .inl i
 | y :: ys => .inr (i,y :: ys)
def K99 (xs vs:List AV):List AV→Unit ⊕ List AV
 | [] => .inl ()
 | y :: ys => .inr (y :: ys)
theorem run99 (xs vs:List AV) (h:xs.length≤1048576):runW (R99_0 xs vs) (((xs.length:Int) - 0).toNat+1) (E99 xs vs 0 [])=some (K99 xs vs (appF allT dI xs.length 0 [])):=by
 refine runW_appK (E99 xs vs) (K99 xs vs) xs.length allT dI (fun i ys h0 hn hl=>?_) (fun ys=>?_)
 ·have d1:decide (i<(xs.length:Int))=true:=decide_eq_true hn
  have d2:decide (0≤i)=true:=decide_eq_true h0
  cases ys with
  | nil =>
   have c1:decide ((([dI i]:List AV).length)*8≤140737488355328)=true:=by simp
   have c2:decide ((([dI i]:List AV).length)≤140737488355328)=true:=by simp
   simp only [dI] at c1 c2
   simp only [E99,R99_0,sumE,F99_0_s0,G99_0_s0,d1,d2,c1,c2,Bool.and_self,cond_true,allT,List.nil_append]
   rw [wrap_in (a:=i+1) (by omega) (by omega)]
   try rfl
  | cons y ys =>
   have hl':(y :: ys).length≤1048576:=by omega
   have c1:decide (((y :: ys).length+[dI i].length)*8≤140737488355328)=true:=decide_eq_true (by simp only [List.length_singleton];omega)
   have c2:decide ((y :: ys).length+[dI i].length≤140737488355328)=true:=decide_eq_true (by simp only [List.length_singleton];omega)
   simp only [dI] at c1 c2
   simp only [E99,R99_0,sumE,F99_0_s1,G99_0_s1,d1,d2,c1,c2,Bool.and_self,cond_true,allT,List.cons_append]
   rw [wrap_in (a:=i+1) (by omega) (by omega)]
   try rfl
 ·cases ys <;> simp only [E99,K99,R99_0,sumE,F99_0_s0,G99_0_s0,F99_0_s1,G99_0_s1,Int.lt_irrefl,decide_false,cond_false]
theorem appF_all (c:Int→AV):∀ (m:Nat) (i:Int) (ys:List AV),appF allT c m i ys=ys++(List.range m).map fun j:Nat=>c (i+j)
 | 0,i,ys=>by simp [appF,foldF]
 | m+1,i,ys=>by
  have e:appF allT c (m+1) i ys=appF allT c m (i+1) (ys++[c i]):=rfl
  rw [e,appF_all c m,List.range_succ_eq_map,List.map_cons,List.map_map,List.append_assoc]
  congr 1
  simp only [Int.natCast_zero,Int.add_zero,List.singleton_append,List.cons.injEq,true_and]
  refine List.map_congr_left fun j _=>?_
  simp only [Function.comp]
  congr 1
  omega
def rows (xs:List AV):List AV:=appF allT dI xs.length 0 []
theorem rows_len (xs:List AV):(rows xs).length=xs.length:=by
 unfold rows
 rw [appF_all]
 simp
theorem P99 (xs:List AV) (h:xs.length≤1048576):q99 xs=true∧v99_0 xs=(bif v100_0 xs then xs else [])∧v99_1 xs=(bif v100_0 xs then rows xs else [])∧v99_2 xs=[]:=by
 unfold q99 v99_0 v99_1 v99_2
 have hr:=run99 xs ([]++xs) h
 have c1:decide ((([]:List AV).length+xs.length)*8≤140737488355328)=true:=decide_eq_true (by simp;omega)
 have c2:decide (([]:List AV).length+xs.length≤140737488355328)=true:=decide_eq_true (by simp;omega)
 rw [(P100 xs h).1,show (.inl 0:Int ⊕ (Int × List AV))=E99 xs ([]++xs) 0 [] from rfl,hr,c1,c2]
 change _∧_∧_=(bif v100_0 xs then (appF allT dI xs.length 0 []) else [])∧_
 generalize appF allT dI xs.length 0 []=ys
 cases v100_0 xs
 ·exact ⟨rfl,rfl,rfl,rfl⟩
 ·cases ys <;> exact ⟨rfl,rfl,rfl,rfl⟩
theorem N2_nil:N2 []:=fun x hx=>by simp at hx
theorem P147 (xs:List AV) (h:xs.length≤1048576):q147 xs=true∧v147_0 xs=(noneB (fun i => !v72_0 (fI (xs.getD i.toNat .undef) 0) (-1000) 1000) xs.length && decide (xs.length≤60)):=by
 have hr:runW (R147_0 xs) (((xs.length:Int) - 0).toNat+1) 0=some (ro (findF (fun i => !v72_0 (fI (xs.getD i.toNat .undef) 0) (-1000) 1000) xs.length 0) (.inl ()) fun _ => .inr ()):=by
  refine runW_find (fun i=>i) xs.length _ _ _ (fun i h0 hn=>?_) ?_ xs.length _ 0 (Int.le_refl 0) (by omega) (by omega)
  ·simp only [R147_0,F147_0,G147_0,h0,hn,decide_true,Bool.and_self,cond_true]
   rw [wrap_in (a:=i+1) (by omega) (by omega)]
  ·simp only [R147_0,F147_0,G147_0,Int.lt_irrefl,decide_false,cond_false]
 unfold q147 v147_0 noneB
 rw [hr]
 cases findF (fun i => !v72_0 (fI (xs.getD i.toNat .undef) 0) (-1000) 1000) xs.length 0 with
 | none=>refine ⟨rfl,?_⟩;simp only [ro,sumE,Option.isNone_none,Bool.true_and];congr 1;simp only [eq_iff_iff];omega
 | some j=>exact ⟨rfl,rfl⟩
theorem P142 (xs:List AV) (h:xs.length≤1048576):q142 xs=true∧v142_0 xs=v147_0 xs:=by
 rw [(P147 xs h).2]
 unfold q142 v142_0 noneB
 rw [(P106 xs _ _ h).1,(P106 xs _ _ h).2]
 have e60:decide ((xs.length:Int)≤60)=decide (xs.length≤60):=by congr 1;simp only [eq_iff_iff];omega
 rw [e60]
 cases decide (xs.length≤60) <;> simp
end Go.Proofs.YtealoedecngaoaaGreatDoor

namespace Go.Proofs.YtealoedecngaoaaGreatDoor
open Go Go.Proofs.VE
set_option linter.unusedVariables false
set_option linter.unusedSimpArgs false
def few20 (ws:List AV):Prop:=∀ i:Int,0≤i→i<ws.length→(fL (ws.getD i.toNat .undef) 0).length≤1048576
theorem band (a b:Bool):(bif a then b else false)=(a && b):=by cases a <;> rfl
end Go.Proofs.YtealoedecngaoaaGreatDoor

namespace Go.Proofs.YtealoedecngaoaaGreatDoor
open Go Go.Proofs.VE
set_option linter.unusedVariables false
set_option linter.unusedSimpArgs false
theorem q164_true (n:Nat) (ps:List AV) (v:Int) (hl:ps.length≤1048576):q164 n ps v=true:=by
 obtain ⟨r,h1,_⟩:=runW_ends (f:=R164_0 ps v (n:Int)) (fun s:Int × Int=>0≤s.2∧s.2≤ps.length) (fun _=>True) (fun s=>((ps.length:Int) - s.2).toNat) (fun s hs=>by
   obtain ⟨t8,k⟩:=s
   obtain ⟨k0,k1⟩:=hs
   simp only at k0 k1
   by_cases hk:k<ps.length
   ·have d1:decide (k<(ps.length:Int))=true:=decide_eq_true hk
    have d2:decide (0≤k)=true:=decide_eq_true k0
    have wk:IntKind.i64.wrap (k+1)=k+1:=wrap_in (by omega) (by omega)
    by_cases hv:fI (ps.getD k.toNat .undef) 0≤v
    ·exact .inl ⟨(fI (ps.getD k.toNat .undef) 1,k+1),by simp only [R164_0,F164_0,G164_0,d1,d2,decide_eq_true hv,Bool.and_self,cond_true,wk],⟨by simp only;omega,by simp only;omega⟩,by simp only;omega⟩
    ·exact .inl ⟨(t8,k+1),by simp only [R164_0,F164_0,G164_0,d1,d2,decide_eq_false hv,Bool.and_self,cond_true,cond_false,wk],⟨by simp only;omega,by simp only;omega⟩,by simp only;omega⟩
   ·exact .inr ⟨t8,by simp only [R164_0,F164_0,G164_0,decide_eq_false hk,cond_false],trivial⟩) (((ps.length:Int) - 0).toNat+1) (0,0) ⟨Int.le_refl _,by simp only;omega⟩ (by simp only;omega)
 have hw:IntKind.i64.wrap ((ps.length:Int) - 1)=ps.length - 1:=wrap_in (by omega) (by omega)
 obtain ⟨r',h2,_⟩:=runW_ends (f:=R164_2 ps v r) (fun s:Int × Int => -1≤s.2∧s.2<ps.length) (fun _=>True) (fun s=>(s.2+1).toNat) (fun s hs=>by
   obtain ⟨t9,k⟩:=s
   obtain ⟨k0,k1⟩:=hs
   simp only at k0 k1
   by_cases hk:k ≥ 0
   ·have d1:decide (k ≥ 0)=true:=decide_eq_true hk
    have d0:decide (0≤k)=true:=decide_eq_true hk
    have d2:decide (k<(ps.length:Int))=true:=decide_eq_true k1
    have wk:IntKind.i64.wrap (k - 1)=k - 1:=wrap_in (by omega) (by omega)
    by_cases hv:fI (ps.getD k.toNat .undef) 0 ≥ v
    ·exact .inl ⟨(fI (ps.getD k.toNat .undef) 1,k - 1),by simp only [R164_2,F164_2,G164_2,d0,d1,d2,decide_eq_true hv,Bool.and_self,cond_true,wk],⟨by simp only;omega,by simp only;omega⟩,by simp only;omega⟩
    ·exact .inl ⟨(t9,k - 1),by simp only [R164_2,F164_2,G164_2,d0,d1,d2,decide_eq_false hv,Bool.and_self,cond_true,cond_false,wk],⟨by simp only;omega,by simp only;omega⟩,by simp only;omega⟩
   ·exact .inr ⟨t9,by simp only [R164_2,F164_2,G164_2,decide_eq_false hk,cond_false],trivial⟩) (((ps.length:Int) - 1 - 0+1).toNat+1) ((n:Int),(ps.length:Int) - 1) ⟨by simp only;omega,by simp only;omega⟩ (by simp only;omega)
 unfold q164
 rw [h1,hw]
 simp only [ro]
 rw [h2]
def pA (ps:List AV) (v:Int):Int:=if place ps v=0 then 0 else pat ps (place ps v - 1)
def pB (vs ps:List AV) (v:Int):Int:=if place ps v=ps.length then (vs.length:Int) else pat ps (place ps v)
theorem P101b {vs rs ps:List AV} (hc:Col vs rs ps) (hp:ps.length≤1048576) {v:Int} (h0 : -1000≤v) (h1:v≤1000) :
  q101 vs rs ps v=true∧((findP ps v).isSome=false→v101_0 vs rs ps v=pA ps v∧v101_1 vs rs ps v=pB vs ps v):=by
 have n64:=hc.n64
 have hlen:=hc.len
 have e:=P71 vs rs ps (by omega) (by omega) hp
 rw [(isC_iff vs rs ps (by omega)).2 hc] at e
 have hb:v72_0 v (-1000) 1000=true:=by rw [v72,decide_eq_true h0,decide_eq_true h1];rfl
 unfold q101 v101_0 v101_1
 rw [e.1,e.2,hb]
 refine ⟨?_,fun hf=>?_⟩
 ·rw [q164_true vs.length ps v hp];rfl
 ·have hpc:=pc_of hc hf
  obtain ⟨_,k1,k2⟩:=P164 hpc hp
  exact ⟨k1,k2⟩
def okP (vs:List AV) (v i j k:Int):Bool:=(decide (k<i) && decide (fI (vs.getD k.toNat .undef) 0 ≥ v)) || (decide (k > j) && decide (fI (vs.getD k.toNat .undef) 0<v))
def okLoop (vs:List AV) (v a b i j:Int):Bool:=(findF (okP vs v i j) (b - a).toNat a).isNone
theorem run73 (vs rs ps ws T:List AV) (s v nx fr to i j sw wt a b:Int) (rn:Bool) (h:vs.length≤1048576) (a0:0≤a) (ab:a≤b) (b1:b≤vs.length) :
  runW (R73_0 v b vs rs ps ws s T nx rn fr to i j sw wt) ((b - a).toNat+1) a=some (ro (findF (okP vs v i j) (b - a).toNat a) (.inl ()) fun _ => .inr ()):=by
 refine runW_find (fun i=>i) b _ _ _ (fun k h0 hn=>?_) ?_ (b - a).toNat _ a a0 (by omega) (by omega)
 ·have d1:decide (k<b)=true:=decide_eq_true hn
  have d2:decide (0≤k)=true:=decide_eq_true h0
  have d3:decide (k<(vs.length:Int))=true:=decide_eq_true (by omega)
  simp only [R73_0,F73_0,G73_0,d1,d2,d3,Bool.and_self,cond_true,okP]
  rw [wrap_in (a:=k+1) (by omega) (by omega)]
  cases decide (k<i) <;> cases decide (fI (vs.getD k.toNat AV.undef) 0 ≥ v) <;> cases decide (k > j) <;> cases decide (fI (vs.getD k.toNat AV.undef) 0<v) <;> rfl
 ·simp only [R73_0,F73_0,G73_0,Int.lt_irrefl,decide_false,cond_false]
theorem run69 (vs rs ps T:List AV) (v nx fr to i j sw wt a b:Int) (rn:Bool) (h:vs.length≤1048576) (a0:0≤a) (ab:a≤b) (b1:b≤vs.length) :
  runW (R69_0 v b vs rs ps T nx rn fr to i j sw wt) ((b - a).toNat+1) a=some (ro (findF (okP vs v i j) (b - a).toNat a) (.inl ()) fun _ => .inr ()):=by
 refine runW_find (fun i=>i) b _ _ _ (fun k h0 hn=>?_) ?_ (b - a).toNat _ a a0 (by omega) (by omega)
 ·have d1:decide (k<b)=true:=decide_eq_true hn
  have d2:decide (0≤k)=true:=decide_eq_true h0
  have d3:decide (k<(vs.length:Int))=true:=decide_eq_true (by omega)
  simp only [R69_0,F69_0,G69_0,d1,d2,d3,Bool.and_self,cond_true,okP]
  rw [wrap_in (a:=k+1) (by omega) (by omega)]
  cases decide (k<i) <;> cases decide (fI (vs.getD k.toNat AV.undef) 0 ≥ v) <;> cases decide (k > j) <;> cases decide (fI (vs.getD k.toNat AV.undef) 0<v) <;> rfl
 ·simp only [R69_0,F69_0,G69_0,Int.lt_irrefl,decide_false,cond_false]
def runB (vs ps:List AV) (v fr to i j:Int):Bool :=
 !(findP ps v).isSome && (decide (fr=pA ps v) && (decide (to=pB vs ps v) && (decide (pA ps v≤i) && (decide (i≤j+1) && (decide (j<pB vs ps v) && okLoop vs v (pA ps v) (pB vs ps v) i j)))))
def wkB (vs ps T:List AV) (nx:Int) (rn:Bool) (fr to i j sw wt:Int):Bool :=
 noneB (fun k => !v72_0 (fI (T.getD k.toNat .undef) 0) (-1000) 1000) T.length && (decide ((T.length:Int)≤6) && (decide (0≤nx) && (decide (nx≤T.length) && (decide (0≤sw) && (decide (sw≤100000) && (decide (0≤wt) && (decide (wt≤100000) &&
  (bif rn then !decide (nx=T.length) && runB vs ps (fI (T.getD nx.toNat .undef) 0) fr to i j else decide (fr=0) && (decide (to=0) && (decide (i=0) && decide (j=0)))))))))))
theorem deq (a b:Int):decide (a=b)=decide (b=a):=by
 by_cases h:a=b
 ·rw [decide_eq_true h,decide_eq_true h.symm]
 ·rw [decide_eq_false h,decide_eq_false fun e=>h e.symm]
theorem tail68 {vs rs ps:List AV} (hc:Col vs rs ps) (hp:ps.length≤1048576) (ws T:List AV) (s:Int) (nx fr to i j sw wt v:Int) (rn:Bool) (v0 : -1000≤v) (v1:v≤1000) (j0 : -9223372036854775808≤j) :
  (q101 vs rs ps v && (q21 vs rs ps v && (bif (v21_1 vs rs ps v) then true else (bif !decide ((v101_0 vs rs ps v)=fr) then true else (bif !decide ((v101_1 vs rs ps v)=to) then true else (bif !(v72_0 i (v101_0 vs rs ps v) (IntKind.i64.wrap (j+1))) then true else (bif decide (j ≥ (v101_1 vs rs ps v)) then true else (ro (runW (R73_0 v (v101_1 vs rs ps v) vs rs ps ws s T nx rn fr to i j sw wt) (((v101_1 vs rs ps v) - (v101_0 vs rs ps v)).toNat+1) (v101_0 vs rs ps v)) false (sumE (fun _=>true) (fun _=>true))))))))))=true ∧
  (bif (v21_1 vs rs ps v) then false else (bif !decide ((v101_0 vs rs ps v)=fr) then false else (bif !decide ((v101_1 vs rs ps v)=to) then false else (bif !(v72_0 i (v101_0 vs rs ps v) (IntKind.i64.wrap (j+1))) then false else (bif decide (j ≥ (v101_1 vs rs ps v)) then false else (ro (runW (R73_0 v (v101_1 vs rs ps v) vs rs ps ws s T nx rn fr to i j sw wt) (((v101_1 vs rs ps v) - (v101_0 vs rs ps v)).toNat+1) (v101_0 vs rs ps v)) false (sumE (fun _=>true) (fun _=>false))))))))=runB vs ps v fr to i j:=by
 have n64:=hc.n64
 obtain ⟨a1,_,a3⟩:=P21 vs rs ps v hp
 obtain ⟨b1,b2⟩:=P101b hc hp v0 v1
 unfold runB
 rw [a1,a3,b1]
 cases hf:(findP ps v).isSome with
 | true=>exact ⟨rfl,rfl⟩
 | false =>
  obtain ⟨b3,b4⟩:=b2 hf
  have pc:=piece_of hc (pc_of hc hf)
  have q0:=pc.a0
  have q1:=pc.ab
  have q2:=pc.b1
  change 0≤pA ps v at q0
  change pA ps v≤pB vs ps v at q1
  change pB vs ps v≤vs.length at q2
  rw [b3,b4,run73 vs rs ps ws T s v nx fr to i j sw wt _ _ rn (by omega) q0 q1 q2,v72,deq (pA ps v) fr,deq (pB vs ps v) to]
  by_cases hj:j<pB vs ps v
  ·rw [wrap_in (a:=j+1) (by omega) (by omega),decide_eq_true hj,decide_eq_false (by omega:¬ j ≥ pB vs ps v)]
   unfold okLoop
   cases decide (fr=pA ps v) <;> cases decide (to=pB vs ps v) <;> cases decide (pA ps v≤i) <;> cases decide (i≤j+1) <;> cases findF (okP vs v i j) (pB vs ps v - pA ps v).toNat (pA ps v) <;> exact ⟨rfl,rfl⟩
  ·rw [decide_eq_false hj,decide_eq_true (by omega:j ≥ pB vs ps v)]
   cases decide (fr=pA ps v) <;> cases decide (to=pB vs ps v) <;> cases decide (pA ps v≤i) <;> cases decide (i≤j+1) <;> cases decide (i≤IntKind.i64.wrap (j+1)) <;> exact ⟨rfl,rfl⟩
theorem tail71 {vs rs ps:List AV} (hc:Col vs rs ps) (hp:ps.length≤1048576) (T:List AV) (nx fr to i j sw wt v:Int) (rn d:Bool) (hd:d=true) (v0 : -1000≤v) (v1:v≤1000) (i1:i≤9223372036854775807) :
  (q143 vs rs ps v && (bif (v143_0 vs rs ps v) then true else (d && (q144 vs rs ps v && (bif !decide (fr=(v144_0 vs rs ps v)) then true else (bif !decide (to=(v144_1 vs rs ps v)) then true else (bif decide (i<(v144_0 vs rs ps v)) then true else (bif decide (j ≥ (v144_1 vs rs ps v)) then true else (bif decide (IntKind.i64.wrap (i - 1) > j) then true else (ro (runW (R69_0 v (v144_1 vs rs ps v) vs rs ps T nx rn fr to i j sw wt) (((v144_1 vs rs ps v) - (v144_0 vs rs ps v)).toNat+1) (v144_0 vs rs ps v)) false (sumE (fun _=>true) (fun _=>true))))))))))))=true ∧
  (bif (v143_0 vs rs ps v) then false else (bif !decide (fr=(v144_0 vs rs ps v)) then false else (bif !decide (to=(v144_1 vs rs ps v)) then false else (bif decide (i<(v144_0 vs rs ps v)) then false else (bif decide (j ≥ (v144_1 vs rs ps v)) then false else (bif decide (IntKind.i64.wrap (i - 1) > j) then false else (ro (runW (R69_0 v (v144_1 vs rs ps v) vs rs ps T nx rn fr to i j sw wt) (((v144_1 vs rs ps v) - (v144_0 vs rs ps v)).toNat+1) (v144_0 vs rs ps v)) false (sumE (fun _=>true) (fun _=>false)))))))))=runB vs ps v fr to i j:=by
 subst hd
 have n64:=hc.n64
 obtain ⟨a1,a3⟩:=P143 vs rs ps v hp
 unfold runB
 rw [a1,a3]
 cases hf:(findP ps v).isSome with
 | true=>exact ⟨rfl,rfl⟩
 | false =>
  have hpc:=pc_of hc hf
  obtain ⟨b1,b3,b4⟩:=P144 hpc hp
  change v144_0 vs rs ps v=pA ps v at b3
  change v144_1 vs rs ps v=pB vs ps v at b4
  have pc:=piece_of hc hpc
  have q0:=pc.a0
  have q1:=pc.ab
  have q2:=pc.b1
  change 0≤pA ps v at q0
  change pA ps v≤pB vs ps v at q1
  change pB vs ps v≤vs.length at q2
  rw [b1,b3,b4,run69 vs rs ps T v nx fr to i j sw wt _ _ rn (by omega) q0 q1 q2,dlt i (pA ps v),show decide (j ≥ pB vs ps v) = !decide (j<pB vs ps v) by rw [dlt,Bool.not_not]]
  by_cases hi:pA ps v≤i
  ·rw [wrap_in (a:=i - 1) (by omega) (by omega),decide_eq_true hi]
   have e:decide (i - 1 > j) = !decide (i≤j+1):=by
    by_cases h:i≤j+1
    ·rw [decide_eq_true h,decide_eq_false (by omega)];rfl
    ·rw [decide_eq_false h,decide_eq_true (by omega)];rfl
   rw [e]
   unfold okLoop
   cases decide (fr=pA ps v) <;> cases decide (to=pB vs ps v) <;> cases decide (j<pB vs ps v) <;> cases decide (i≤j+1) <;> cases findF (okP vs v i j) (pB vs ps v - pA ps v).toNat (pA ps v) <;> exact ⟨rfl,rfl⟩
  ·rw [decide_eq_false hi]
   cases decide (fr=pA ps v) <;> cases decide (to=pB vs ps v) <;> exact ⟨rfl,rfl⟩
theorem P73 {vs rs ps:List AV} (hc:Col vs rs ps) (hp:ps.length≤1048576) (ws T:List AV) (s nx fr to i j sw wt:Int) (rn:Bool) (hT:T.length≤1048576) (j0 : -9223372036854775808≤j) :
  q73 vs rs ps ws s T nx rn fr to i j sw wt=true∧v73_0 vs rs ps ws s T nx rn fr to i j sw wt=wkB vs ps T nx rn fr to i j sw wt:=by
 unfold q73 v73_0 wkB
 rw [(P147 T hT).1,(P147 T hT).2,v72 nx 0 T.length,v72 sw 0 100000,v72 wt 0 100000]
 cases hN:noneB (fun k => !v72_0 (fI (T.getD k.toNat .undef) 0) (-1000) 1000) T.length with
 | false=>exact ⟨rfl,rfl⟩
 | true =>
 by_cases h6:(T.length:Int)≤6
 ·rw [decide_eq_true (by omega:T.length≤60),decide_eq_false (by omega:¬ (T.length:Int) > 6),decide_eq_true h6]
  cases c1:decide (0≤nx) with
  | false=>exact ⟨rfl,rfl⟩
  | true =>
  cases c2:decide (nx≤(T.length:Int)) with
  | false=>exact ⟨rfl,rfl⟩
  | true =>
  cases c3:decide (0≤sw) with
  | false=>exact ⟨rfl,rfl⟩
  | true =>
  cases c4:decide (sw≤100000) with
  | false=>exact ⟨rfl,rfl⟩
  | true =>
  cases c5:decide (0≤wt) with
  | false=>exact ⟨rfl,rfl⟩
  | true =>
  cases c6:decide (wt≤100000) with
  | false=>exact ⟨rfl,rfl⟩
  | true =>
  cases rn with
  | false =>
   simp only [band]
   exact ⟨rfl,rfl⟩
  | true =>
   have n0:=of_decide_eq_true c1
   have n1:=of_decide_eq_true c2
   by_cases hn:nx=T.length
   ·rw [decide_eq_true hn];exact ⟨rfl,rfl⟩
   ·have hv:=(noneB_iff.1 hN) nx n0 (by omega)
    rw [Bool.not_eq_false',v72,Bool.and_eq_true,decide_eq_true_eq,decide_eq_true_eq] at hv
    obtain ⟨k1,k2⟩:=tail68 hc hp ws T s nx fr to i j sw wt (fI (T.getD nx.toNat .undef) 0) true hv.1 hv.2 j0
    rw [decide_eq_false hn,decide_eq_true (by omega:nx<(T.length:Int)),k1,k2]
    exact ⟨rfl,rfl⟩
 ·rw [decide_eq_false h6,decide_eq_true (by omega:(T.length:Int) > 6)]
  cases decide (T.length≤60) <;> exact ⟨rfl,rfl⟩
theorem P69w {vs rs ps:List AV} (hc:Col vs rs ps) (hp:ps.length≤1048576) (T:List AV) (nx fr to i j sw wt:Int) (rn:Bool) (hT:T.length≤1048576) (i1:i≤9223372036854775807) :
  q69 vs rs ps T nx rn fr to i j sw wt=true∧v69_0 vs rs ps T nx rn fr to i j sw wt=wkB vs ps T nx rn fr to i j sw wt:=by
 unfold q69 v69_0 wkB
 rw [(P142 T hT).1,(P142 T hT).2,(P147 T hT).2,dlt nx 0,dgt nx,dlt sw 0,dgt sw,dlt wt 0,dgt wt]
 by_cases h6:(T.length:Int)≤6
 ·rw [decide_eq_true (by omega:T.length≤60),decide_eq_false (by omega:¬ (T.length:Int) > 6),decide_eq_true h6]
  cases hN:noneB (fun k => !v72_0 (fI (T.getD k.toNat .undef) 0) (-1000) 1000) T.length with
  | false=>exact ⟨rfl,rfl⟩
  | true =>
  cases c1:decide (0≤nx) with
  | false=>exact ⟨rfl,rfl⟩
  | true =>
  cases c2:decide (nx≤(T.length:Int)) with
  | false=>exact ⟨rfl,rfl⟩
  | true =>
  cases c3:decide (0≤sw) with
  | false=>exact ⟨rfl,rfl⟩
  | true =>
  cases c4:decide (sw≤100000) with
  | false=>exact ⟨rfl,rfl⟩
  | true =>
  cases c5:decide (0≤wt) with
  | false=>exact ⟨rfl,rfl⟩
  | true =>
  cases c6:decide (wt≤100000) with
  | false=>exact ⟨rfl,rfl⟩
  | true =>
  cases rn with
  | false =>
   simp only [band]
   exact ⟨rfl,rfl⟩
  | true =>
   have n0:=of_decide_eq_true c1
   have n1:=of_decide_eq_true c2
   by_cases hn:nx=T.length
   ·rw [decide_eq_true hn];exact ⟨rfl,rfl⟩
   ·have hv:=(noneB_iff.1 hN) nx n0 (by omega)
    rw [Bool.not_eq_false',v72,Bool.and_eq_true,decide_eq_true_eq,decide_eq_true_eq] at hv
    obtain ⟨k1,k2⟩:=tail71 hc hp T nx fr to i j sw wt (fI (T.getD nx.toNat .undef) 0) true (true && true) rfl hv.1 hv.2 i1
    rw [decide_eq_false hn,decide_eq_true (by omega:nx<(T.length:Int)),k1,k2]
    exact ⟨rfl,rfl⟩
 ·rw [decide_eq_false h6,decide_eq_true (by omega:(T.length:Int) > 6)]
  cases noneB (fun k => !v72_0 (fI (T.getD k.toNat .undef) 0) (-1000) 1000) T.length <;> exact ⟨rfl,rfl⟩
end Go.Proofs.YtealoedecngaoaaGreatDoor

namespace Go.Proofs.YtealoedecngaoaaGreatDoor
open Go Go.Proofs.VE
set_option linter.unusedVariables false
set_option linter.unusedSimpArgs false
def okI (ws:List AV):Prop:=∀ i:Int,0≤i→i<ws.length→fI (ws.getD i.toNat .undef) 5≤9223372036854775807 ∧ -9223372036854775808≤fI (ws.getD i.toNat .undef) 6
def wkAt (vs ps ws:List AV) (k:Int):Bool:=wkB vs ps (fL (ws.getD k.toNat .undef) 0) (fI (ws.getD k.toNat .undef) 1) (fB (ws.getD k.toNat .undef) 2) (fI (ws.getD k.toNat .undef) 3) (fI (ws.getD k.toNat .undef) 4) (fI (ws.getD k.toNat .undef) 5) (fI (ws.getD k.toNat .undef) 6) (fI (ws.getD k.toNat .undef) 7) (fI (ws.getD k.toNat .undef) 8)
def ovS (ws:List AV) (fr to m:Int):Bool:=v74_0 (fL (ws.getD m.toNat .undef) 0) (fI (ws.getD m.toNat .undef) 1) (fB (ws.getD m.toNat .undef) 2) (fI (ws.getD m.toNat .undef) 3) (fI (ws.getD m.toNat .undef) 4) (fI (ws.getD m.toNat .undef) 5) (fI (ws.getD m.toNat .undef) 6) (fI (ws.getD m.toNat .undef) 7) (fI (ws.getD m.toNat .undef) 8) fr to
def ovI (ws:List AV) (fr to m:Int):Bool:=fB (ws.getD m.toNat .undef) 2 && v70_0 fr to (fI (ws.getD m.toNat .undef) 3) (fI (ws.getD m.toNat .undef) 4)
theorem in19 (vs rs ps ws T:List AV) (s nx fr to i j sw wt k:Int) (rn:Bool) (h:ws.length≤1048576) (k0:0≤k) (k1:k≤ws.length) :
  runW (R13_2 k vs rs ps ws s T nx rn fr to i j sw wt) ((k - 0).toNat+1) 0=some (bif rn && !noneB (ovS ws fr to) k.toNat then .inr () else .inl ()):=by
 cases rn with
 | false =>
  show (R13_2 k vs rs ps ws s T nx false fr to i j sw wt 0).el none _ some=_
  by_cases hk:0<k
  ·simp only [R13_2,F13_2,G13_2,decide_eq_true hk,cond_true,cond_false,Bool.false_and]
   rfl
  ·simp only [R13_2,F13_2,G13_2,decide_eq_false hk,cond_false,Bool.false_and]
   rfl
 | true =>
  have hr:runW (R13_2 k vs rs ps ws s T nx true fr to i j sw wt) ((k - 0).toNat+1) 0=some (ro (findF (ovS ws fr to) k.toNat 0) (.inl ()) fun _ => .inr ()):=by
   refine runW_find (fun i=>i) k _ _ _ (fun m h0 hn=>?_) ?_ k.toNat _ 0 (Int.le_refl 0) (by omega) (by omega)
   ·have d1:decide (m<k)=true:=decide_eq_true hn
    have d2:decide (0≤m)=true:=decide_eq_true h0
    have d3:decide (m<(ws.length:Int))=true:=decide_eq_true (by omega)
    simp only [R13_2,F13_2,G13_2,d1,d2,d3,Bool.and_self,cond_true,ovS]
    rw [wrap_in (a:=m+1) (by omega) (by omega)]
   ·simp only [R13_2,F13_2,G13_2,Int.lt_irrefl,decide_false,cond_false]
  rw [hr]
  unfold noneB
  cases findF (ovS ws fr to) k.toNat 0 <;> rfl
def pay9 (x:AV):(List AV) × Int × Bool × Int × Int × Int × Int × Int × Int:=(fL x 0,fI x 1,fB x 2,fI x 3,fI x 4,fI x 5,fI x 6,fI x 7,fI x 8)
theorem in20 (vs rs ps ws T:List AV) (s nx fr to i j sw wt k n:Int) (rn:Bool) (h:ws.length≤1048576) (k0:0≤k) (k1:k≤ws.length) :
  ∃ r,runW (R12_2 ws n k ((ws.take (Int.toNat k)).drop (Int.toNat 0)) (((ws.take (Int.toNat k)).drop (Int.toNat 0)).length:Int) vs rs ps ws s T nx rn fr to i j sw wt) (((((ws.take (Int.toNat k)).drop (Int.toNat 0)).length:Int) - 0).toNat+1) 0=some r ∧
   (match r with | .inl _=>(rn && !noneB (ovI ws fr to) k.toNat)=false | .inr _=>(rn && !noneB (ovI ws fr to) k.toNat)=true):=by
 have hl:((ws.take (Int.toNat k)).drop (Int.toNat 0)).length=k.toNat:=by rw [List.length_drop,List.length_take];simp only [Int.toNat_zero];omega
 have hg:∀ m:Int,0≤m→m<k→((ws.take (Int.toNat k)).drop (Int.toNat 0)).getD m.toNat .undef=ws.getD m.toNat .undef:=fun m m0 m1=>by
  simp only [Int.toNat_zero,List.drop_zero,List.getD_eq_getElem?_getD]
  rw [List.getElem?_take_of_lt (by omega)]
 generalize (ws.take (Int.toNat k)).drop (Int.toNat 0)=xs at hl hg
 have hr:runW (R12_2 ws n k xs (xs.length:Int) vs rs ps ws s T nx rn fr to i j sw wt) (((xs.length:Int) - 0).toNat+1) 0=some (ro (findF (fun m=>rn && ovI xs fr to m) xs.length 0) (.inl ()) fun m => .inr (pay9 (xs.getD m.toNat .undef))):=by
  refine runW_find (fun i=>i) xs.length _ _ _ (fun m h0 hn=>?_) ?_ xs.length _ 0 (Int.le_refl 0) (by omega) (by omega)
  ·have d1:decide (m<(xs.length:Int))=true:=decide_eq_true hn
   have d2:decide (0≤m)=true:=decide_eq_true h0
   simp only [R12_2,F12_2,G12_2,d1,d2,Bool.and_self,cond_true,ovI]
   rw [wrap_in (a:=m+1) (by omega) (by omega)]
   cases rn with
   | false=>rfl
   | true =>
    cases hB:fB (xs.getD m.toNat .undef) 2 with
    | false=>rfl
    | true=>unfold pay9;rw [hB];rfl
  ·simp only [R12_2,F12_2,G12_2,Int.lt_irrefl,decide_false,cond_false]
 have hn:(findF (fun m=>rn && ovI xs fr to m) xs.length 0).isNone = !(rn && !noneB (ovI ws fr to) k.toNat):=by
  rw [Bool.eq_iff_iff]
  have e1:(findF (fun m=>rn && ovI xs fr to m) xs.length 0).isNone=noneB (fun m=>rn && ovI xs fr to m) xs.length:=rfl
  rw [e1,noneB_iff]
  cases rn with
  | false=>simp
  | true =>
   rw [Bool.true_and,Bool.not_not,noneB_iff]
   constructor
   ·intro hh m m0 m1
    have:=hh m m0 (by omega)
    simp only [Bool.true_and,ovI] at this ⊢
    rw [hg m m0 (by omega)] at this
    exact this
   ·intro hh m m0 m1
    have:=hh m m0 (by omega)
    simp only [Bool.true_and,ovI] at this ⊢
    rw [hg m m0 (by omega)]
    exact this
 refine ⟨_,hr,?_⟩
 cases hf:findF (fun m=>rn && ovI xs fr to m) xs.length 0 with
 | none =>
  rw [hf] at hn
  simp only [ro]
  cases hx:(rn && !noneB (ovI ws fr to) k.toNat) with
  | false=>rfl
  | true=>rw [hx] at hn;cases hn
 | some m =>
  rw [hf] at hn
  simp only [ro]
  cases hx:(rn && !noneB (ovI ws fr to) k.toNat) with
  | true=>rfl
  | false=>rw [hx] at hn;cases hn
def pS (vs ps ws:List AV) (k:Int):Bool := !wkAt vs ps ws k || (fB (ws.getD k.toNat .undef) 2 && !noneB (ovS ws (fI (ws.getD k.toNat .undef) 3) (fI (ws.getD k.toNat .undef) 4)) k.toNat)
def pI (vs ps ws:List AV) (k:Int):Bool := !wkAt vs ps ws k || (fB (ws.getD k.toNat .undef) 2 && !noneB (ovI ws (fI (ws.getD k.toNat .undef) 3) (fI (ws.getD k.toNat .undef) 4)) k.toNat)
def resB {R1 R2:Type} (r:R1 ⊕ R2) (b:Bool):Prop:=b=r.isLeft
theorem runW_none {R1 R2:Type} {f:Int→Out Int (R1 ⊕ R2)} (n:Nat) (p:Int→Bool) (h1:∀ k:Int,0≤k→k<n→p k=false→f k = .next (k+1)) (h2:∀ k:Int,0≤k→k<n→p k=true→∃ r,f k = .stop (.inr r)) (h3:∃ r,f n = .stop (.inl r)) :
  ∃ r,runW f (((n:Int) - 0).toNat+1) 0=some r∧resB r (noneB p n):=by
 refine runW_ends (f:=f) (fun k=>0≤k∧k≤n∧∀ m:Int,0≤m→m<k→p m=false) (fun r=>resB r (noneB p n)) (fun k=>((n:Int) - k).toNat) (fun k hk=>?_) _ 0 ⟨Int.le_refl 0,by omega,fun m m0 m1=>by omega⟩ (by omega)
 obtain ⟨k0,k1,hI⟩:=hk
 by_cases hn:k<n
 ·cases hp:p k with
  | false=>exact .inl ⟨k+1,h1 k k0 hn hp,⟨by omega,by omega,fun m m0 m1=>by
    by_cases e:m=k
    ·rw [e];exact hp
    ·exact hI m m0 (by omega)⟩,by omega⟩
  | true =>
   obtain ⟨r,hr⟩:=h2 k k0 hn hp
   refine .inr ⟨_,hr,?_⟩
   show noneB p n=false
   cases hx:noneB p n with
   | false=>rfl
   | true=>have:=noneB_iff.1 hx k k0 hn;rw [hp] at this;cases this
 ·obtain ⟨r,hr⟩:=h3
  have:k=n:=by omega
  subst this
  exact .inr ⟨_,hr,noneB_iff.2 hI⟩
def isBS (vs rs ps ws:List AV) (s:Int) (pp:Int→Bool):Bool:=isC vs rs ps && (decide (1≤(ws.length:Int)) && (decide ((ws.length:Int)≤3) && (decide (0≤s) && (decide (s≤100000) && noneB pp ws.length))))
theorem P13 (vs rs ps ws:List AV) (s:Int) (h1:vs.length≤1048576) (h2:rs.length≤1048576) (h3:ps.length≤1048576) (h4:ws.length≤1048576) (h5:few20 ws) (h6:okI ws) :
  q13 vs rs ps ws s=true∧v13_0 vs rs ps ws s=isBS vs rs ps ws s (pS vs ps ws):=by
 unfold q13 v13_0 isBS
 rw [(P71 vs rs ps h1 h2 h3).1,(P71 vs rs ps h1 h2 h3).2,v72,v72]
 cases hC:isC vs rs ps with
 | false=>exact ⟨rfl,rfl⟩
 | true =>
  have hc:=(isC_iff vs rs ps h1).1 hC
  have key:∃ r,runW (R13_0 vs rs ps ws s) (((ws.length:Int) - 0).toNat+1) 0=some r∧resB r (noneB (pS vs ps ws) ws.length):=by
   refine runW_none (f:=R13_0 vs rs ps ws s) ws.length (pS vs ps ws) (fun k k0 k1 hp=>?_) (fun k k0 k1 hp=>?_) ⟨(),by simp only [R13_0,F13_0,G13_0,Int.lt_irrefl,decide_false,cond_false]⟩
   ·have d1:decide (k<(ws.length:Int))=true:=decide_eq_true k1
    have d2:decide (0≤k)=true:=decide_eq_true k0
    obtain ⟨a1,a2⟩:=P73 hc h3 ws (fL (ws.getD k.toNat .undef) 0) s (fI (ws.getD k.toNat .undef) 1) (fI (ws.getD k.toNat .undef) 3) (fI (ws.getD k.toNat .undef) 4) (fI (ws.getD k.toNat .undef) 5) (fI (ws.getD k.toNat .undef) 6) (fI (ws.getD k.toNat .undef) 7) (fI (ws.getD k.toNat .undef) 8) (fB (ws.getD k.toNat .undef) 2) (h5 k k0 k1) (h6 k k0 k1).2
    unfold pS wkAt at hp
    rw [Bool.or_eq_false_iff,Bool.not_eq_false'] at hp
    rw [hp.1] at a2
    simp only [R13_0,F13_0,G13_0,d1,d2,Bool.and_self,cond_true,a1,a2,Bool.not_true,cond_false,in19 vs rs ps ws _ s _ _ _ _ _ _ _ k _ h4 k0 (by omega),hp.2,ro,sumE]
    rw [wrap_in (a:=k+1) (by omega) (by omega)]
   ·have d1:decide (k<(ws.length:Int))=true:=decide_eq_true k1
    have d2:decide (0≤k)=true:=decide_eq_true k0
    obtain ⟨a1,a2⟩:=P73 hc h3 ws (fL (ws.getD k.toNat .undef) 0) s (fI (ws.getD k.toNat .undef) 1) (fI (ws.getD k.toNat .undef) 3) (fI (ws.getD k.toNat .undef) 4) (fI (ws.getD k.toNat .undef) 5) (fI (ws.getD k.toNat .undef) 6) (fI (ws.getD k.toNat .undef) 7) (fI (ws.getD k.toNat .undef) 8) (fB (ws.getD k.toNat .undef) 2) (h5 k k0 k1) (h6 k k0 k1).2
    unfold pS at hp
    cases hw:wkAt vs ps ws k with
    | false =>
     unfold wkAt at hw
     rw [hw] at a2
     refine ⟨?w1,?h1⟩
     case h1 =>
      simp only [R13_0,F13_0,G13_0,d1,d2,Bool.and_self,cond_true,a1,a2,Bool.not_false]
      rfl
    | true =>
     rw [hw,Bool.not_true,Bool.false_or] at hp
     unfold wkAt at hw
     rw [hw] at a2
     refine ⟨?w2,?h2⟩
     case h2 =>
      simp only [R13_0,F13_0,G13_0,d1,d2,Bool.and_self,cond_true,a1,a2,Bool.not_true,cond_false,in19 vs rs ps ws _ s _ _ _ _ _ _ _ k _ h4 k0 (by omega),hp,ro,sumE]
      rfl
  obtain ⟨r,hr,hp⟩:=key
  rw [hr]
  cases r with
  | inl _ =>
   rw [show noneB (pS vs ps ws) ws.length=true from hp]
   cases decide (1≤(ws.length:Int)) <;> cases decide ((ws.length:Int)≤3) <;> cases decide (0≤s) <;> cases decide (s≤100000) <;> exact ⟨rfl,rfl⟩
  | inr r =>
   rw [show noneB (pS vs ps ws) ws.length=false from hp]
   cases r <;> cases decide (1≤(ws.length:Int)) <;> cases decide ((ws.length:Int)≤3) <;> cases decide (0≤s) <;> cases decide (s≤100000) <;> exact ⟨rfl,rfl⟩
theorem P12 (vs rs ps ws:List AV) (s:Int) (h1:vs.length≤1048576) (h2:rs.length≤1048576) (h3:ps.length≤1048576) (h4:ws.length≤1048576) (h5:few20 ws) (h6:okI ws) :
  q12 vs rs ps ws s=true∧v12_0 vs rs ps ws s=isBS vs rs ps ws s (pI vs ps ws):=by
 unfold q12 v12_0 isBS
 rw [(P39 vs rs ps h1 h2 h3).1,(P39 vs rs ps h1 h2 h3).2,dlt,dgt,dlt,dgt]
 cases hC:isC vs rs ps with
 | false=>exact ⟨rfl,rfl⟩
 | true =>
  have hc:=(isC_iff vs rs ps h1).1 hC
  have key:∃ r,runW (R12_0 ws ws.length vs rs ps ws s) (((ws.length:Int) - 0).toNat+1) 0=some r∧resB r (noneB (pI vs ps ws) ws.length):=by
   refine runW_none (f:=R12_0 ws ws.length vs rs ps ws s) ws.length (pI vs ps ws) (fun k k0 k1 hp=>?_) (fun k k0 k1 hp=>?_) ⟨(),by simp only [R12_0,F12_0,G12_0,Int.lt_irrefl,decide_false,cond_false]⟩
   ·have d1:decide (k<(ws.length:Int))=true:=decide_eq_true k1
    have d2:decide (0≤k)=true:=decide_eq_true k0
    have d3:decide (k≤(ws.length:Int))=true:=decide_eq_true (by omega)
    have d4:decide ((0:Int)≤0)=true:=rfl
    have d5:decide ((0:Nat)≤0)=true:=rfl
    obtain ⟨a1,a2⟩:=P69w hc h3 (fL (ws.getD k.toNat .undef) 0) (fI (ws.getD k.toNat .undef) 1) (fI (ws.getD k.toNat .undef) 3) (fI (ws.getD k.toNat .undef) 4) (fI (ws.getD k.toNat .undef) 5) (fI (ws.getD k.toNat .undef) 6) (fI (ws.getD k.toNat .undef) 7) (fI (ws.getD k.toNat .undef) 8) (fB (ws.getD k.toNat .undef) 2) (h5 k k0 k1) (h6 k k0 k1).1
    unfold pI wkAt at hp
    rw [Bool.or_eq_false_iff,Bool.not_eq_false'] at hp
    rw [hp.1] at a2
    obtain ⟨w,e1,e2⟩:=in20 vs rs ps ws (fL (ws.getD k.toNat .undef) 0) s (fI (ws.getD k.toNat .undef) 1) (fI (ws.getD k.toNat .undef) 3) (fI (ws.getD k.toNat .undef) 4) (fI (ws.getD k.toNat .undef) 5) (fI (ws.getD k.toNat .undef) 6) (fI (ws.getD k.toNat .undef) 7) (fI (ws.getD k.toNat .undef) 8) k ws.length (fB (ws.getD k.toNat .undef) 2) h4 k0 (by omega)
    cases w with
    | inr w=>rw [hp.2] at e2;cases e2
    | inl w =>
     simp only [R12_0,F12_0,G12_0,d1,d2,d3,d4,d5,Bool.and_self,cond_true,a1,a2,Bool.not_true,cond_false,e1,ro,sumE]
     rw [wrap_in (a:=k+1) (by omega) (by omega)]
   ·have d1:decide (k<(ws.length:Int))=true:=decide_eq_true k1
    have d2:decide (0≤k)=true:=decide_eq_true k0
    have d3:decide (k≤(ws.length:Int))=true:=decide_eq_true (by omega)
    have d4:decide ((0:Int)≤0)=true:=rfl
    have d5:decide ((0:Nat)≤0)=true:=rfl
    obtain ⟨a1,a2⟩:=P69w hc h3 (fL (ws.getD k.toNat .undef) 0) (fI (ws.getD k.toNat .undef) 1) (fI (ws.getD k.toNat .undef) 3) (fI (ws.getD k.toNat .undef) 4) (fI (ws.getD k.toNat .undef) 5) (fI (ws.getD k.toNat .undef) 6) (fI (ws.getD k.toNat .undef) 7) (fI (ws.getD k.toNat .undef) 8) (fB (ws.getD k.toNat .undef) 2) (h5 k k0 k1) (h6 k k0 k1).1
    unfold pI at hp
    cases hw:wkAt vs ps ws k with
    | false =>
     unfold wkAt at hw
     rw [hw] at a2
     refine ⟨?w3,?h3⟩
     case h3 =>
      simp only [R12_0,F12_0,G12_0,d1,d2,Bool.and_self,cond_true,a1,a2,Bool.not_false]
      rfl
    | true =>
     rw [hw,Bool.not_true,Bool.false_or] at hp
     unfold wkAt at hw
     rw [hw] at a2
     obtain ⟨w,e1,e2⟩:=in20 vs rs ps ws (fL (ws.getD k.toNat .undef) 0) s (fI (ws.getD k.toNat .undef) 1) (fI (ws.getD k.toNat .undef) 3) (fI (ws.getD k.toNat .undef) 4) (fI (ws.getD k.toNat .undef) 5) (fI (ws.getD k.toNat .undef) 6) (fI (ws.getD k.toNat .undef) 7) (fI (ws.getD k.toNat .undef) 8) k ws.length (fB (ws.getD k.toNat .undef) 2) h4 k0 (by omega)
     cases w with
     | inl w=>rw [hp] at e2;cases e2
     | inr w =>
      refine ⟨?w4,?h4⟩
      case h4 =>
       simp only [R12_0,F12_0,G12_0,d1,d2,d3,d4,d5,Bool.and_self,cond_true,a1,a2,Bool.not_true,cond_false,e1,ro,sumE]
       rfl
  obtain ⟨r,hr,hp⟩:=key
  rw [hr]
  cases r with
  | inl _ =>
   rw [show noneB (pI vs ps ws) ws.length=true from hp]
   cases decide (1≤(ws.length:Int)) <;> cases decide ((ws.length:Int)≤3) <;> cases decide (0≤s) <;> cases decide (s≤100000) <;> exact ⟨rfl,rfl⟩
  | inr r =>
   rw [show noneB (pI vs ps ws) ws.length=false from hp]
   cases r <;> cases decide (1≤(ws.length:Int)) <;> cases decide ((ws.length:Int)≤3) <;> cases decide (0≤s) <;> cases decide (s≤100000) <;> exact ⟨rfl,rfl⟩
structure At (ps:List AV) (a b:Int):Prop where
 a0:0≤a
 ab:a≤b
 edge:0<a→∃ p:Int,0≤p∧p<ps.length∧pat ps p=a
 cut:∀ p:Int,0≤p→p<ps.length→pat ps p≤a∨b≤pat ps p
theorem at_of {vs rs ps:List AV} (hc:Col vs rs ps) {T:List AV} {nx fr to i j sw wt:Int} (h:wkB vs ps T nx true fr to i j sw wt=true):At ps fr to:=by
 unfold wkB runB at h
 simp only [cond_true,Bool.and_eq_true,decide_eq_true_eq,Bool.not_eq_true'] at h
 obtain ⟨_,_,_,_,_,_,_,_,_,hf,e1,e2,_⟩:=h
 have hpc:=pc_of hc hf
 have pc:=piece_of hc hpc
 rw [e1,e2]
 refine ⟨pc.a0,pc.ab,fun h=>?_,pc.cut⟩
 have ht:=hpc.t1
 have ht0:=hpc.t0
 unfold pA at h ⊢
 split at h
 ·omega
 ·rename_i hne
  rw [if_neg hne]
  exact ⟨_,by omega,by omega,rfl⟩
theorem ov72 (fr to x y:Int):v70_0 fr to x y=decide ((fr<to∧fr<y∧x<to∧x<y)∨(fr=x∧to=y)):=by
 unfold v70_0
 have e:((if x > fr then x else fr)<(if y<to then y else to)) ↔ (fr<to∧fr<y∧x<to∧x<y):=by split <;> split <;> omega
 rw [show decide ((if x > fr then x else fr)<(if y<to then y else to))=decide (fr<to∧fr<y∧x<to∧x<y) from decide_eq_decide.2 e]
 by_cases h1:(fr<to∧fr<y∧x<to∧x<y) <;> by_cases h2:fr=x <;> by_cases h3:to=y <;> simp [h1,h2,h3]
theorem ov69 (T:List AV) (nx x y a b c d fr to:Int):v74_0 T nx true x y a b c d fr to=decide ((x<to∧fr<y)∨(x=fr∧y=to)):=by
 unfold v74_0
 by_cases h1:x<to <;> by_cases h2:fr<y <;> by_cases h3:x=fr <;> by_cases h4:y=to <;> simp [h1,h2,h3,h4]
theorem ov_eq {ps:List AV} {fr to x y:Int} (h1:At ps fr to) (h2:At ps x y):((x<to∧fr<y)∨(x=fr∧y=to)) ↔ ((fr<to∧fr<y∧x<to∧x<y)∨(fr=x∧to=y)):=by
 have a1:=h1.ab
 have a2:=h2.ab
 have a3:=h1.a0
 have a4:=h2.a0
 have n1:¬ (fr=to∧x<fr∧fr<y):=fun ⟨k1,k2,k3⟩=>by
  obtain ⟨p,p0,p1,e⟩:=h1.edge (by omega)
  have:=h2.cut p p0 p1
  omega
 have n2:¬ (x=y∧fr<x∧x<to):=fun ⟨k1,k2,k3⟩=>by
  obtain ⟨p,p0,p1,e⟩:=h2.edge (by omega)
  have:=h1.cut p p0 p1
  omega
 omega
theorem pS_pI {vs rs ps ws:List AV} (hc:Col vs rs ps):noneB (pS vs ps ws) ws.length=noneB (pI vs ps ws) ws.length:=by
 rw [Bool.eq_iff_iff,noneB_iff,noneB_iff]
 have same:(∀ k:Int,0≤k→k<ws.length→wkAt vs ps ws k=true)→∀ k:Int,0≤k→k<ws.length→pS vs ps ws k=pI vs ps ws k:=by
  intro hw k k0 k1
  unfold pS pI
  cases hk:fB (ws.getD k.toNat .undef) 2 with
  | false=>rfl
  | true =>
   have hkk:=hw k k0 k1
   unfold wkAt at hkk
   rw [hk] at hkk
   have A1:=at_of hc hkk
   have:noneB (ovS ws (fI (ws.getD k.toNat .undef) 3) (fI (ws.getD k.toNat .undef) 4)) k.toNat=noneB (ovI ws (fI (ws.getD k.toNat .undef) 3) (fI (ws.getD k.toNat .undef) 4)) k.toNat:=by
    have e:∀ m:Int,0≤m→m<k.toNat→ovS ws (fI (ws.getD k.toNat .undef) 3) (fI (ws.getD k.toNat .undef) 4) m=ovI ws (fI (ws.getD k.toNat .undef) 3) (fI (ws.getD k.toNat .undef) 4) m:=fun m m0 m1=>by
     have hm:=hw m m0 (by omega)
     unfold wkAt at hm
     unfold ovS ovI
     cases hr:fB (ws.getD m.toNat .undef) 2 with
     | false=>rfl
     | true =>
      rw [hr] at hm
      have A2:=at_of hc hm
      rw [ov69,ov72,Bool.true_and,decide_eq_decide]
      exact ov_eq A1 A2
    rw [Bool.eq_iff_iff,noneB_iff,noneB_iff]
    exact ⟨fun h m m0 m1=>by rw [← e m m0 m1];exact h m m0 m1,fun h m m0 m1=>by rw [e m m0 m1];exact h m m0 m1⟩
   rw [this]
 constructor
 ·intro h k k0 k1
  rw [← same (fun k k0 k1=>by have:=h k k0 k1;unfold pS at this;rw [Bool.or_eq_false_iff,Bool.not_eq_false'] at this;exact this.1) k k0 k1]
  exact h k k0 k1
 ·intro h k k0 k1
  rw [same (fun k k0 k1=>by have:=h k k0 k1;unfold pI at this;rw [Bool.or_eq_false_iff,Bool.not_eq_false'] at this;exact this.1) k k0 k1]
  exact h k k0 k1
theorem isB_both (vs rs ps ws:List AV) (s:Int) (h1:vs.length≤1048576) (h2:rs.length≤1048576) (h3:ps.length≤1048576) (h4:ws.length≤1048576) (h5:few20 ws) (h6:okI ws) :
  q13 vs rs ps ws s=true∧q12 vs rs ps ws s=true∧v12_0 vs rs ps ws s=v13_0 vs rs ps ws s:=by
 obtain ⟨a1,a2⟩:=P13 vs rs ps ws s h1 h2 h3 h4 h5 h6
 obtain ⟨b1,b2⟩:=P12 vs rs ps ws s h1 h2 h3 h4 h5 h6
 refine ⟨a1,b1,?_⟩
 rw [a2,b2]
 unfold isBS
 cases hC:isC vs rs ps with
 | false=>rfl
 | true=>rw [pS_pI ((isC_iff vs rs ps h1).1 hC)]
end Go.Proofs.YtealoedecngaoaaGreatDoor

namespace Go.Proofs.YtealoedecngaoaaGreatDoor
open Go Go.Proofs.VE
set_option linter.unusedVariables false
set_option linter.unusedSimpArgs false
def mkW (T:List AV) (nx:Int) (rn:Bool) (fr to i j sw wt:Int):AV:=AV.agg [AV.sl [.int .i64] T,AV.int .i64 nx,AV.bool rn,AV.int .i64 fr,AV.int .i64 to,AV.int .i64 i,AV.int .i64 j,AV.int .i64 sw,AV.int .i64 wt]
def canW (x:AV):AV:=mkW (fL x 0) (fI x 1) (fB x 2) (fI x 3) (fI x 4) (fI x 5) (fI x 6) (fI x 7) (fI x 8)
def CnW (ws:List AV):Prop:=∀ x ∈ ws,canW x=x
theorem CnW.at {ws:List AV} (h:CnW ws) {k:Int} (k0:0≤k) (k1:k<ws.length):canW (ws.getD k.toNat .undef)=ws.getD k.toNat .undef:=h _ (mem_at k0 k1)
theorem CnW.set {ws:List AV} (h:CnW ws) (n:Nat) {x:AV} (hx:canW x=x):CnW (ws.set n x):=fun y hy=>by
 rcases List.mem_or_eq_of_mem_set hy with h1|h1
 ·exact h y h1
 ·rw [h1];exact hx
theorem set_get {ws:List AV} {k:Int} (x:AV) (k0:0≤k) (k1:k<ws.length):(ws.set k.toNat x).getD k.toNat .undef=x:=by
 have:k.toNat<ws.length:=by omega
 simp [List.getD_eq_getElem?_getD,this]
theorem set_ne {ws:List AV} {k m:Int} (x:AV) (k0:0≤k) (m0:0≤m) (h:m ≠ k):(ws.set k.toNat x).getD m.toNat .undef=ws.getD m.toNat .undef:=by
 simp only [List.getD_eq_getElem?_getD]
 rw [List.getElem?_set_ne (by omega)]
theorem copyS {vs rs ps ws:List AV} (s:Int) (h1:vs.length≤1048576) (h2:rs.length≤1048576) (h3:ps.length≤1048576) (h4:ws.length≤1048576) (hf:few20 ws) (hc:CnW ws) :
  q67 vs rs ps ws s=true∧v67_0 vs rs ps ws s=vs∧v67_1 vs rs ps ws s=rs∧v67_2 vs rs ps ws s=ps∧v67_3 vs rs ps ws s=ws∧v67_4 vs rs ps ws s=s:=by
 obtain ⟨d0,d1,d2,d3⟩:=P138 vs rs ps h1 h2 h3
 obtain ⟨r,r1,r2⟩:=runW_ends (f:=R67_0 vs vs rs ps ws s rs 0 ps s) (fun st:Int ⊕ (Int × List AV)=>match st with | .inl i=>i=0 | .inr p=>0<p.1∧p.1≤ws.length∧p.2=ws.take p.1.toNat)
  (fun r:Unit ⊕ List AV=>match r with | .inl _=>ws=[] | .inr L=>L=ws) (fun st=>match st with | .inl _=>ws.length | .inr p=>((ws.length:Int) - p.1).toNat) (fun st hI=>by
   rcases st with i|⟨i,L⟩
   ·have hI:i=0:=hI
    subst hI
    by_cases ck:(0:Int)<ws.length
    ·have x1:decide ((0:Int)<(ws.length:Int))=true:=decide_eq_true ck
     have x2:decide ((0:Int)≤0)=true:=rfl
     have hl:=hf 0 (Int.le_refl 0) ck
     have hx:=hc.at (Int.le_refl 0) ck
     refine .inl ⟨.inr (1,[canW (ws.getD (0:Int).toNat .undef)]),?_,⟨by simp only;omega,by simp only;omega,?_⟩,by simp only;omega⟩
     ·show F67_0_s0 vs vs rs ps ws s rs 0 ps s 0=_
      unfold F67_0_s0 G67_0_s0
      simp only [x1,x2,Bool.and_self,cond_true,List.length_nil,List.length_singleton,Nat.zero_add]
      rw [decide_eq_true (by omega:(fL (ws.getD (0:Int).toNat AV.undef) 0).length*8≤140737488355328),decide_eq_true (by omega:(fL (ws.getD (0:Int).toNat AV.undef) 0).length≤140737488355328)]
      rfl
     ·simp only
      rw [hx]
      have:=take_snoc (xs:=ws) (k:=0) (Int.le_refl 0) ck
      simpa using this.symm
    ·have x1:decide ((0:Int)<(ws.length:Int))=false:=decide_eq_false ck
     refine .inr ⟨.inl (),?_,List.eq_nil_of_length_eq_zero (by omega)⟩
     show F67_0_s0 vs vs rs ps ws s rs 0 ps s 0=_
     unfold F67_0_s0 G67_0_s0
     simp only [x1,cond_false]
   ·obtain ⟨i0,i1,hL⟩:0<i∧i≤ws.length∧L=ws.take i.toNat:=hI
    by_cases ck:i<ws.length
    ·have x1:decide (i<(ws.length:Int))=true:=decide_eq_true ck
     have x2:decide (0≤i)=true:=decide_eq_true (by omega)
     have hl:=hf i (by omega) ck
     have hx:=hc.at (by omega) ck
     have hLl:L.length≤1048576:=by rw [hL,List.length_take];omega
     have wk_:IntKind.i64.wrap (i+1)=i+1:=wrap_in (by omega) (by omega)
     refine .inl ⟨.inr (i+1,L++[canW (ws.getD i.toNat .undef)]),?_,⟨by simp only;omega,by simp only;omega,?_⟩,by simp only;omega⟩
     ·show F67_0_s1 vs vs rs ps ws s rs 0 ps s i L=_
      unfold F67_0_s1 G67_0_s1
      simp only [x1,x2,wk_,Bool.and_self,cond_true,List.length_nil,List.length_singleton,Nat.zero_add]
      rw [decide_eq_true (by omega:(fL (ws.getD i.toNat AV.undef) 0).length*8≤140737488355328),decide_eq_true (by omega:(fL (ws.getD i.toNat AV.undef) 0).length≤140737488355328),decide_eq_true (by omega:(L.length+1)*88≤140737488355328),decide_eq_true (by omega:L.length+1≤140737488355328)]
      rfl
     ·simp only
      rw [hx,hL]
      exact (take_snoc (by omega) ck).symm
    ·have x1:decide (i<(ws.length:Int))=false:=decide_eq_false ck
     refine .inr ⟨.inr L,?_,?_⟩
     ·show F67_0_s1 vs vs rs ps ws s rs 0 ps s i L=_
      unfold F67_0_s1 G67_0_s1
      simp only [x1,cond_false]
     ·show L=ws
      rw [hL]
      exact List.take_of_length_le (by omega)) (((ws.length:Int) - 0).toNat+1) (.inl 0) rfl (by simp only;omega)
 unfold q67 v67_0 v67_1 v67_2 v67_3 v67_4
 rw [d0,d1,d2,d3,r1]
 cases r with
 | inl u=>exact ⟨rfl,rfl,rfl,rfl,(show ws=[] from r2).symm,rfl⟩
 | inr L=>exact ⟨rfl,rfl,rfl,rfl,r2,rfl⟩
theorem u139_1 (b4:List AV) (a1:Int) (k0:0≤a1) (k1:a1<(b4.length:Int)):w139_1 b4 a1=b4.set a1.toNat (AV.agg [AV.sl [.int .i64] (fL (b4.getD a1.toNat AV.undef) 0),AV.int .i64 (fI (b4.getD a1.toNat AV.undef) 1),AV.bool false,AV.int .i64 (fI (b4.getD a1.toNat AV.undef) 3),AV.int .i64 (fI (b4.getD a1.toNat AV.undef) 4),AV.int .i64 (fI (b4.getD a1.toNat AV.undef) 5),AV.int .i64 (fI (b4.getD a1.toNat AV.undef) 6),AV.int .i64 (fI (b4.getD a1.toNat AV.undef) 7),AV.int .i64 (fI (b4.getD a1.toNat AV.undef) 8)]):=by
 rfl
theorem u139_2 (b4:List AV) (a1:Int) (k0:0≤a1) (k1:a1<(b4.length:Int)):w139_2 b4 a1=b4.set a1.toNat (AV.agg [AV.sl [.int .i64] (fL (b4.getD a1.toNat AV.undef) 0),AV.int .i64 (fI (b4.getD a1.toNat AV.undef) 1),AV.bool false,AV.int .i64 0,AV.int .i64 (fI (b4.getD a1.toNat AV.undef) 4),AV.int .i64 (fI (b4.getD a1.toNat AV.undef) 5),AV.int .i64 (fI (b4.getD a1.toNat AV.undef) 6),AV.int .i64 (fI (b4.getD a1.toNat AV.undef) 7),AV.int .i64 (fI (b4.getD a1.toNat AV.undef) 8)]):=by
 unfold w139_2
 rw [u139_1 b4 a1 k0 k1]
 simp only [fun x=>set_get (ws:=b4) x k0 k1,List.set_set]
 rfl
theorem u139_3 (b4:List AV) (a1:Int) (k0:0≤a1) (k1:a1<(b4.length:Int)):w139_3 b4 a1=b4.set a1.toNat (AV.agg [AV.sl [.int .i64] (fL (b4.getD a1.toNat AV.undef) 0),AV.int .i64 (fI (b4.getD a1.toNat AV.undef) 1),AV.bool false,AV.int .i64 0,AV.int .i64 0,AV.int .i64 (fI (b4.getD a1.toNat AV.undef) 5),AV.int .i64 (fI (b4.getD a1.toNat AV.undef) 6),AV.int .i64 (fI (b4.getD a1.toNat AV.undef) 7),AV.int .i64 (fI (b4.getD a1.toNat AV.undef) 8)]):=by
 unfold w139_3
 rw [u139_2 b4 a1 k0 k1]
 simp only [fun x=>set_get (ws:=b4) x k0 k1,List.set_set]
 rfl
theorem u139_4 (b4:List AV) (a1:Int) (k0:0≤a1) (k1:a1<(b4.length:Int)):w139_4 b4 a1=b4.set a1.toNat (AV.agg [AV.sl [.int .i64] (fL (b4.getD a1.toNat AV.undef) 0),AV.int .i64 (fI (b4.getD a1.toNat AV.undef) 1),AV.bool false,AV.int .i64 0,AV.int .i64 0,AV.int .i64 0,AV.int .i64 (fI (b4.getD a1.toNat AV.undef) 6),AV.int .i64 (fI (b4.getD a1.toNat AV.undef) 7),AV.int .i64 (fI (b4.getD a1.toNat AV.undef) 8)]):=by
 unfold w139_4
 rw [u139_3 b4 a1 k0 k1]
 simp only [fun x=>set_get (ws:=b4) x k0 k1,List.set_set]
 rfl
theorem u139_5 (b4:List AV) (a1:Int) (k0:0≤a1) (k1:a1<(b4.length:Int)):w139_5 b4 a1=b4.set a1.toNat (AV.agg [AV.sl [.int .i64] (fL (b4.getD a1.toNat AV.undef) 0),AV.int .i64 (fI (b4.getD a1.toNat AV.undef) 1),AV.bool false,AV.int .i64 0,AV.int .i64 0,AV.int .i64 0,AV.int .i64 0,AV.int .i64 (fI (b4.getD a1.toNat AV.undef) 7),AV.int .i64 (fI (b4.getD a1.toNat AV.undef) 8)]):=by
 unfold w139_5
 rw [u139_4 b4 a1 k0 k1]
 simp only [fun x=>set_get (ws:=b4) x k0 k1,List.set_set]
 rfl
theorem u139_6 (b4:List AV) (a1:Int) (k0:0≤a1) (k1:a1<(b4.length:Int)):w139_6 b4 a1=b4.set a1.toNat (AV.agg [AV.sl [.int .i64] (fL (b4.getD a1.toNat AV.undef) 0),AV.int .i64 (IntKind.i64.wrap ((fI (b4.getD a1.toNat AV.undef) 1)+1)),AV.bool false,AV.int .i64 0,AV.int .i64 0,AV.int .i64 0,AV.int .i64 0,AV.int .i64 (fI (b4.getD a1.toNat AV.undef) 7),AV.int .i64 (fI (b4.getD a1.toNat AV.undef) 8)]):=by
 unfold w139_6
 rw [u139_5 b4 a1 k0 k1]
 simp only [fun x=>set_get (ws:=b4) x k0 k1,List.set_set]
 rfl
theorem u139_7 (b4:List AV) (a1:Int) (k0:0≤a1) (k1:a1<(b4.length:Int)):w139_7 b4 a1=b4.set a1.toNat (AV.agg [AV.sl [.int .i64] (fL (b4.getD a1.toNat AV.undef) 0),AV.int .i64 (fI (b4.getD a1.toNat AV.undef) 1),AV.bool (fB (b4.getD a1.toNat AV.undef) 2),AV.int .i64 (fI (b4.getD a1.toNat AV.undef) 3),AV.int .i64 (fI (b4.getD a1.toNat AV.undef) 4),AV.int .i64 (IntKind.i64.wrap (fI (b4.getD a1.toNat AV.undef) 5+1)),AV.int .i64 (fI (b4.getD a1.toNat AV.undef) 6),AV.int .i64 (fI (b4.getD a1.toNat AV.undef) 7),AV.int .i64 (fI (b4.getD a1.toNat AV.undef) 8)]):=by
 rfl
theorem u139_8 (b4:List AV) (a1:Int) (k0:0≤a1) (k1:a1<(b4.length:Int)):w139_8 b4 a1=b4.set a1.toNat (AV.agg [AV.sl [.int .i64] (fL (b4.getD a1.toNat AV.undef) 0),AV.int .i64 (fI (b4.getD a1.toNat AV.undef) 1),AV.bool (fB (b4.getD a1.toNat AV.undef) 2),AV.int .i64 (fI (b4.getD a1.toNat AV.undef) 3),AV.int .i64 (fI (b4.getD a1.toNat AV.undef) 4),AV.int .i64 (fI (b4.getD a1.toNat AV.undef) 5),AV.int .i64 (IntKind.i64.wrap (fI (b4.getD a1.toNat AV.undef) 6 - 1)),AV.int .i64 (fI (b4.getD a1.toNat AV.undef) 7),AV.int .i64 (fI (b4.getD a1.toNat AV.undef) 8)]):=by
 rfl
theorem u139_9 (b4:List AV) (a1:Int) (k0:0≤a1) (k1:a1<(b4.length:Int)):w139_9 b4 a1=b4.set a1.toNat (AV.agg [AV.sl [.int .i64] (fL (b4.getD a1.toNat AV.undef) 0),AV.int .i64 (fI (b4.getD a1.toNat AV.undef) 1),AV.bool (fB (b4.getD a1.toNat AV.undef) 2),AV.int .i64 (fI (b4.getD a1.toNat AV.undef) 3),AV.int .i64 (fI (b4.getD a1.toNat AV.undef) 4),AV.int .i64 (IntKind.i64.wrap (fI (b4.getD a1.toNat AV.undef) 5+1)),AV.int .i64 (IntKind.i64.wrap ((fI (b4.getD a1.toNat AV.undef) 6) - 1)),AV.int .i64 (fI (b4.getD a1.toNat AV.undef) 7),AV.int .i64 (fI (b4.getD a1.toNat AV.undef) 8)]):=by
 unfold w139_9
 rw [u139_7 b4 a1 k0 k1]
 simp only [fun x=>set_get (ws:=b4) x k0 k1,List.set_set]
 rfl
theorem u139_10 (b4:List AV) (a1:Int) (k0:0≤a1) (k1:a1<(b4.length:Int)):w139_10 b4 a1=b4.set a1.toNat (AV.agg [AV.sl [.int .i64] (fL (b4.getD a1.toNat AV.undef) 0),AV.int .i64 (fI (b4.getD a1.toNat AV.undef) 1),AV.bool (fB (b4.getD a1.toNat AV.undef) 2),AV.int .i64 (fI (b4.getD a1.toNat AV.undef) 3),AV.int .i64 (fI (b4.getD a1.toNat AV.undef) 4),AV.int .i64 (IntKind.i64.wrap (fI (b4.getD a1.toNat AV.undef) 5+1)),AV.int .i64 (IntKind.i64.wrap ((fI (b4.getD a1.toNat AV.undef) 6) - 1)),AV.int .i64 (IntKind.i64.wrap ((fI (b4.getD a1.toNat AV.undef) 7)+1)),AV.int .i64 (fI (b4.getD a1.toNat AV.undef) 8)]):=by
 unfold w139_10
 rw [u139_9 b4 a1 k0 k1]
 simp only [fun x=>set_get (ws:=b4) x k0 k1,List.set_set]
 rfl
theorem u140_1 (b4:List AV) (a1:Int) (k0:0≤a1) (k1:a1<(b4.length:Int)):w140_1 b4 a1=b4.set a1.toNat (AV.agg [AV.sl [.int .i64] (fL (b4.getD a1.toNat AV.undef) 0),AV.int .i64 (IntKind.i64.wrap (fI (b4.getD a1.toNat AV.undef) 1+1)),AV.bool (fB (b4.getD a1.toNat AV.undef) 2),AV.int .i64 (fI (b4.getD a1.toNat AV.undef) 3),AV.int .i64 (fI (b4.getD a1.toNat AV.undef) 4),AV.int .i64 (fI (b4.getD a1.toNat AV.undef) 5),AV.int .i64 (fI (b4.getD a1.toNat AV.undef) 6),AV.int .i64 (fI (b4.getD a1.toNat AV.undef) 7),AV.int .i64 (fI (b4.getD a1.toNat AV.undef) 8)]):=by
 rfl
theorem u140_2 (b4:List AV) (a1:Int) (k0:0≤a1) (k1:a1<(b4.length:Int)):w140_2 b4 a1=b4.set a1.toNat (AV.agg [AV.sl [.int .i64] (fL (b4.getD a1.toNat AV.undef) 0),AV.int .i64 (fI (b4.getD a1.toNat AV.undef) 1),AV.bool (fB (b4.getD a1.toNat AV.undef) 2),AV.int .i64 (fI (b4.getD a1.toNat AV.undef) 3),AV.int .i64 (fI (b4.getD a1.toNat AV.undef) 4),AV.int .i64 (fI (b4.getD a1.toNat AV.undef) 5),AV.int .i64 (fI (b4.getD a1.toNat AV.undef) 6),AV.int .i64 (fI (b4.getD a1.toNat AV.undef) 7),AV.int .i64 (IntKind.i64.wrap (fI (b4.getD a1.toNat AV.undef) 8+1))]):=by
 rfl
theorem u140_3 (b4:List AV) (a1:Int) (k0:0≤a1) (k1:a1<(b4.length:Int)):w140_3 b4 a1=b4.set a1.toNat (AV.agg [AV.sl [.int .i64] (fL (b4.getD a1.toNat AV.undef) 0),AV.int .i64 (fI (b4.getD a1.toNat AV.undef) 1),AV.bool true,AV.int .i64 (fI (b4.getD a1.toNat AV.undef) 3),AV.int .i64 (fI (b4.getD a1.toNat AV.undef) 4),AV.int .i64 (fI (b4.getD a1.toNat AV.undef) 5),AV.int .i64 (fI (b4.getD a1.toNat AV.undef) 6),AV.int .i64 (fI (b4.getD a1.toNat AV.undef) 7),AV.int .i64 (fI (b4.getD a1.toNat AV.undef) 8)]):=by
 rfl
theorem u140_4 (b4:List AV) (a1:Int) (b1:List AV) (b2:List AV) (b3:List AV) (k0:0≤a1) (k1:a1<(b4.length:Int)):w140_4 b4 a1 b1 b2 b3=b4.set a1.toNat (AV.agg [AV.sl [.int .i64] (fL (b4.getD a1.toNat AV.undef) 0),AV.int .i64 (fI (b4.getD a1.toNat AV.undef) 1),AV.bool true,AV.int .i64 (v101_0 b1 b2 b3 (fI ((fL (b4.getD a1.toNat AV.undef) 0).getD (fI (b4.getD a1.toNat AV.undef) 1).toNat AV.undef) 0)),AV.int .i64 (fI (b4.getD a1.toNat AV.undef) 4),AV.int .i64 (fI (b4.getD a1.toNat AV.undef) 5),AV.int .i64 (fI (b4.getD a1.toNat AV.undef) 6),AV.int .i64 (fI (b4.getD a1.toNat AV.undef) 7),AV.int .i64 (fI (b4.getD a1.toNat AV.undef) 8)]):=by
 unfold w140_4
 rw [u140_3 b4 a1 k0 k1]
 simp only [fun x=>set_get (ws:=b4) x k0 k1,List.set_set]
 rfl
theorem u140_5 (b4:List AV) (a1:Int) (b1:List AV) (b2:List AV) (b3:List AV) (k0:0≤a1) (k1:a1<(b4.length:Int)):w140_5 b4 a1 b1 b2 b3=b4.set a1.toNat (AV.agg [AV.sl [.int .i64] (fL (b4.getD a1.toNat AV.undef) 0),AV.int .i64 (fI (b4.getD a1.toNat AV.undef) 1),AV.bool true,AV.int .i64 (v101_0 b1 b2 b3 (fI ((fL (b4.getD a1.toNat AV.undef) 0).getD (fI (b4.getD a1.toNat AV.undef) 1).toNat AV.undef) 0)),AV.int .i64 (v101_1 b1 b2 b3 (fI ((fL (b4.getD a1.toNat AV.undef) 0).getD (fI (b4.getD a1.toNat AV.undef) 1).toNat AV.undef) 0)),AV.int .i64 (fI (b4.getD a1.toNat AV.undef) 5),AV.int .i64 (fI (b4.getD a1.toNat AV.undef) 6),AV.int .i64 (fI (b4.getD a1.toNat AV.undef) 7),AV.int .i64 (fI (b4.getD a1.toNat AV.undef) 8)]):=by
 unfold w140_5
 rw [u140_4 b4 a1 b1 b2 b3 k0 k1]
 simp only [fun x=>set_get (ws:=b4) x k0 k1,List.set_set]
 rfl
theorem u140_6 (b4:List AV) (a1:Int) (b1:List AV) (b2:List AV) (b3:List AV) (k0:0≤a1) (k1:a1<(b4.length:Int)):w140_6 b4 a1 b1 b2 b3=b4.set a1.toNat (AV.agg [AV.sl [.int .i64] (fL (b4.getD a1.toNat AV.undef) 0),AV.int .i64 (fI (b4.getD a1.toNat AV.undef) 1),AV.bool true,AV.int .i64 (v101_0 b1 b2 b3 (fI ((fL (b4.getD a1.toNat AV.undef) 0).getD (fI (b4.getD a1.toNat AV.undef) 1).toNat AV.undef) 0)),AV.int .i64 (v101_1 b1 b2 b3 (fI ((fL (b4.getD a1.toNat AV.undef) 0).getD (fI (b4.getD a1.toNat AV.undef) 1).toNat AV.undef) 0)),AV.int .i64 (v101_0 b1 b2 b3 (fI ((fL (b4.getD a1.toNat AV.undef) 0).getD (fI (b4.getD a1.toNat AV.undef) 1).toNat AV.undef) 0)),AV.int .i64 (fI (b4.getD a1.toNat AV.undef) 6),AV.int .i64 (fI (b4.getD a1.toNat AV.undef) 7),AV.int .i64 (fI (b4.getD a1.toNat AV.undef) 8)]):=by
 unfold w140_6
 rw [u140_5 b4 a1 b1 b2 b3 k0 k1]
 simp only [fun x=>set_get (ws:=b4) x k0 k1,List.set_set]
 rfl
theorem u140_7 (b4:List AV) (a1:Int) (b1:List AV) (b2:List AV) (b3:List AV) (k0:0≤a1) (k1:a1<(b4.length:Int)):w140_7 b4 a1 b1 b2 b3=b4.set a1.toNat (AV.agg [AV.sl [.int .i64] (fL (b4.getD a1.toNat AV.undef) 0),AV.int .i64 (fI (b4.getD a1.toNat AV.undef) 1),AV.bool true,AV.int .i64 (v101_0 b1 b2 b3 (fI ((fL (b4.getD a1.toNat AV.undef) 0).getD (fI (b4.getD a1.toNat AV.undef) 1).toNat AV.undef) 0)),AV.int .i64 (v101_1 b1 b2 b3 (fI ((fL (b4.getD a1.toNat AV.undef) 0).getD (fI (b4.getD a1.toNat AV.undef) 1).toNat AV.undef) 0)),AV.int .i64 (v101_0 b1 b2 b3 (fI ((fL (b4.getD a1.toNat AV.undef) 0).getD (fI (b4.getD a1.toNat AV.undef) 1).toNat AV.undef) 0)),AV.int .i64 (IntKind.i64.wrap ((v101_1 b1 b2 b3 (fI ((fL (b4.getD a1.toNat AV.undef) 0).getD (fI (b4.getD a1.toNat AV.undef) 1).toNat AV.undef) 0)) - 1)),AV.int .i64 (fI (b4.getD a1.toNat AV.undef) 7),AV.int .i64 (fI (b4.getD a1.toNat AV.undef) 8)]):=by
 unfold w140_7
 rw [u140_6 b4 a1 b1 b2 b3 k0 k1]
 simp only [fun x=>set_get (ws:=b4) x k0 k1,List.set_set]
 rfl
end Go.Proofs.YtealoedecngaoaaGreatDoor

namespace Go.Proofs.YtealoedecngaoaaGreatDoor
open Go Go.Proofs.VE
set_option linter.unusedVariables false
set_option linter.unusedSimpArgs false
structure Rn (vs ps:List AV) (v fr to i j:Int):Prop where
 free:(findP ps v).isSome=false
 eA:fr=pA ps v
 eB:to=pB vs ps v
 lo:fr≤i
 ij:i≤j+1
 hi:j<to
 low:∀ k:Int,fr≤k→k<to→k<i→el vs k<v
 high:∀ k:Int,fr≤k→k<to→j<k→v≤el vs k
theorem okLoop_iff (vs:List AV) (v a b i j:Int):okLoop vs v a b i j=true ↔ (∀ k:Int,a≤k→k<b→k<i→el vs k<v)∧∀ k:Int,a≤k→k<b→j<k→v≤el vs k:=by
 unfold okLoop
 rw [findF_isNone]
 have e:∀ k:Int,okP vs v i j k=false ↔ (k<i→el vs k<v)∧(j<k→v≤el vs k):=fun k=>by
  have ek:fI (vs.getD k.toNat .undef) 0=el vs k:=rfl
  unfold okP
  rw [ek,Bool.or_eq_false_iff,Bool.and_eq_false_iff,Bool.and_eq_false_iff,decide_eq_false_iff_not,decide_eq_false_iff_not,decide_eq_false_iff_not,decide_eq_false_iff_not]
  constructor
  ·rintro ⟨h1,h2⟩
   exact ⟨fun g=>by omega,fun g=>by omega⟩
  ·rintro ⟨h1,h2⟩
   constructor
   ·by_cases g:k<i
    ·exact .inr (by have:=h1 g;omega)
    ·exact .inl g
   ·by_cases g:k > j
    ·exact .inr (by have:=h2 g;omega)
    ·exact .inl g
 constructor
 ·intro h
  exact ⟨fun k k0 k1 g=>((e k).1 (h k k0 (by omega))).1 g,fun k k0 k1 g=>((e k).1 (h k k0 (by omega))).2 g⟩
 ·rintro ⟨h1,h2⟩ k k0 k1
  exact (e k).2 ⟨fun g=>h1 k k0 (by omega) g,fun g=>h2 k k0 (by omega) g⟩
theorem rn_iff (vs ps:List AV) (v fr to i j:Int):runB vs ps v fr to i j=true ↔ Rn vs ps v fr to i j:=by
 unfold runB
 simp only [Bool.and_eq_true,Bool.not_eq_true',decide_eq_true_eq,okLoop_iff]
 constructor
 ·rintro ⟨h1,h2,h3,h4,h5,h6,h7,h8⟩
  subst h2 h3
  exact ⟨h1,rfl,rfl,h4,h5,h6,h7,h8⟩
 ·rintro ⟨h1,h2,h3,h4,h5,h6,h7,h8⟩
  subst h2 h3
  exact ⟨h1,rfl,rfl,h4,h5,h6,h7,h8⟩
theorem Rn.piece {vs rs ps:List AV} {v fr to i j:Int} (hc:Col vs rs ps) (h:Rn vs ps v fr to i j):Piece vs ps v fr to:=by
 have pc:=pc_of hc h.free
 have p:=piece_of hc pc
 have e1:=h.eA
 have e2:=h.eB
 unfold pA at e1
 unfold pB at e2
 rw [← e1,← e2] at p
 exact p
theorem Rn.cut {vs rs ps:List AV} {v fr to i j:Int} (hc:Col vs rs ps) (h:Rn vs ps v fr to i j) {p:Int} (p0:0≤p) (p1:p<ps.length):(el ps p<v→pat ps p≤fr)∧(v<el ps p→to≤pat ps p):=by
 have pc:=pc_of hc h.free
 have q:=Pc.cut hc pc p0 p1
 have e1:=h.eA
 have e2:=h.eB
 unfold pA at e1
 unfold pB at e2
 rw [← e1,← e2] at q
 exact q
theorem Rn.done {vs rs ps:List AV} {v fr to i j:Int} (hc:Col vs rs ps) (h:Rn vs ps v fr to i j) (hv : -1000≤v∧v≤1000) (ji:j<i):Col vs rs (insP ps v i):=by
 have P:=h.piece hc
 have a0:=P.a0
 have b1:=P.b1
 have l1:=h.lo
 have l2:=h.ij
 have l3:=h.hi
 refine hc.pivot (findP_none h.free) hv ⟨by omega,by omega⟩ (fun k k0 k1=>?_) fun p p0 p1=>?_
 ·rcases Int.lt_or_le k fr with c|c
  ·have:=P.lo k k0 c
   omega
  ·rcases Int.lt_or_le k to with c'|c'
   ·rcases Int.lt_or_le k i with c2|c2
    ·have:=h.low k c c' c2
     omega
    ·have:=h.high k c c' (by omega)
     omega
   ·have:=P.hi k c' k1
    omega
 ·obtain ⟨c1,c2⟩:=h.cut hc p0 p1
  exact ⟨fun g=>by have:=c1 g;omega,fun g=>by have:=c2 g;omega⟩
def tg (x:AV):Int:=fI ((fL x 0).getD (fI x 1).toNat .undef) 0
structure Wk (vs ps:List AV) (x:AV):Prop where
 tl:(fL x 0).length≤6
 tb:∀ j:Int,0≤j→j<(fL x 0).length → -1000≤el (fL x 0) j∧el (fL x 0) j≤1000
 n0:0≤fI x 1
 n1:fI x 1≤(fL x 0).length
 s0:0≤fI x 7
 s1:fI x 7≤100000
 t0:0≤fI x 8
 t1:fI x 8≤100000
 run:fB x 2=true→fI x 1 ≠ (fL x 0).length∧Rn vs ps (tg x) (fI x 3) (fI x 4) (fI x 5) (fI x 6)
 stop:fB x 2=false→fI x 3=0∧fI x 4=0∧fI x 5=0∧fI x 6=0
theorem wk_iff (vs ps ws:List AV) (k:Int):wkAt vs ps ws k=true ↔ Wk vs ps (ws.getD k.toNat .undef):=by
 unfold wkAt wkB
 generalize ws.getD k.toNat .undef=x
 simp only [Bool.and_eq_true,decide_eq_true_eq,noneB_iff]
 have e:∀ j:Int,(!v72_0 (fI ((fL x 0).getD j.toNat .undef) 0) (-1000) 1000)=false ↔ -1000≤el (fL x 0) j∧el (fL x 0) j≤1000:=fun j=>by
  rw [Bool.not_eq_false',v72,Bool.and_eq_true,decide_eq_true_eq,decide_eq_true_eq]
  rfl
 constructor
 ·rintro ⟨a1,a2,a3,a4,a5,a6,a7,a8,a9⟩
  refine ⟨by omega,fun j j0 j1=>(e j).1 (a1 j j0 (by omega)),a3,a4,a5,a6,a7,a8,fun hr=>?_,fun hr=>?_⟩
  ·rw [hr,cond_true,Bool.and_eq_true,Bool.not_eq_true',decide_eq_false_iff_not,rn_iff] at a9
   exact a9
  ·rw [hr,cond_false] at a9
   simp only [Bool.and_eq_true,decide_eq_true_eq] at a9
   exact a9
 ·rintro ⟨a1,a2,a3,a4,a5,a6,a7,a8,a9,a10⟩
  refine ⟨fun j j0 j1=>(e j).2 (a2 j j0 (by omega)),by omega,a3,a4,a5,a6,a7,a8,?_⟩
  cases hr:fB x 2 with
  | true =>
   rw [cond_true,Bool.and_eq_true,Bool.not_eq_true',decide_eq_false_iff_not,rn_iff]
   exact a9 hr
  | false =>
   rw [cond_false]
   simp only [Bool.and_eq_true,decide_eq_true_eq]
   exact a10 hr
theorem Wk.next {vs ps:List AV} {x:AV} (h:Wk vs ps x) (hn:fI x 1 ≠ (fL x 0).length):fI x 1<(fL x 0).length ∧ -1000≤tg x∧tg x≤1000:=by
 have a:=h.n0
 have b:=h.n1
 obtain ⟨c,d⟩:=h.tb (fI x 1) a (by omega)
 exact ⟨by omega,c,d⟩
def ovX (x y:AV):Prop:=(fI x 3<fI y 4∧fI y 3<fI x 4)∨(fI x 3=fI y 3∧fI x 4=fI y 4)
theorem ovX_symm {x y:AV} (h:ovX x y):ovX y x:=by
 unfold ovX at *
 omega
structure Bv (vs rs ps ws:List AV) (s:Int):Prop where
 col:Col vs rs ps
 w1:1≤ws.length
 w3:ws.length≤3
 s0:0≤s
 s1:s≤100000
 wk:∀ k:Int,0≤k→k<ws.length→Wk vs ps (ws.getD k.toNat .undef)
 apart:∀ k m:Int,0≤m→m<k→k<ws.length→fB (ws.getD k.toNat .undef) 2=true→fB (ws.getD m.toNat .undef) 2=true→¬ ovX (ws.getD m.toNat .undef) (ws.getD k.toNat .undef)
theorem Bv.far {vs rs ps ws:List AV} {s:Int} (h:Bv vs rs ps ws s) {k m:Int} (k0:0≤k) (k1:k<ws.length) (m0:0≤m) (m1:m<ws.length) (hne:m ≠ k) (hk:fB (ws.getD k.toNat .undef) 2=true) (hm:fB (ws.getD m.toNat .undef) 2=true):¬ ovX (ws.getD m.toNat .undef) (ws.getD k.toNat .undef):=by
 rcases Int.lt_or_le m k with c|c
 ·exact h.apart k m m0 c k1 hk hm
 ·exact fun e=>h.apart m k k0 (by omega) m1 hm hk (ovX_symm e)
theorem ovS_iff (ws:List AV) (fr to m:Int):ovS ws fr to m=true ↔ fB (ws.getD m.toNat .undef) 2=true∧((fI (ws.getD m.toNat .undef) 3<to∧fr<fI (ws.getD m.toNat .undef) 4)∨(fI (ws.getD m.toNat .undef) 3=fr∧fI (ws.getD m.toNat .undef) 4=to)):=by
 unfold ovS
 cases hr:fB (ws.getD m.toNat .undef) 2 with
 | true =>
  rw [ov69,decide_eq_true_eq]
  exact ⟨fun h=>⟨rfl,h⟩,fun h=>h.2⟩
 | false =>
  constructor
  ·intro h;cases h
  ·rintro ⟨h,_⟩;cases h
structure Bd (vs rs ps ws:List AV):Prop where
 v:vs.length≤1048576
 r:rs.length≤1048576
 p:ps.length≤1048576
 w:ws.length≤1048576
 few:few20 ws
 oki:okI ws
 two:N2 ps
 can:CnW ws
theorem isB_iff {vs rs ps ws:List AV} {s:Int} (b:Bd vs rs ps ws):v13_0 vs rs ps ws s=true ↔ Bv vs rs ps ws s:=by
 rw [(P13 vs rs ps ws s b.v b.r b.p b.w b.few b.oki).2]
 unfold isBS
 simp only [Bool.and_eq_true,decide_eq_true_eq,noneB_iff,isC_iff vs rs ps b.v]
 constructor
 ·rintro ⟨h1,h2,h3,h4,h5,h6⟩
  have h7:∀ k:Int,0≤k→k<ws.length→wkAt vs ps ws k=true∧(fB (ws.getD k.toNat .undef) 2=true→∀ m:Int,0≤m→m<k→ovS ws (fI (ws.getD k.toNat .undef) 3) (fI (ws.getD k.toNat .undef) 4) m=false):=fun k k0 k1=>by
   have:=h6 k k0 k1
   unfold pS at this
   rw [Bool.or_eq_false_iff,Bool.not_eq_false',Bool.and_eq_false_iff,Bool.not_eq_false',noneB_iff] at this
   refine ⟨this.1,fun hr m m0 m1=>?_⟩
   rcases this.2 with g|g
   ·rw [hr] at g;cases g
   ·exact g m m0 (by omega)
  refine ⟨h1,by omega,by omega,h4,h5,fun k k0 k1=>(wk_iff _ _ _ _).1 (h7 k k0 k1).1,fun k m m0 mk k1 hk hm ho=>?_⟩
  have:=(h7 k (by omega) k1).2 hk m m0 mk
  have e:=(ovS_iff ws (fI (ws.getD k.toNat .undef) 3) (fI (ws.getD k.toNat .undef) 4) m).2 ⟨hm,ho⟩
  rw [this] at e
  cases e
 ·rintro ⟨h1,h2,h3,h4,h5,h6,h7⟩
  refine ⟨h1,by omega,by omega,h4,h5,fun k k0 k1=>?_⟩
  unfold pS
  rw [Bool.or_eq_false_iff,Bool.not_eq_false',Bool.and_eq_false_iff,Bool.not_eq_false',noneB_iff]
  refine ⟨(wk_iff _ _ _ _).2 (h6 k k0 k1),?_⟩
  cases hr:fB (ws.getD k.toNat .undef) 2 with
  | false=>exact .inl rfl
  | true =>
   refine .inr fun m m0 m1=>?_
   cases ho:ovS ws (fI (ws.getD k.toNat .undef) 3) (fI (ws.getD k.toNat .undef) 4) m with
   | false=>rfl
   | true =>
    obtain ⟨g1,g2⟩:=(ovS_iff _ _ _ _).1 ho
    exact absurd g2 (h7 k m m0 (by omega) k1 hr g1)
theorem place_uniq {xs:List AV} {v t:Int} (t0:0≤t) (t1:t≤xs.length) (h1:∀ q:Int,0≤q→q<t→el xs q≤v) (h2:t<xs.length→v<el xs t):place xs v=t:=by
 obtain ⟨p0,p1,p2,p3⟩:=place_spec xs v
 rcases Int.lt_trichotomy (place xs v) t with c|c|c
 ·have a:=p3 (by omega)
  have b:=h1 _ p0 c
  omega
 ·exact c
 ·have a:=p2 t t0 c
  have b:=h2 (by omega)
  omega
theorem findP_ne {ps:List AV} {v:Int} (h:∀ k:Int,0≤k→k<ps.length→el ps k ≠ v):(findP ps v).isSome=false:=by
 cases hf:findP ps v with
 | none=>rfl
 | some j =>
  unfold findP at hf
  obtain ⟨h1,h2,h3⟩:=findF_some _ _ hf
  exact absurd (of_decide_eq_true h3) (h j h1 (by omega))
theorem el_ins {ps:List AV} {v a:Int} (q:Int) (q0:0≤q):el (insP ps v a) q=(if q<place ps v then el ps q else if q=place ps v then v else el ps (q - 1))∧pat (insP ps v a) q=(if q<place ps v then pat ps q else if q=place ps v then a else pat ps (q - 1)):=by
 have e:=insP_at ps v a q q0
 unfold el pat
 rw [e]
 split
 ·exact ⟨rfl,rfl⟩
 ·split
  ·exact ⟨rfl,rfl⟩
  ·exact ⟨rfl,rfl⟩
theorem other_piece {vs ps:List AV} {v u a:Int} (hv:(findP ps v).isSome=false) (hu:(findP ps u).isSome=false) (hne:¬ (pA ps v=pA ps u∧pB vs ps v=pB vs ps u)) :
  (findP (insP ps v a) u).isSome=false∧pA (insP ps v a) u=pA ps u∧pB vs (insP ps v a) u=pB vs ps u:=by
 have hp:place ps v ≠ place ps u:=fun e=>hne ⟨by unfold pA;rw [e],by unfold pB;rw [e]⟩
 obtain ⟨p0,p1,p2,p3⟩:=place_spec ps v
 obtain ⟨r0,r1,r2,r3⟩:=place_spec ps u
 have hl:=insP_len ps v a
 have nv:=findP_none hu
 have vu:v ≠ u:=fun e=>hp (by rw [e])
 refine ⟨findP_ne fun q q0 q1=>?_,?_⟩
 ·rw [(el_ins q q0).1]
  split
  ·exact nv q q0 (by omega)
  ·split
   ·exact vu
   ·exact nv (q - 1) (by omega) (by omega)
 ·rcases Int.lt_or_le (place ps u) (place ps v) with c|c
  ·have e:place (insP ps v a) u=place ps u:=by
    refine place_uniq r0 (by omega) (fun q q0 q1=>?_) fun _=>?_
    ·rw [(el_ins q q0).1,if_pos (by omega)]
     exact r2 q q0 q1
    ·rw [(el_ins _ r0).1,if_pos c]
     exact r3 (by omega)
   unfold pA pB
   rw [e]
   constructor
   ·by_cases z:place ps u=0
    ·rw [if_pos z,if_pos z]
    ·rw [if_neg z,if_neg z,(el_ins _ (by omega)).2,if_pos (by omega)]
   ·rw [if_neg (by omega),if_neg (by omega),(el_ins _ r0).2,if_pos c]
  ·have e:place (insP ps v a) u=place ps u+1:=by
    refine place_uniq (by omega) (by omega) (fun q q0 q1=>?_) fun h=>?_
    ·rw [(el_ins q q0).1]
     split
     ·exact r2 q q0 (by omega)
     ·split
      ·have a1:=p3 (by omega)
       have a2:=r2 (place ps v) p0 (by omega)
       omega
      ·exact r2 (q - 1) (by omega) (by omega)
    ·rw [(el_ins _ (by omega)).1,if_neg (by omega),if_neg (by omega),show place ps u+1 - 1=place ps u by omega]
     exact r3 (by omega)
   unfold pA pB
   rw [e]
   constructor
   ·rw [if_neg (by omega),if_neg (by omega),(el_ins _ (by omega)).2,if_neg (by omega),if_neg (by omega),show place ps u+1 - 1 - 1=place ps u - 1 by omega]
   ·by_cases z:place ps u=ps.length
    ·rw [if_pos z,if_pos (by omega)]
    ·rw [if_neg z,if_neg (by omega),(el_ins _ (by omega)).2,if_neg (by omega),if_neg (by omega),show place ps u+1 - 1=place ps u by omega]
theorem few_set {ws:List AV} (h:few20 ws) {k:Int} (k0:0≤k) {x:AV} (hx:(fL x 0).length≤1048576):few20 (ws.set k.toNat x):=fun m m0 m1=>by
 rw [List.length_set] at m1
 by_cases e:m=k
 ·subst e
  rw [set_get x k0 m1]
  exact hx
 ·rw [set_ne x k0 m0 e]
  exact h m m0 m1
theorem okI_set {ws:List AV} (h:okI ws) {k:Int} (k0:0≤k) {x:AV} (hx:fI x 5≤9223372036854775807 ∧ -9223372036854775808≤fI x 6):okI (ws.set k.toNat x):=fun m m0 m1=>by
 rw [List.length_set] at m1
 by_cases e:m=k
 ·subst e
  rw [set_get x k0 m1]
  exact hx
 ·rw [set_ne x k0 m0 e]
  exact h m m0 m1
theorem Bv.set {vs rs ps ws:List AV} {s:Int} (h:Bv vs rs ps ws s) {k:Int} (k0:0≤k) (k1:k<ws.length) {V R P:List AV} {x:AV} {s':Int} (hs:0≤s'∧s'≤100000) (hc:Col V R P) (hx:Wk V P x)
  (ho:∀ m:Int,0≤m→m<ws.length→m ≠ k→Wk V P (ws.getD m.toNat .undef)) (ha:fB x 2=true→∀ m:Int,0≤m→m<ws.length→m ≠ k→fB (ws.getD m.toNat .undef) 2=true→¬ ovX (ws.getD m.toNat .undef) x):Bv V R P (ws.set k.toNat x) s':=by
 refine ⟨hc,by rw [List.length_set];exact h.w1,by rw [List.length_set];exact h.w3,hs.1,hs.2,fun m m0 m1=>?_,fun a b b0 ba a1 hA hB=>?_⟩
 ·rw [List.length_set] at m1
  by_cases e:m=k
  ·subst e
   rw [set_get x k0 m1]
   exact hx
  ·rw [set_ne x k0 m0 e]
   exact ho m m0 m1 e
 ·rw [List.length_set] at a1
  by_cases ea:a=k
  ·subst ea
   have eb:b ≠ a:=by omega
   rw [set_get x k0 a1] at hA ⊢
   rw [set_ne x k0 b0 eb] at hB ⊢
   exact ha hA b b0 (by omega) eb hB
  ·rw [set_ne x k0 (by omega) ea] at hA ⊢
   by_cases eb:b=k
   ·subst eb
    rw [set_get x k0 (by omega)] at hB ⊢
    exact fun e=>ha hB a (by omega) a1 ea hA (ovX_symm e)
   ·rw [set_ne x k0 b0 eb] at hB ⊢
    exact h.apart a b b0 ba a1 hA hB
end Go.Proofs.YtealoedecngaoaaGreatDoor

namespace Go.Proofs.YtealoedecngaoaaGreatDoor
open Go Go.Proofs.VE
set_option linter.unusedVariables false
set_option linter.unusedSimpArgs false
theorem g132 {b0_0:List AV} {b0_1:Int} {b0_2:Int} {b1:List AV} {x0:Int} {x1:List AV} {x2:Int} {x3:Int} {x4:List AV} (h:W132 b0_0 b0_1 b0_2 b1=some (x0,x1,x2,x3,x4)):q132 b0_0 b0_1 b0_2 b1=true∧v132_0 b0_0 b0_1 b0_2 b1=x0∧v132_1 b0_0 b0_1 b0_2 b1=x1∧v132_2 b0_0 b0_1 b0_2 b1=x2∧v132_3 b0_0 b0_1 b0_2 b1=x3∧v132_4 b0_0 b0_1 b0_2 b1=x4:=by
 unfold q132 v132_0 v132_1 v132_2 v132_3 v132_4
 rw [h]
 exact ⟨rfl,rfl,rfl,rfl,rfl,rfl⟩
theorem g91 {a1:Int} {b0_0:List AV} {b0_1:Int} {b0_2:Int} {x0:List AV} {x1:List AV} {x2:Int} {x3:Int} (h:W91 a1 b0_0 b0_1 b0_2=some (x0,x1,x2,x3)):q91 a1 b0_0 b0_1 b0_2=true∧v91_0 a1 b0_0 b0_1 b0_2=x0∧v91_1 a1 b0_0 b0_1 b0_2=x1∧v91_2 a1 b0_0 b0_1 b0_2=x2∧v91_3 a1 b0_0 b0_1 b0_2=x3:=by
 unfold q91 v91_0 v91_1 v91_2 v91_3
 rw [h]
 exact ⟨rfl,rfl,rfl,rfl,rfl⟩
theorem g119 {a1:Int} {b0_0:List AV} {b0_1:Int} {b0_2:Int} {x0:Bool} {x1:List AV} {x2:Int} {x3:Int} (h:W119 a1 b0_0 b0_1 b0_2=some (x0,x1,x2,x3)):q119 a1 b0_0 b0_1 b0_2=true∧v119_0 a1 b0_0 b0_1 b0_2=x0∧v119_1 a1 b0_0 b0_1 b0_2=x1∧v119_2 a1 b0_0 b0_1 b0_2=x2∧v119_3 a1 b0_0 b0_1 b0_2=x3:=by
 unfold q119 v119_0 v119_1 v119_2 v119_3
 rw [h]
 exact ⟨rfl,rfl,rfl,rfl,rfl⟩
theorem g109 {b0_0:List AV} {b0_1:Int} {b0_2:Int} {b1:List AV} {b2:List AV} {b3:List AV} {x0:Int} {x1:List AV} {x2:Int} {x3:Int} {x4:List AV} {x5:List AV} {x6:List AV} (h:W109 b0_0 b0_1 b0_2 b1 b2 b3=some (x0,x1,x2,x3,x4,x5,x6)):q109 b0_0 b0_1 b0_2 b1 b2 b3=true∧v109_0 b0_0 b0_1 b0_2 b1 b2 b3=x0∧v109_1 b0_0 b0_1 b0_2 b1 b2 b3=x1∧v109_2 b0_0 b0_1 b0_2 b1 b2 b3=x2∧v109_3 b0_0 b0_1 b0_2 b1 b2 b3=x3∧v109_4 b0_0 b0_1 b0_2 b1 b2 b3=x4∧v109_5 b0_0 b0_1 b0_2 b1 b2 b3=x5∧v109_6 b0_0 b0_1 b0_2 b1 b2 b3=x6:=by
 unfold q109 v109_0 v109_1 v109_2 v109_3 v109_4 v109_5 v109_6
 rw [h]
 exact ⟨rfl,rfl,rfl,rfl,rfl,rfl,rfl,rfl⟩
theorem g151 {b0_0:List AV} {b0_1:Int} {b0_2:Int} {x0:List AV} {x1:List AV} {x2:List AV} {x3:List AV} {x4:Int} {x5:Int} (h:W151 b0_0 b0_1 b0_2=some (x0,x1,x2,x3,x4,x5)):q151 b0_0 b0_1 b0_2=true∧v151_0 b0_0 b0_1 b0_2=x0∧v151_1 b0_0 b0_1 b0_2=x1∧v151_2 b0_0 b0_1 b0_2=x2∧v151_3 b0_0 b0_1 b0_2=x3∧v151_4 b0_0 b0_1 b0_2=x4∧v151_5 b0_0 b0_1 b0_2=x5:=by
 unfold q151 v151_0 v151_1 v151_2 v151_3 v151_4 v151_5
 rw [h]
 exact ⟨rfl,rfl,rfl,rfl,rfl,rfl,rfl⟩
theorem g80 {b0_0:List AV} {b0_1:Int} {b0_2:Int} {x0:List AV} {x1:List AV} {x2:List AV} {x3:List AV} {x4:Int} {x5:Int} (h:W80 b0_0 b0_1 b0_2=some (x0,x1,x2,x3,x4,x5)):q80 b0_0 b0_1 b0_2=true∧v80_0 b0_0 b0_1 b0_2=x0∧v80_1 b0_0 b0_1 b0_2=x1∧v80_2 b0_0 b0_1 b0_2=x2∧v80_3 b0_0 b0_1 b0_2=x3∧v80_4 b0_0 b0_1 b0_2=x4∧v80_5 b0_0 b0_1 b0_2=x5:=by
 unfold q80 v80_0 v80_1 v80_2 v80_3 v80_4 v80_5
 rw [h]
 exact ⟨rfl,rfl,rfl,rfl,rfl,rfl,rfl⟩
theorem g24 {a0:List AV} {x0:List AV} {x1:List AV} {x2:List AV} (h:W24 a0=some (x0,x1,x2)):q24 a0=true∧v24_0 a0=x0∧v24_1 a0=x1∧v24_2 a0=x2:=by
 unfold q24 v24_0 v24_1 v24_2
 rw [h]
 exact ⟨rfl,rfl,rfl,rfl⟩
theorem g29 {a0:List AV} {x0:List AV} (h:W29 a0=some x0):q29 a0=true∧v29_0 a0=x0:=by
 unfold q29 v29_0
 rw [h]
 exact ⟨rfl,rfl⟩
theorem g180 {b0_0:List AV} {b0_1:Int} {b0_2:Int} {b1:List AV} {b2:List AV} {b3:List AV} {x0:List AV} {x1:List AV} {x2:Int} {x3:Int} {x4:List AV} {x5:List AV} {x6:List AV} (h:W180 b0_0 b0_1 b0_2 b1 b2 b3=some (x0,x1,x2,x3,x4,x5,x6)):q180 b0_0 b0_1 b0_2 b1 b2 b3=true∧v180_0 b0_0 b0_1 b0_2 b1 b2 b3=x0∧v180_1 b0_0 b0_1 b0_2 b1 b2 b3=x1∧v180_2 b0_0 b0_1 b0_2 b1 b2 b3=x2∧v180_3 b0_0 b0_1 b0_2 b1 b2 b3=x3∧v180_4 b0_0 b0_1 b0_2 b1 b2 b3=x4∧v180_5 b0_0 b0_1 b0_2 b1 b2 b3=x5∧v180_6 b0_0 b0_1 b0_2 b1 b2 b3=x6:=by
 unfold q180 v180_0 v180_1 v180_2 v180_3 v180_4 v180_5 v180_6
 rw [h]
 exact ⟨rfl,rfl,rfl,rfl,rfl,rfl,rfl,rfl⟩
theorem g63 {a1:Int} {b0_0:List AV} {b0_1:Int} {b0_2:Int} {x0:List AV} {x1:List AV} {x2:Int} {x3:Int} (h:W63 a1 b0_0 b0_1 b0_2=some (x0,x1,x2,x3)):q63 a1 b0_0 b0_1 b0_2=true∧v63_0 a1 b0_0 b0_1 b0_2=x0∧v63_1 a1 b0_0 b0_1 b0_2=x1∧v63_2 a1 b0_0 b0_1 b0_2=x2∧v63_3 a1 b0_0 b0_1 b0_2=x3:=by
 unfold q63 v63_0 v63_1 v63_2 v63_3
 rw [h]
 exact ⟨rfl,rfl,rfl,rfl,rfl⟩
theorem g139 {a1:Int} {b0:Int} {b1:List AV} {b2:List AV} {b3:List AV} {b4:List AV} {x0:List AV} {x1:List AV} {x2:List AV} {x3:List AV} {x4:Int} (h:W139 a1 b0 b1 b2 b3 b4=some (x0,x1,x2,x3,x4)):q139 a1 b0 b1 b2 b3 b4=true∧v139_0 a1 b0 b1 b2 b3 b4=x0∧v139_1 a1 b0 b1 b2 b3 b4=x1∧v139_2 a1 b0 b1 b2 b3 b4=x2∧v139_3 a1 b0 b1 b2 b3 b4=x3∧v139_4 a1 b0 b1 b2 b3 b4=x4:=by
 unfold q139 v139_0 v139_1 v139_2 v139_3 v139_4
 rw [h]
 exact ⟨rfl,rfl,rfl,rfl,rfl,rfl⟩
theorem g140 {a1:Int} {a2:Bool} {b0:Int} {b1:List AV} {b2:List AV} {b3:List AV} {b4:List AV} {x0:List AV} {x1:List AV} {x2:List AV} {x3:List AV} {x4:Int} (h:W140 a1 a2 b0 b1 b2 b3 b4=some (x0,x1,x2,x3,x4)):q140 a1 a2 b0 b1 b2 b3 b4=true∧v140_0 a1 a2 b0 b1 b2 b3 b4=x0∧v140_1 a1 a2 b0 b1 b2 b3 b4=x1∧v140_2 a1 a2 b0 b1 b2 b3 b4=x2∧v140_3 a1 a2 b0 b1 b2 b3 b4=x3∧v140_4 a1 a2 b0 b1 b2 b3 b4=x4:=by
 unfold q140 v140_0 v140_1 v140_2 v140_3 v140_4
 rw [h]
 exact ⟨rfl,rfl,rfl,rfl,rfl,rfl⟩
theorem g68 {a0_0:List AV} {a0_1:List AV} {a0_2:List AV} {a0_3:List AV} {a0_4:Int} {a1:Int} {x0:List AV} {x1:List AV} {x2:List AV} {x3:List AV} {x4:Int} {x5:Bool} (h:W68 a0_0 a0_1 a0_2 a0_3 a0_4 a1=some (x0,x1,x2,x3,x4,x5)):q68 a0_0 a0_1 a0_2 a0_3 a0_4 a1=true∧v68_0 a0_0 a0_1 a0_2 a0_3 a0_4 a1=x0∧v68_1 a0_0 a0_1 a0_2 a0_3 a0_4 a1=x1∧v68_2 a0_0 a0_1 a0_2 a0_3 a0_4 a1=x2∧v68_3 a0_0 a0_1 a0_2 a0_3 a0_4 a1=x3∧v68_4 a0_0 a0_1 a0_2 a0_3 a0_4 a1=x4∧v68_5 a0_0 a0_1 a0_2 a0_3 a0_4 a1=x5:=by
 unfold q68 v68_0 v68_1 v68_2 v68_3 v68_4 v68_5
 rw [h]
 exact ⟨rfl,rfl,rfl,rfl,rfl,rfl,rfl⟩
theorem g130 {b0_0:List AV} {b0_1:Int} {b0_2:Int} {x0:List AV} {x1:List AV} {x2:List AV} {x3:List AV} {x4:Int} {x5:List AV} {x6:Int} {x7:Int} (h:W130 b0_0 b0_1 b0_2=some (x0,x1,x2,x3,x4,x5,x6,x7)):q130 b0_0 b0_1 b0_2=true∧v130_0 b0_0 b0_1 b0_2=x0∧v130_1 b0_0 b0_1 b0_2=x1∧v130_2 b0_0 b0_1 b0_2=x2∧v130_3 b0_0 b0_1 b0_2=x3∧v130_4 b0_0 b0_1 b0_2=x4∧v130_5 b0_0 b0_1 b0_2=x5∧v130_6 b0_0 b0_1 b0_2=x6∧v130_7 b0_0 b0_1 b0_2=x7:=by
 unfold q130 v130_0 v130_1 v130_2 v130_3 v130_4 v130_5 v130_6 v130_7
 rw [h]
 exact ⟨rfl,rfl,rfl,rfl,rfl,rfl,rfl,rfl,rfl⟩
theorem g62 {b0_0:List AV} {b0_1:Int} {b0_2:Int} {x0:List AV} {x1:List AV} {x2:List AV} {x3:List AV} {x4:Int} {x5:List AV} {x6:Int} {x7:Int} (h:W62 b0_0 b0_1 b0_2=some (x0,x1,x2,x3,x4,x5,x6,x7)):q62 b0_0 b0_1 b0_2=true∧v62_0 b0_0 b0_1 b0_2=x0∧v62_1 b0_0 b0_1 b0_2=x1∧v62_2 b0_0 b0_1 b0_2=x2∧v62_3 b0_0 b0_1 b0_2=x3∧v62_4 b0_0 b0_1 b0_2=x4∧v62_5 b0_0 b0_1 b0_2=x5∧v62_6 b0_0 b0_1 b0_2=x6∧v62_7 b0_0 b0_1 b0_2=x7:=by
 unfold q62 v62_0 v62_1 v62_2 v62_3 v62_4 v62_5 v62_6 v62_7
 rw [h]
 exact ⟨rfl,rfl,rfl,rfl,rfl,rfl,rfl,rfl,rfl⟩
theorem g30 {a0:List AV} {x0:List AV} {x1:List AV} {x2:List AV} {x3:List AV} {x4:Int} (h:W30 a0=some (x0,x1,x2,x3,x4)):q30 a0=true∧v30_0 a0=x0∧v30_1 a0=x1∧v30_2 a0=x2∧v30_3 a0=x3∧v30_4 a0=x4:=by
 unfold q30 v30_0 v30_1 v30_2 v30_3 v30_4
 rw [h]
 exact ⟨rfl,rfl,rfl,rfl,rfl,rfl⟩
theorem Rn.up {vs ps:List AV} {v fr to i j:Int} (h:Rn vs ps v fr to i j) (ij:i≤j) (hv:el vs i<v):Rn vs ps v fr to (i+1) j:=by
 have a:=h.lo
 refine ⟨h.free,h.eA,h.eB,by omega,by omega,h.hi,fun k k0 k1 k2=>?_,h.high⟩
 by_cases e:k=i
 ·rw [e];exact hv
 ·exact h.low k k0 k1 (by omega)
theorem Rn.down {vs ps:List AV} {v fr to i j:Int} (h:Rn vs ps v fr to i j) (ij:i≤j) (hv:v≤el vs j):Rn vs ps v fr to i (j - 1):=by
 have a:=h.hi
 refine ⟨h.free,h.eA,h.eB,h.lo,by omega,by omega,h.low,fun k k0 k1 k2=>?_⟩
 by_cases e:k=j
 ·rw [e];exact hv
 ·exact h.high k k0 k1 (by omega)
theorem pB_len {vs V ps:List AV} (v:Int) (hl:V.length=vs.length):pB V ps v=pB vs ps v:=by
 unfold pB
 rw [hl]
theorem Rn.swap {vs rs ps:List AV} {v fr to i j:Int} (hc:Col vs rs ps) (h:Rn vs ps v fr to i j) (ij:i≤j) (h1:v≤el vs i) (h2:el vs j<v):Rn (v149_0 i j vs) ps v fr to (i+1) (j - 1):=by
 have a:=h.lo
 have b:=h.hi
 have P:=h.piece hc
 have p0:=P.a0
 have p1:=P.b1
 have ne:i ≠ j:=fun e=>by rw [e] at h1;omega
 refine ⟨h.free,h.eA,by rw [pB_len v (sw_len ..)];exact h.eB,by omega,by omega,by omega,fun k k0 k1 k2=>?_,fun k k0 k1 k2=>?_⟩
 ·rw [el_sw vs i j k (by omega) (by omega) (by omega) (by omega) (by omega)]
  split
  ·omega
  ·split
   ·exact h2
   ·exact h.low k k0 k1 (by omega)
 ·rw [el_sw vs i j k (by omega) (by omega) (by omega) (by omega) (by omega)]
  split
  ·exact h1
  ·split
   ·omega
   ·exact h.high k k0 k1 (by omega)
theorem Rn.keep {vs V ps:List AV} {v fr to i j:Int} (h:Rn vs ps v fr to i j) (hl:V.length=vs.length) (he:∀ k:Int,fr≤k→k<to→el V k=el vs k):Rn V ps v fr to i j:=by
 refine ⟨h.free,h.eA,by rw [pB_len v hl];exact h.eB,h.lo,h.ij,h.hi,fun k k0 k1 k2=>?_,fun k k0 k1 k2=>?_⟩
 ·rw [he k k0 k1];exact h.low k k0 k1 k2
 ·rw [he k k0 k1];exact h.high k k0 k1 k2
theorem Rn.pivot {vs ps:List AV} {v fr to i j u f t i' j':Int} (h:Rn vs ps v fr to i j) (g:Rn vs ps u f t i' j') (ne:¬ (f=fr∧t=to)) (a:Int):Rn vs (insP ps v a) u f t i' j':=by
 obtain ⟨e1,e2,e3⟩:=other_piece (vs:=vs) (a:=a) h.free g.free (fun e=>ne ⟨by rw [g.eA,h.eA,e.1],by rw [g.eB,h.eB,e.2]⟩)
 exact ⟨e1,by rw [e2];exact g.eA,by rw [e3];exact g.eB,g.lo,g.ij,g.hi,g.low,g.high⟩
theorem Wk.keep {vs ps V P:List AV} {x:AV} (h:Wk vs ps x) (hr:fB x 2=true→Rn vs ps (tg x) (fI x 3) (fI x 4) (fI x 5) (fI x 6)→Rn V P (tg x) (fI x 3) (fI x 4) (fI x 5) (fI x 6)):Wk V P x :=
 ⟨h.tl,h.tb,h.n0,h.n1,h.s0,h.s1,h.t0,h.t1,fun e=>⟨(h.run e).1,hr e (h.run e).2⟩,h.stop⟩
theorem Bd.set {vs rs ps ws:List AV} (b:Bd vs rs ps ws) {V R P:List AV} (h1:V.length≤1048576) (h2:R.length≤1048576) (h3:P.length≤1048576) (h4:N2 P) {k:Int} (k0:0≤k) {x:AV} (hx:(fL x 0).length≤1048576) (h5:fI x 5≤9223372036854775807 ∧ -9223372036854775808≤fI x 6) (hc:canW x=x):Bd V R P (ws.set k.toNat x) :=
 ⟨h1,h2,h3,by rw [List.length_set];exact b.w,few_set b.few k0 hx,okI_set b.oki k0 h5,h4,b.can.set _ hc⟩
def blkF (vs ps ws:List AV) (k:Int):Int:=ro (findF (fun j => !decide (j=k) && ovS ws (pA ps (tg (ws.getD k.toNat .undef))) (pB vs ps (tg (ws.getD k.toNat .undef))) j) ws.length 0) (-1) id
theorem blkE {vs rs ps ws:List AV} {s k:Int} (b:Bd vs rs ps ws) (h:Bv vs rs ps ws s) (k0:0≤k) (k1:k<ws.length) (hr:fB (ws.getD k.toNat .undef) 2=false) (hn:fI (ws.getD k.toNat .undef) 1 ≠ (fL (ws.getD k.toNat .undef) 0).length) (hf:(findP ps (tg (ws.getD k.toNat .undef))).isSome=false) :
  q141 vs rs ps ws s k=true∧v141_0 vs rs ps ws s k=blkF vs ps ws k:=by
 have hc:=h.col
 have hx:=h.wk k k0 k1
 obtain ⟨n1,v0,v1⟩:=hx.next hn
 have n0:=hx.n0
 have d0:decide (fI (ws.getD k.toNat .undef) 1=((fL (ws.getD k.toNat .undef) 0).length:Int))=false:=decide_eq_false hn
 have d1:decide (0≤k)=true:=decide_eq_true k0
 have d2:decide (k<(ws.length:Int))=true:=decide_eq_true k1
 have d3:decide (0≤fI (ws.getD k.toNat .undef) 1)=true:=decide_eq_true n0
 have d4:decide (fI (ws.getD k.toNat .undef) 1<((fL (ws.getD k.toNat .undef) 0).length:Int))=true:=decide_eq_true n1
 have w3:=h.w3
 have w1:=h.w1
 have d5:v72_0 k 0 (IntKind.i64.wrap ((ws.length:Int) - 1))=true:=by
  rw [wrap_in (a:=(ws.length:Int) - 1) (by omega) (by omega),v72,decide_eq_true k0,decide_eq_true (by omega:k≤(ws.length:Int) - 1)]
  rfl
 obtain ⟨b0,_,_⟩:=isB_both vs rs ps ws s b.v b.r b.p b.w b.few b.oki
 have hB:=(isB_iff b).2 h
 obtain ⟨a1,_,a3⟩:=P21 vs rs ps (tg (ws.getD k.toNat .undef)) b.p
 rw [hf] at a3
 obtain ⟨e1,e2⟩:=P101b hc b.p v0 v1
 obtain ⟨e3,e4⟩:=e2 hf
 have hpc:=pc_of hc hf
 unfold tg at *
 unfold blkF tg
 unfold q141 v141_0
 simp only [b0,hB,hr,d0,d1,d2,d3,d4,d5,a1,a3,e1,e3,e4,Bool.and_self,Bool.not_true,cond_true,cond_false,Bool.true_and]
 generalize fI ((fL (ws.getD k.toNat .undef) 0).getD (fI (ws.getD k.toNat .undef) 1).toNat .undef) 0=v at *
 generalize pA ps v=a at *
 generalize pB vs ps v=c at *
 have r1:runW (R141_0 k a c vs rs ps ws s) (((ws.length:Int) - 0).toNat+1) 0=some (ro (findF (fun j => !decide (j=k) && ovS ws a c j) ws.length 0) (.inl ()) fun i => .inr i):=by
  refine runW_find (fun i=>i) ws.length _ _ _ (fun j j0 jn=>?_) ?_ ws.length _ 0 (Int.le_refl 0) (by omega) (by omega)
  ·have x1:decide (j<(ws.length:Int))=true:=decide_eq_true jn
   have x2:decide (0≤j)=true:=decide_eq_true j0
   simp only [R141_0,F141_0,G141_0,x1,x2,Bool.and_self,cond_true,ovS]
   rw [wrap_in (a:=j+1) (by omega) (by omega)]
   cases decide (j=k) <;> rfl
  ·simp only [R141_0,F141_0,G141_0,Int.lt_irrefl,decide_false,cond_false]
 rw [r1]
 cases findF (fun j => !decide (j=k) && ovS ws a c j) ws.length 0 <;> exact ⟨rfl,rfl⟩
theorem blkF_none {vs ps ws:List AV} {k:Int} (h:blkF vs ps ws k<0):∀ m:Int,0≤m→m<ws.length→m ≠ k→ovS ws (pA ps (tg (ws.getD k.toNat .undef))) (pB vs ps (tg (ws.getD k.toNat .undef))) m=false:=fun m m0 m1 ne=>by
 unfold blkF at h
 cases hf:findF (fun j => !decide (j=k) && ovS ws (pA ps (tg (ws.getD k.toNat .undef))) (pB vs ps (tg (ws.getD k.toNat .undef))) j) ws.length 0 with
 | none =>
  have:=(findF_isNone _ _).1 (by rw [hf];rfl:(findF (fun j => !decide (j=k) && ovS ws (pA ps (tg (ws.getD k.toNat .undef))) (pB vs ps (tg (ws.getD k.toNat .undef))) j) ws.length 0).isNone=true) m m0 (by omega)
  rw [decide_eq_false ne] at this
  exact this
 | some j =>
  rw [hf] at h
  have:=(findF_some _ _ hf).1
  have h:j<0:=h
  omega
theorem blkF_some {vs ps ws:List AV} {k:Int} (h:0≤blkF vs ps ws k):blkF vs ps ws k<ws.length∧blkF vs ps ws k ≠ k∧fB (ws.getD (blkF vs ps ws k).toNat .undef) 2=true:=by
 unfold blkF at *
 cases hf:findF (fun j => !decide (j=k) && ovS ws (pA ps (tg (ws.getD k.toNat .undef))) (pB vs ps (tg (ws.getD k.toNat .undef))) j) ws.length 0 with
 | none =>
  rw [hf] at h
  have h:(0:Int) ≤ -1:=h
  omega
 | some j =>
  obtain ⟨j0,j1,j2⟩:=findF_some _ _ hf
  rw [Bool.and_eq_true,Bool.not_eq_true',decide_eq_false_iff_not,ovS_iff] at j2
  exact ⟨(by omega:j<ws.length),j2.1,j2.2.1⟩
end Go.Proofs.YtealoedecngaoaaGreatDoor

namespace Go.Proofs.YtealoedecngaoaaGreatDoor
open Go Go.Proofs.VE
set_option linter.unusedVariables false
set_option linter.unusedSimpArgs false
def okB (vs rs ps ws:List AV) (s k:Int):Bool:=v13_0 vs rs ps ws s && (decide (0≤k) && (decide (k<(ws.length:Int)) && (!decide (s=100000) && (!decide (fI (ws.getD k.toNat .undef) 8=100000) && (!decide (fI (ws.getD k.toNat .undef) 7=100000) && !decide (fI (ws.getD k.toNat .undef) 1=((fL (ws.getD k.toNat .undef) 0).length:Int)))))))
theorem step_no {vs rs ps ws:List AV} (b:Bd vs rs ps ws) (s k:Int) (h:okB vs rs ps ws s k=false):W68 vs rs ps ws s k=some (vs,rs,ps,ws,s,false):=by
 obtain ⟨c0,c1,c2,c3,c4,c5⟩:=copyS s b.v b.r b.p b.w b.few b.can
 obtain ⟨b0,b1,b2⟩:=isB_both vs rs ps ws s b.v b.r b.p b.w b.few b.oki
 unfold okB at h
 unfold W68 T68
 simp only [c0,c1,c2,c3,c4,c5,b0,b1,b2,cond_true]
 cases hB:v13_0 vs rs ps ws s with
 | false=>rfl
 | true =>
  have B:=(isB_iff b).1 hB
  have w1:=B.w1
  have w3:=B.w3
  rw [hB,Bool.true_and] at h
  by_cases k0:0≤k
  ·by_cases k1:k<ws.length
   ·have d5:v72_0 k 0 (IntKind.i64.wrap ((ws.length:Int) - 1))=true:=by
     rw [wrap_in (a:=(ws.length:Int) - 1) (by omega) (by omega),v72,decide_eq_true k0,decide_eq_true (by omega:k≤(ws.length:Int) - 1)]
     rfl
    have hx:=B.wk k k0 k1
    have x1:=hx.s1
    have x2:=hx.t1
    have s1:=B.s1
    have g1:decide (s ≥ 100000)=decide (s=100000):=decide_eq_decide.2 (by omega)
    have g2:decide (fI (ws.getD k.toNat .undef) 8 ≥ 100000)=decide (fI (ws.getD k.toNat .undef) 8=100000):=decide_eq_decide.2 (by omega)
    have g3:decide (fI (ws.getD k.toNat .undef) 7 ≥ 100000)=decide (fI (ws.getD k.toNat .undef) 7=100000):=decide_eq_decide.2 (by omega)
    have g4:decide (k<0)=false:=decide_eq_false (by omega)
    have g5:decide (k ≥ (ws.length:Int))=false:=decide_eq_false (by omega)
    rw [decide_eq_true k0,decide_eq_true k1,Bool.true_and,Bool.true_and] at h
    simp only [d5,g1,g2,g3,g4,g5,decide_eq_true k0,decide_eq_true k1,Bool.and_self,Bool.not_true,cond_true,cond_false]
    cases q1:decide (s=100000) with
    | true=>cases decide (fI (ws.getD k.toNat .undef) 1=((fL (ws.getD k.toNat .undef) 0).length:Int)) <;> rfl
    | false =>
     cases q2:decide (fI (ws.getD k.toNat .undef) 8=100000) with
     | true =>
      cases decide (fI (ws.getD k.toNat .undef) 1=((fL (ws.getD k.toNat .undef) 0).length:Int)) <;> cases decide (fI (ws.getD k.toNat .undef) 7=100000) <;> rfl
     | false =>
      cases q3:decide (fI (ws.getD k.toNat .undef) 7=100000) with
      | true=>cases decide (fI (ws.getD k.toNat .undef) 1=((fL (ws.getD k.toNat .undef) 0).length:Int)) <;> rfl
      | false =>
       cases q4:decide (fI (ws.getD k.toNat .undef) 1=((fL (ws.getD k.toNat .undef) 0).length:Int)) with
       | true=>rfl
       | false=>rw [q1,q2,q3,q4] at h;cases h
   ·have d5:v72_0 k 0 (IntKind.i64.wrap ((ws.length:Int) - 1))=false:=by
     rw [wrap_in (a:=(ws.length:Int) - 1) (by omega) (by omega),v72,decide_eq_true k0,decide_eq_false (by omega:¬ k≤(ws.length:Int) - 1)]
     rfl
    have g4:decide (k<0)=false:=decide_eq_false (by omega)
    have g5:decide (k ≥ (ws.length:Int))=true:=decide_eq_true (by omega)
    simp only [d5,g4,g5]
    rfl
  ·have d5:v72_0 k 0 (IntKind.i64.wrap ((ws.length:Int) - 1))=false:=by
    rw [v72,decide_eq_false k0]
    rfl
   have g4:decide (k<0)=true:=decide_eq_true (by omega)
   simp only [d5,g4]
   rfl
structure Stp (vs rs ps ws:List AV) (s k:Int) (V R P:List AV) (X:AV):Prop where
 ws_:W68 vs rs ps ws s k=some (V,R,P,ws.set k.toNat X,s+1,true)
 bd:Bd V R P (ws.set k.toNat X)
 bv:Bv V R P (ws.set k.toNat X) (s+1)
 lv:V.length=vs.length
 fr:∀ i:Int,0≤i→i<vs.length→(fB (ws.getD k.toNat .undef) 2=false∨i<fI (ws.getD k.toNat .undef) 3∨fI (ws.getD k.toNat .undef) 4≤i)→el V i=el vs i∧el R i=el rs i
 blk:0≤v141_0 vs rs ps ws s k→fI X 8=fI (ws.getD k.toNat .undef) 8+1∧v141_0 vs rs ps ws s k<ws.length∧v141_0 vs rs ps ws s k ≠ k∧fB (ws.getD (v141_0 vs rs ps ws s k).toNat .undef) 2=true
theorem blk_run {vs rs ps ws:List AV} {s k:Int} (b:Bd vs rs ps ws) (h:Bv vs rs ps ws s) (k0:0≤k) (k1:k<ws.length) (hr:fB (ws.getD k.toNat .undef) 2=true∨(fI (ws.getD k.toNat .undef) 1 ≠ (fL (ws.getD k.toNat .undef) 0).length∧(findP ps (tg (ws.getD k.toNat .undef))).isSome=true)):q141 vs rs ps ws s k=true∧v141_0 vs rs ps ws s k = -1:=by
 have w1:=h.w1
 have w3:=h.w3
 have hx:=h.wk k k0 k1
 have d5:v72_0 k 0 (IntKind.i64.wrap ((ws.length:Int) - 1))=true:=by
  rw [wrap_in (a:=(ws.length:Int) - 1) (by omega) (by omega),v72,decide_eq_true k0,decide_eq_true (by omega:k≤(ws.length:Int) - 1)]
  rfl
 obtain ⟨b0,_,_⟩:=isB_both vs rs ps ws s b.v b.r b.p b.w b.few b.oki
 have hB:=(isB_iff b).2 h
 unfold q141 v141_0
 simp only [b0,hB,d5,decide_eq_true k0,decide_eq_true k1,Bool.and_self,Bool.not_true,cond_true,cond_false,Bool.true_and]
 cases hb:fB (ws.getD k.toNat .undef) 2 with
 | true=>exact ⟨rfl,rfl⟩
 | false =>
  rcases hr with hr|⟨hn,hf⟩
  ·rw [hb] at hr;cases hr
  ·obtain ⟨n1,v0,v1⟩:=hx.next hn
   obtain ⟨a1,_,a3⟩:=P21 vs rs ps (tg (ws.getD k.toNat .undef)) b.p
   rw [hf] at a3
   unfold tg at a1 a3
   simp only [decide_eq_false hn,decide_eq_true hx.n0,decide_eq_true n1,a1,a3,Bool.and_self,cond_true,cond_false,Bool.true_and]
   exact ⟨trivial,trivial⟩
theorem step_run {vs rs ps ws:List AV} {s k:Int} (b:Bd vs rs ps ws) (h:Bv vs rs ps ws s) (k0:0≤k) (k1:k<ws.length) (s1:s<100000) (w1:fI (ws.getD k.toNat .undef) 8<100000) (w2:fI (ws.getD k.toNat .undef) 7<100000) (hn:fI (ws.getD k.toNat .undef) 1 ≠ (fL (ws.getD k.toNat .undef) 0).length) (hr:fB (ws.getD k.toNat .undef) 2=true) :
  ∃ V R P X,Stp vs rs ps ws s k V R P X:=by
 obtain ⟨c0,c1,c2,c3,c4,c5⟩:=copyS s b.v b.r b.p b.w b.few b.can
 obtain ⟨b0,b1,b2⟩:=isB_both vs rs ps ws s b.v b.r b.p b.w b.few b.oki
 have hB:=(isB_iff b).2 h
 rw [hB] at b2
 have hc:=h.col
 have hcl:=hc.len
 have few:=col_few hc
 have n64:=hc.n64
 have hx:=h.wk k k0 k1
 obtain ⟨n1,v0,v1⟩:=hx.next hn
 have n0:=hx.n0
 have x0:=hx.s0
 have x1:=hx.t0
 have y3:=h.w3
 have y1:=h.w1
 have s0:=h.s0
 have tl:=hx.tl
 obtain ⟨q1,q2⟩:=blk_run b h k0 k1 (.inl hr)
 have d5:v72_0 k 0 (IntKind.i64.wrap ((ws.length:Int) - 1))=true:=by
  rw [wrap_in (a:=(ws.length:Int) - 1) (by omega) (by omega),v72,decide_eq_true k0,decide_eq_true (by omega:k≤(ws.length:Int) - 1)]
  rfl
 have g1:decide (s ≥ 100000)=false:=decide_eq_false (by omega)
 have g2:decide (fI (ws.getD k.toNat .undef) 8 ≥ 100000)=false:=decide_eq_false (by omega)
 have g3:decide (fI (ws.getD k.toNat .undef) 7 ≥ 100000)=false:=decide_eq_false (by omega)
 have g4:decide (k<0)=false:=decide_eq_false (by omega)
 have g5:decide (k ≥ (ws.length:Int))=false:=decide_eq_false (by omega)
 have g6:decide (s=100000)=false:=decide_eq_false (by omega)
 have g7:decide (fI (ws.getD k.toNat .undef) 8=100000)=false:=decide_eq_false (by omega)
 have g8:decide (fI (ws.getD k.toNat .undef) 7=100000)=false:=decide_eq_false (by omega)
 have g9:decide (fI (ws.getD k.toNat .undef) 1=((fL (ws.getD k.toNat .undef) 0).length:Int))=false:=decide_eq_false hn
 have dk0:decide (0≤k)=true:=decide_eq_true k0
 have dk1:decide (k<(ws.length:Int))=true:=decide_eq_true k1
 have dn0:decide (0≤fI (ws.getD k.toNat .undef) 1)=true:=decide_eq_true n0
 have dn1:decide (fI (ws.getD k.toNat .undef) 1<((fL (ws.getD k.toNat .undef) 0).length:Int))=true:=decide_eq_true n1
 have wS:IntKind.i64.wrap (s+1)=s+1:=wrap_in (by omega) (by omega)
 have wN:IntKind.i64.wrap (fI (ws.getD k.toNat .undef) 1+1)=fI (ws.getD k.toNat .undef) 1+1:=wrap_in (by omega) (by omega)
 have wW:IntKind.i64.wrap (fI (ws.getD k.toNat .undef) 7+1)=fI (ws.getD k.toNat .undef) 7+1:=wrap_in (by omega) (by omega)
 obtain ⟨_,rn⟩:=hx.run hr
 have pc:=rn.piece hc
 have p0:=pc.a0
 have p1:=pc.b1
 have r1:=rn.lo
 have r2:=rn.ij
 have r3:=rn.hi
 have wI:IntKind.i64.wrap (fI (ws.getD k.toNat .undef) 5+1)=fI (ws.getD k.toNat .undef) 5+1:=wrap_in (by omega) (by omega)
 have wJ:IntKind.i64.wrap (fI (ws.getD k.toNat .undef) 6 - 1)=fI (ws.getD k.toNat .undef) 6 - 1:=wrap_in (by omega) (by omega)
 have nob:∀ X:AV,0≤v141_0 vs rs ps ws s k→fI X 8=fI (ws.getD k.toNat .undef) 8+1∧v141_0 vs rs ps ws s k<ws.length∧v141_0 vs rs ps ws s k ≠ k∧fB (ws.getD (v141_0 vs rs ps ws s k).toNat .undef) 2=true:=fun X e=>by
  rw [q2] at e
  omega
 have apart:∀ m:Int,0≤m→m<ws.length→m ≠ k→fB (ws.getD m.toNat .undef) 2=true→¬ ovX (ws.getD m.toNat .undef) (ws.getD k.toNat .undef):=fun m m0 m1 ne hm=>h.far k0 k1 m0 m1 ne hr hm
 by_cases ij:fI (ws.getD k.toNat .undef) 5 > fI (ws.getD k.toNat .undef) 6
 ·
  have dij:decide (fI (ws.getD k.toNat .undef) 5 > fI (ws.getD k.toNat .undef) 6)=true:=decide_eq_true ij
  have hP:=rn.done hc ⟨v0,v1⟩ (by omega)
  obtain ⟨m1,m2,m3,m4,_⟩:=P103 vs rs ps (tg (ws.getD k.toNat .undef)) (fI (ws.getD k.toNat .undef) 5) b.v b.r (by omega) b.two
  rw [(isC_iff vs rs ps b.v).2 hc,(isC_iff vs rs _ b.v).2 hP] at m4
  replace m4:v103_2 vs rs ps (tg (ws.getD k.toNat .undef)) (fI (ws.getD k.toNat .undef) 5)=insP ps (tg (ws.getD k.toNat .undef)) (fI (ws.getD k.toNat .undef) 5):=m4
  have u1:=u139_6 ws k k0 k1
  rw [wN] at u1
  unfold tg at m1 m2 m3 m4
  have w:W139 k s vs rs ps ws=some (vs,rs,insP ps (tg (ws.getD k.toNat .undef)) (fI (ws.getD k.toNat .undef) 5),ws.set k.toNat (mkW (fL (ws.getD k.toNat .undef) 0) (fI (ws.getD k.toNat .undef) 1+1) false 0 0 0 0 (fI (ws.getD k.toNat .undef) 7) (fI (ws.getD k.toNat .undef) 8)),s):=by
   unfold W139 T139
   simp only [dk0,dk1,dn0,dn1,dij,m1,m2,m3,m4,u1,Bool.and_self,cond_true]
   rfl
  obtain ⟨z0,z1,z2,z3,z4,z5⟩:=g139 w
  refine ⟨vs,rs,insP ps (tg (ws.getD k.toNat .undef)) (fI (ws.getD k.toNat .undef) 5),(mkW (fL (ws.getD k.toNat .undef) 0) (fI (ws.getD k.toNat .undef) 1+1) false 0 0 0 0 (fI (ws.getD k.toNat .undef) 7) (fI (ws.getD k.toNat .undef) 8)),?_,?_,?_,rfl,fun i i0 i1 _=>⟨rfl,rfl⟩,nob _⟩
  ·unfold W68 T68
   simp only [c0,c1,c2,c3,c4,c5,b0,hB,d5,g1,g2,g3,g9,dk0,dk1,hr,z0,z1,z2,z3,z4,wS,Bool.and_self,Bool.not_true,cond_true,cond_false]
  ·exact b.set b.v b.r (by rw [insP_len];omega) (insP_N2 b.two _ _) k0 (by show (fL (ws.getD k.toNat .undef) 0).length≤_;omega) ⟨by show (0:Int)≤_;omega,by show _≤(0:Int);omega⟩ rfl
  ·refine h.set k0 k1 ⟨by omega,by omega⟩ hP ⟨tl,hx.tb,by show 0≤fI (ws.getD k.toNat .undef) 1+1;omega,by show fI (ws.getD k.toNat .undef) 1+1≤((fL (ws.getD k.toNat .undef) 0).length:Int);omega,hx.s0,hx.s1,hx.t0,hx.t1,(fun e=>by cases e),fun _=>⟨rfl,rfl,rfl,rfl⟩⟩ (fun m m0 m1' ne=>?_) (fun e=>by cases e)
   refine (h.wk m m0 m1').keep fun hm g=>rn.pivot g (fun e=>?_) _
   exact apart m m0 m1' ne hm (.inr e)
 ·have dij:decide (fI (ws.getD k.toNat .undef) 5 > fI (ws.getD k.toNat .undef) 6)=false:=decide_eq_false ij
  have di0:decide (0≤fI (ws.getD k.toNat .undef) 5)=true:=decide_eq_true (by omega)
  have di1:decide (fI (ws.getD k.toNat .undef) 5<(vs.length:Int))=true:=decide_eq_true (by omega)
  have dj0:decide (0≤fI (ws.getD k.toNat .undef) 6)=true:=decide_eq_true (by omega)
  have dj1:decide (fI (ws.getD k.toNat .undef) 6<(vs.length:Int))=true:=decide_eq_true (by omega)
  by_cases hi:el vs (fI (ws.getD k.toNat .undef) 5)<tg (ws.getD k.toNat .undef)
  ·have dhi:decide (fI (vs.getD (fI (ws.getD k.toNat .undef) 5).toNat .undef) 0<fI ((fL (ws.getD k.toNat .undef) 0).getD (fI (ws.getD k.toNat .undef) 1).toNat .undef) 0)=true:=decide_eq_true hi
   have u1:=u139_7 ws k k0 k1
   rw [wI] at u1
   have w:W139 k s vs rs ps ws=some (vs,rs,ps,ws.set k.toNat (mkW (fL (ws.getD k.toNat .undef) 0) (fI (ws.getD k.toNat .undef) 1) true (fI (ws.getD k.toNat .undef) 3) (fI (ws.getD k.toNat .undef) 4) (fI (ws.getD k.toNat .undef) 5+1) (fI (ws.getD k.toNat .undef) 6) (fI (ws.getD k.toNat .undef) 7) (fI (ws.getD k.toNat .undef) 8)),s):=by
    unfold W139 T139
    simp only [dk0,dk1,dn0,dn1,dij,di0,di1,dhi,u1,hr,Bool.and_self,cond_true,cond_false]
    rfl
   obtain ⟨z0,z1,z2,z3,z4,z5⟩:=g139 w
   refine ⟨vs,rs,ps,(mkW (fL (ws.getD k.toNat .undef) 0) (fI (ws.getD k.toNat .undef) 1) true (fI (ws.getD k.toNat .undef) 3) (fI (ws.getD k.toNat .undef) 4) (fI (ws.getD k.toNat .undef) 5+1) (fI (ws.getD k.toNat .undef) 6) (fI (ws.getD k.toNat .undef) 7) (fI (ws.getD k.toNat .undef) 8)),?_,?_,?_,rfl,fun i i0 i1 _=>⟨rfl,rfl⟩,nob _⟩
   ·unfold W68 T68
    simp only [c0,c1,c2,c3,c4,c5,b0,hB,d5,g1,g2,g3,g9,dk0,dk1,hr,z0,z1,z2,z3,z4,wS,Bool.and_self,Bool.not_true,cond_true,cond_false]
   ·exact b.set b.v b.r b.p b.two k0 (by show (fL (ws.getD k.toNat .undef) 0).length≤_;omega) ⟨by show fI (ws.getD k.toNat .undef) 5+1≤_;omega,by show _≤fI (ws.getD k.toNat .undef) 6;omega⟩ rfl
   ·refine h.set k0 k1 ⟨by omega,by omega⟩ hc ⟨tl,hx.tb,hx.n0,hx.n1,hx.s0,hx.s1,hx.t0,hx.t1,fun _=>⟨hn,rn.up (by omega) hi⟩,fun e=>by cases e⟩ (fun m m0 m1' ne=>h.wk m m0 m1') (fun _ m m0 m1' ne hm=>apart m m0 m1' ne hm)
  ·have dhi:decide (fI (vs.getD (fI (ws.getD k.toNat .undef) 5).toNat .undef) 0<fI ((fL (ws.getD k.toNat .undef) 0).getD (fI (ws.getD k.toNat .undef) 1).toNat .undef) 0)=false:=decide_eq_false hi
   by_cases hj:el vs (fI (ws.getD k.toNat .undef) 6) ≥ tg (ws.getD k.toNat .undef)
   ·have dhj:decide (fI (vs.getD (fI (ws.getD k.toNat .undef) 6).toNat .undef) 0 ≥ fI ((fL (ws.getD k.toNat .undef) 0).getD (fI (ws.getD k.toNat .undef) 1).toNat .undef) 0)=true:=decide_eq_true hj
    have u1:=u139_8 ws k k0 k1
    rw [wJ] at u1
    have w:W139 k s vs rs ps ws=some (vs,rs,ps,ws.set k.toNat (mkW (fL (ws.getD k.toNat .undef) 0) (fI (ws.getD k.toNat .undef) 1) true (fI (ws.getD k.toNat .undef) 3) (fI (ws.getD k.toNat .undef) 4) (fI (ws.getD k.toNat .undef) 5) (fI (ws.getD k.toNat .undef) 6 - 1) (fI (ws.getD k.toNat .undef) 7) (fI (ws.getD k.toNat .undef) 8)),s):=by
     unfold W139 T139
     simp only [dk0,dk1,dn0,dn1,dij,di0,di1,dj0,dj1,dhi,dhj,u1,hr,Bool.and_self,cond_true,cond_false]
     rfl
    obtain ⟨z0,z1,z2,z3,z4,z5⟩:=g139 w
    refine ⟨vs,rs,ps,(mkW (fL (ws.getD k.toNat .undef) 0) (fI (ws.getD k.toNat .undef) 1) true (fI (ws.getD k.toNat .undef) 3) (fI (ws.getD k.toNat .undef) 4) (fI (ws.getD k.toNat .undef) 5) (fI (ws.getD k.toNat .undef) 6 - 1) (fI (ws.getD k.toNat .undef) 7) (fI (ws.getD k.toNat .undef) 8)),?_,?_,?_,rfl,fun i i0 i1 _=>⟨rfl,rfl⟩,nob _⟩
    ·unfold W68 T68
     simp only [c0,c1,c2,c3,c4,c5,b0,hB,d5,g1,g2,g3,g9,dk0,dk1,hr,z0,z1,z2,z3,z4,wS,Bool.and_self,Bool.not_true,cond_true,cond_false]
    ·exact b.set b.v b.r b.p b.two k0 (by show (fL (ws.getD k.toNat .undef) 0).length≤_;omega) ⟨by show fI (ws.getD k.toNat .undef) 5≤_;omega,by show _≤fI (ws.getD k.toNat .undef) 6 - 1;omega⟩ rfl
    ·refine h.set k0 k1 ⟨by omega,by omega⟩ hc ⟨tl,hx.tb,hx.n0,hx.n1,hx.s0,hx.s1,hx.t0,hx.t1,fun _=>⟨hn,rn.down (by omega) hj⟩,fun e=>by cases e⟩ (fun m m0 m1' ne=>h.wk m m0 m1') (fun _ m m0 m1' ne hm=>apart m m0 m1' ne hm)
   ·
    have dhj:decide (fI (vs.getD (fI (ws.getD k.toNat .undef) 6).toNat .undef) 0 ≥ fI ((fL (ws.getD k.toNat .undef) 0).getD (fI (ws.getD k.toNat .undef) 1).toNat .undef) 0)=false:=decide_eq_false hj
    have u1:=u139_10 ws k k0 k1
    rw [wI,wJ,wW] at u1
    have sq1:q149 (fI (ws.getD k.toNat .undef) 5) (fI (ws.getD k.toNat .undef) 6) vs=true:=q149_in _ _ vs (by omega) (by omega) (by omega) (by omega)
    have sq2:q149 (fI (ws.getD k.toNat .undef) 5) (fI (ws.getD k.toNat .undef) 6) rs=true:=q149_in _ _ rs (by omega) (by omega) (by omega) (by omega)
    have w:W139 k s vs rs ps ws=some (v149_0 (fI (ws.getD k.toNat .undef) 5) (fI (ws.getD k.toNat .undef) 6) vs,v149_0 (fI (ws.getD k.toNat .undef) 5) (fI (ws.getD k.toNat .undef) 6) rs,ps,ws.set k.toNat (mkW (fL (ws.getD k.toNat .undef) 0) (fI (ws.getD k.toNat .undef) 1) true (fI (ws.getD k.toNat .undef) 3) (fI (ws.getD k.toNat .undef) 4) (fI (ws.getD k.toNat .undef) 5+1) (fI (ws.getD k.toNat .undef) 6 - 1) (fI (ws.getD k.toNat .undef) 7+1) (fI (ws.getD k.toNat .undef) 8)),s):=by
     unfold W139 T139
     simp only [dk0,dk1,dn0,dn1,dij,di0,di1,dj0,dj1,dhi,dhj,sq1,sq2,u1,hr,Bool.and_self,cond_true,cond_false]
     rfl
    obtain ⟨z0,z1,z2,z3,z4,z5⟩:=g139 w
    have out:∀ (xs:List AV) (i:Int),xs.length=vs.length→0≤i→(i<fI (ws.getD k.toNat .undef) 3∨fI (ws.getD k.toNat .undef) 4≤i)→el (v149_0 (fI (ws.getD k.toNat .undef) 5) (fI (ws.getD k.toNat .undef) 6) xs) i=el xs i:=fun xs i hl i0 ho=>by
     rw [el_sw xs _ _ i (by omega) (by omega) (by omega) (by omega) i0,if_neg (by omega),if_neg (by omega)]
    refine ⟨v149_0 (fI (ws.getD k.toNat .undef) 5) (fI (ws.getD k.toNat .undef) 6) vs,v149_0 (fI (ws.getD k.toNat .undef) 5) (fI (ws.getD k.toNat .undef) 6) rs,ps,(mkW (fL (ws.getD k.toNat .undef) 0) (fI (ws.getD k.toNat .undef) 1) true (fI (ws.getD k.toNat .undef) 3) (fI (ws.getD k.toNat .undef) 4) (fI (ws.getD k.toNat .undef) 5+1) (fI (ws.getD k.toNat .undef) 6 - 1) (fI (ws.getD k.toNat .undef) 7+1) (fI (ws.getD k.toNat .undef) 8)),?_,?_,?_,sw_len ..,fun i i0 i1 ho=>?_,nob _⟩
    ·unfold W68 T68
     simp only [c0,c1,c2,c3,c4,c5,b0,hB,d5,g1,g2,g3,g9,dk0,dk1,hr,z0,z1,z2,z3,z4,wS,Bool.and_self,Bool.not_true,cond_true,cond_false]
    ·exact b.set (by rw [sw_len];exact b.v) (by rw [sw_len];exact b.r) b.p b.two k0 (by show (fL (ws.getD k.toNat .undef) 0).length≤_;omega) ⟨by show fI (ws.getD k.toNat .undef) 5+1≤_;omega,by show _≤fI (ws.getD k.toNat .undef) 6 - 1;omega⟩ rfl
    ·refine h.set k0 k1 ⟨by omega,by omega⟩ (hc.sw p0 p1 pc.cut (by omega) (by omega) (by omega) (by omega)) ⟨tl,hx.tb,hx.n0,hx.n1,by show 0≤fI (ws.getD k.toNat .undef) 7+1;omega,by show fI (ws.getD k.toNat .undef) 7+1≤100000;omega,hx.t0,hx.t1,fun _=>⟨hn,rn.swap hc (by omega) (Int.not_lt.1 hi) (Int.not_le.1 hj)⟩,fun e=>by cases e⟩ (fun m m0 m1' ne=>?_) (fun _ m m0 m1' ne hm=>apart m m0 m1' ne hm)
     refine (h.wk m m0 m1').keep fun hm g=>g.keep (sw_len ..) fun z z0' z1'=>?_
     have P':=g.piece hc
     have:=P'.a0
     have na:=apart m m0 m1' ne hm
     unfold ovX at na
     exact out vs z rfl (by omega) (by omega)
    ·rcases ho with ho|ho
     ·rw [hr] at ho;cases ho
     ·exact ⟨out vs i rfl i0 ho,out rs i (by omega) i0 ho⟩
theorem step_stop {vs rs ps ws:List AV} {s k:Int} (b:Bd vs rs ps ws) (h:Bv vs rs ps ws s) (k0:0≤k) (k1:k<ws.length) (s1:s<100000) (w1:fI (ws.getD k.toNat .undef) 8<100000) (w2:fI (ws.getD k.toNat .undef) 7<100000) (hn:fI (ws.getD k.toNat .undef) 1 ≠ (fL (ws.getD k.toNat .undef) 0).length) (hr:fB (ws.getD k.toNat .undef) 2=false) :
  ∃ V R P X,Stp vs rs ps ws s k V R P X:=by
 obtain ⟨c0,c1,c2,c3,c4,c5⟩:=copyS s b.v b.r b.p b.w b.few b.can
 obtain ⟨b0,b1,b2⟩:=isB_both vs rs ps ws s b.v b.r b.p b.w b.few b.oki
 have hB:=(isB_iff b).2 h
 rw [hB] at b2
 have hc:=h.col
 have n64:=hc.n64
 have hx:=h.wk k k0 k1
 obtain ⟨n1,v0,v1⟩:=hx.next hn
 have n0:=hx.n0
 have x0:=hx.s0
 have x1:=hx.t0
 have y3:=h.w3
 have y1:=h.w1
 have s0:=h.s0
 have tl:=hx.tl
 obtain ⟨st3,st4,st5,st6⟩:=hx.stop hr
 have d5:v72_0 k 0 (IntKind.i64.wrap ((ws.length:Int) - 1))=true:=by
  rw [wrap_in (a:=(ws.length:Int) - 1) (by omega) (by omega),v72,decide_eq_true k0,decide_eq_true (by omega:k≤(ws.length:Int) - 1)]
  rfl
 have g1:decide (s ≥ 100000)=false:=decide_eq_false (by omega)
 have g2:decide (fI (ws.getD k.toNat .undef) 8 ≥ 100000)=false:=decide_eq_false (by omega)
 have g3:decide (fI (ws.getD k.toNat .undef) 7 ≥ 100000)=false:=decide_eq_false (by omega)
 have g4:decide (k<0)=false:=decide_eq_false (by omega)
 have g5:decide (k ≥ (ws.length:Int))=false:=decide_eq_false (by omega)
 have g6:decide (s=100000)=false:=decide_eq_false (by omega)
 have g7:decide (fI (ws.getD k.toNat .undef) 8=100000)=false:=decide_eq_false (by omega)
 have g8:decide (fI (ws.getD k.toNat .undef) 7=100000)=false:=decide_eq_false (by omega)
 have g9:decide (fI (ws.getD k.toNat .undef) 1=((fL (ws.getD k.toNat .undef) 0).length:Int))=false:=decide_eq_false hn
 have dk0:decide (0≤k)=true:=decide_eq_true k0
 have dk1:decide (k<(ws.length:Int))=true:=decide_eq_true k1
 have dn0:decide (0≤fI (ws.getD k.toNat .undef) 1)=true:=decide_eq_true n0
 have dn1:decide (fI (ws.getD k.toNat .undef) 1<((fL (ws.getD k.toNat .undef) 0).length:Int))=true:=decide_eq_true n1
 have wS:IntKind.i64.wrap (s+1)=s+1:=wrap_in (by omega) (by omega)
 have wN:IntKind.i64.wrap (fI (ws.getD k.toNat .undef) 1+1)=fI (ws.getD k.toNat .undef) 1+1:=wrap_in (by omega) (by omega)
 have wW:IntKind.i64.wrap (fI (ws.getD k.toNat .undef) 8+1)=fI (ws.getD k.toNat .undef) 8+1:=wrap_in (by omega) (by omega)
 obtain ⟨a1,_,a3⟩:=P21 vs rs ps (tg (ws.getD k.toNat .undef)) b.p
 cases hf:(findP ps (tg (ws.getD k.toNat .undef))).isSome with
 | true =>
  rw [hf] at a3
  obtain ⟨q1,q2⟩:=blk_run b h k0 k1 (.inr ⟨hn,hf⟩)
  unfold tg at a1 a3
  have u1:=u140_1 ws k k0 k1
  rw [wN] at u1
  have dq:decide ((-1:Int) ≥ 0)=false:=rfl
  have w:W140 k false s vs rs ps ws=some (vs,rs,ps,ws.set k.toNat (mkW (fL (ws.getD k.toNat .undef) 0) (fI (ws.getD k.toNat .undef) 1+1) false (fI (ws.getD k.toNat .undef) 3) (fI (ws.getD k.toNat .undef) 4) (fI (ws.getD k.toNat .undef) 5) (fI (ws.getD k.toNat .undef) 6) (fI (ws.getD k.toNat .undef) 7) (fI (ws.getD k.toNat .undef) 8)),s):=by
   unfold W140 T140
   simp only [dk0,dk1,dn0,dn1,a1,a3,u1,hr,Bool.and_self,cond_true]
   rfl
  obtain ⟨z0,z1,z2,z3,z4,z5⟩:=g140 w
  refine ⟨vs,rs,ps,(mkW (fL (ws.getD k.toNat .undef) 0) (fI (ws.getD k.toNat .undef) 1+1) false (fI (ws.getD k.toNat .undef) 3) (fI (ws.getD k.toNat .undef) 4) (fI (ws.getD k.toNat .undef) 5) (fI (ws.getD k.toNat .undef) 6) (fI (ws.getD k.toNat .undef) 7) (fI (ws.getD k.toNat .undef) 8)),?_,?_,?_,rfl,fun i i0 i1 _=>⟨rfl,rfl⟩,fun e=>by rw [q2] at e;omega⟩
  ·unfold W68 T68
   simp only [c0,c1,c2,c3,c4,c5,b0,hB,d5,g1,g2,g3,g9,dk0,dk1,hr,q1,q2,dq,z0,z1,z2,z3,z4,wS,Bool.and_self,Bool.not_true,cond_true,cond_false]
  ·exact b.set b.v b.r b.p b.two k0 (by show (fL (ws.getD k.toNat .undef) 0).length≤_;omega) ⟨by show fI (ws.getD k.toNat .undef) 5≤_;omega,by show _≤fI (ws.getD k.toNat .undef) 6;omega⟩ rfl
  ·exact h.set k0 k1 ⟨by omega,by omega⟩ hc ⟨tl,hx.tb,by show 0≤fI (ws.getD k.toNat .undef) 1+1;omega,by show fI (ws.getD k.toNat .undef) 1+1≤((fL (ws.getD k.toNat .undef) 0).length:Int);omega,hx.s0,hx.s1,hx.t0,hx.t1,(fun e=>by cases e),fun _=>⟨st3,st4,st5,st6⟩⟩ (fun m m0 m1' ne=>h.wk m m0 m1') (fun e=>by cases e)
 | false =>
  rw [hf] at a3
  obtain ⟨q1,q2⟩:=blkE b h k0 k1 hr hn hf
  by_cases hb:0≤blkF vs ps ws k
  ·have db:decide (blkF vs ps ws k ≥ 0)=true:=decide_eq_true hb
   unfold tg at a1 a3
   have u1:=u140_2 ws k k0 k1
   rw [wW] at u1
   have w:W140 k true s vs rs ps ws=some (vs,rs,ps,ws.set k.toNat (mkW (fL (ws.getD k.toNat .undef) 0) (fI (ws.getD k.toNat .undef) 1) false (fI (ws.getD k.toNat .undef) 3) (fI (ws.getD k.toNat .undef) 4) (fI (ws.getD k.toNat .undef) 5) (fI (ws.getD k.toNat .undef) 6) (fI (ws.getD k.toNat .undef) 7) (fI (ws.getD k.toNat .undef) 8+1)),s):=by
    unfold W140 T140
    simp only [dk0,dk1,dn0,dn1,a1,a3,u1,hr,Bool.and_self,cond_true,cond_false]
    rfl
   obtain ⟨z0,z1,z2,z3,z4,z5⟩:=g140 w
   refine ⟨vs,rs,ps,(mkW (fL (ws.getD k.toNat .undef) 0) (fI (ws.getD k.toNat .undef) 1) false (fI (ws.getD k.toNat .undef) 3) (fI (ws.getD k.toNat .undef) 4) (fI (ws.getD k.toNat .undef) 5) (fI (ws.getD k.toNat .undef) 6) (fI (ws.getD k.toNat .undef) 7) (fI (ws.getD k.toNat .undef) 8+1)),?_,?_,?_,rfl,fun i i0 i1 _=>⟨rfl,rfl⟩,fun e=>?_⟩
   ·unfold W68 T68
    simp only [c0,c1,c2,c3,c4,c5,b0,hB,d5,g1,g2,g3,g9,dk0,dk1,hr,q1,q2,db,z0,z1,z2,z3,z4,wS,Bool.and_self,Bool.not_true,cond_true,cond_false]
   ·exact b.set b.v b.r b.p b.two k0 (by show (fL (ws.getD k.toNat .undef) 0).length≤_;omega) ⟨by show fI (ws.getD k.toNat .undef) 5≤_;omega,by show _≤fI (ws.getD k.toNat .undef) 6;omega⟩ rfl
   ·exact h.set k0 k1 ⟨by omega,by omega⟩ hc ⟨tl,hx.tb,hx.n0,hx.n1,hx.s0,hx.s1,by show 0≤fI (ws.getD k.toNat .undef) 8+1;omega,by show fI (ws.getD k.toNat .undef) 8+1≤100000;omega,(fun e=>by cases e),fun _=>⟨st3,st4,st5,st6⟩⟩ (fun m m0 m1' ne=>h.wk m m0 m1') (fun e=>by cases e)
   ·rw [q2]
    exact ⟨rfl,blkF_some hb⟩
  ·have db:decide (blkF vs ps ws k ≥ 0)=false:=decide_eq_false hb
   have free:=blkF_none (vs:=vs) (ps:=ps) (ws:=ws) (k:=k) (by omega)
   have pc:=pc_of hc hf
   have pp:=piece_of hc pc
   change Piece vs ps _ (pA ps _) (pB vs ps _) at pp
   obtain ⟨f1,f2⟩:=P101b hc b.p v0 v1
   obtain ⟨f3,f4⟩:=f2 hf
   have pa:=pp.a0
   have pb:=pp.ab
   have pl:=pp.b1
   have wB:IntKind.i64.wrap (pB vs ps (tg (ws.getD k.toNat .undef)) - 1)=pB vs ps (tg (ws.getD k.toNat .undef)) - 1:=wrap_in (by omega) (by omega)
   have u1:=u140_7 ws k vs rs ps k0 k1
   change v101_0 vs rs ps (fI ((fL (ws.getD k.toNat .undef) 0).getD (fI (ws.getD k.toNat .undef) 1).toNat .undef) 0)=_ at f3
   change v101_1 vs rs ps (fI ((fL (ws.getD k.toNat .undef) 0).getD (fI (ws.getD k.toNat .undef) 1).toNat .undef) 0)=_ at f4
   change q101 vs rs ps (fI ((fL (ws.getD k.toNat .undef) 0).getD (fI (ws.getD k.toNat .undef) 1).toNat .undef) 0)=_ at f1
   rw [f3,f4,wB] at u1
   unfold tg at a1 a3
   have w:W140 k false s vs rs ps ws=some (vs,rs,ps,ws.set k.toNat (mkW (fL (ws.getD k.toNat .undef) 0) (fI (ws.getD k.toNat .undef) 1) true (pA ps (tg (ws.getD k.toNat .undef))) (pB vs ps (tg (ws.getD k.toNat .undef))) (pA ps (tg (ws.getD k.toNat .undef))) (pB vs ps (tg (ws.getD k.toNat .undef)) - 1) (fI (ws.getD k.toNat .undef) 7) (fI (ws.getD k.toNat .undef) 8)),s):=by
    unfold W140 T140
    simp only [dk0,dk1,dn0,dn1,a1,a3,f1,u1,Bool.and_self,cond_true,cond_false]
    rfl
   obtain ⟨z0,z1,z2,z3,z4,z5⟩:=g140 w
   refine ⟨vs,rs,ps,(mkW (fL (ws.getD k.toNat .undef) 0) (fI (ws.getD k.toNat .undef) 1) true (pA ps (tg (ws.getD k.toNat .undef))) (pB vs ps (tg (ws.getD k.toNat .undef))) (pA ps (tg (ws.getD k.toNat .undef))) (pB vs ps (tg (ws.getD k.toNat .undef)) - 1) (fI (ws.getD k.toNat .undef) 7) (fI (ws.getD k.toNat .undef) 8)),?_,?_,?_,rfl,fun i i0 i1 _=>⟨rfl,rfl⟩,fun e=>by rw [q2] at e;omega⟩
   ·unfold W68 T68
    simp only [c0,c1,c2,c3,c4,c5,b0,hB,d5,g1,g2,g3,g9,dk0,dk1,hr,q1,q2,db,z0,z1,z2,z3,z4,wS,Bool.and_self,Bool.not_true,cond_true,cond_false]
   ·exact b.set b.v b.r b.p b.two k0 (by show (fL (ws.getD k.toNat .undef) 0).length≤_;omega) ⟨by show pA ps (tg (ws.getD k.toNat .undef))≤_;omega,by show _≤pB vs ps (tg (ws.getD k.toNat .undef)) - 1;omega⟩ rfl
   ·refine h.set k0 k1 ⟨by omega,by omega⟩ hc ⟨tl,hx.tb,hx.n0,hx.n1,hx.s0,hx.s1,hx.t0,hx.t1,fun _=>⟨hn,hf,rfl,rfl,Int.le_refl _,by show pA ps (tg (ws.getD k.toNat .undef))≤pB vs ps (tg (ws.getD k.toNat .undef)) - 1+1;omega,by show pB vs ps (tg (ws.getD k.toNat .undef)) - 1<pB vs ps (tg (ws.getD k.toNat .undef));omega,fun z z0' _ z2'=>?_,fun z _ z1' z2'=>?_⟩,fun e=>by cases e⟩ (fun m m0 m1' ne=>h.wk m m0 m1') (fun _ m m0 m1' ne hm ho=>?_)
    ·exact absurd z2' (by have:pA ps (tg (ws.getD k.toNat .undef))≤z:=z0';show ¬ z<pA ps (tg (ws.getD k.toNat .undef));omega)
    ·exact absurd z2' (by have:z<pB vs ps (tg (ws.getD k.toNat .undef)):=z1';show ¬ pB vs ps (tg (ws.getD k.toNat .undef)) - 1<z;omega)
    ·have:=(ovS_iff ws (pA ps (tg (ws.getD k.toNat .undef))) (pB vs ps (tg (ws.getD k.toNat .undef))) m).2 ⟨hm,ho⟩
     rw [free m m0 m1' ne] at this
     cases this
theorem step_yes {vs rs ps ws:List AV} (b:Bd vs rs ps ws) (s k:Int) (h:okB vs rs ps ws s k=true):Bv vs rs ps ws s∧0≤k∧k<ws.length∧∃ V R P X,Stp vs rs ps ws s k V R P X:=by
 unfold okB at h
 simp only [Bool.and_eq_true,Bool.not_eq_true',decide_eq_true_eq,decide_eq_false_iff_not] at h
 obtain ⟨hB,k0,k1,s1,w1,w2,hn⟩:=h
 have B:=(isB_iff b).1 hB
 have hx:=B.wk k k0 k1
 have a:=B.s1
 have c:=hx.s1
 have d:=hx.t1
 refine ⟨B,k0,k1,?_⟩
 cases hr:fB (ws.getD k.toNat .undef) 2 with
 | true=>exact step_run b B k0 k1 (by omega) (by omega) (by omega) hn hr
 | false=>exact step_stop b B k0 k1 (by omega) (by omega) (by omega) hn hr
end Go.Proofs.YtealoedecngaoaaGreatDoor

namespace Go.Proofs.YtealoedecngaoaaGreatDoor
open Go Go.Proofs.VE
set_option linter.unusedVariables false
set_option linter.unusedSimpArgs false
theorem P111g (vs rs ps:List AV) (v:Int) (h1:vs.length≤1048576) (h2:rs.length≤1048576) (h3:ps.length≤1048576) (hN:N2 ps) :
  q111 vs rs ps v=true∧(v111_0 vs rs ps v).length=vs.length∧(v111_1 vs rs ps v).length=rs.length∧((v111_2 vs rs ps v).length≤ps.length∨(v111_2 vs rs ps v).length≤2001)∧N2 (v111_2 vs rs ps v):=by
 obtain ⟨m1,m2⟩:=P71 vs rs ps h1 h2 h3
 obtain ⟨c0,c1,c2,c3⟩:=P138 vs rs ps h1 h2 h3
 cases hc:isC vs rs ps with
 | false =>
  unfold q111 v111_0 v111_1 v111_2
  rw [m1,m2,c0,c1,c2,c3,hc]
  exact ⟨rfl,rfl,rfl,.inl (Nat.le_refl _),hN⟩
 | true =>
  cases hb:v72_0 v (-1000) 1000 with
  | false =>
   unfold q111 v111_0 v111_1 v111_2
   rw [m1,m2,c0,c1,c2,c3,hc,hb]
   exact ⟨rfl,rfl,rfl,.inl (Nat.le_refl _),hN⟩
  | true =>
   rw [v72,Bool.and_eq_true,decide_eq_true_eq,decide_eq_true_eq] at hb
   have hcol:=(isC_iff vs rs ps h1).1 hc
   cases hf:(findP ps v).isSome with
   | true =>
    obtain ⟨e0,e1,e2,e3,_⟩:=crack_oldS hcol hb hf
    rw [e0,e1,e2,e3]
    exact ⟨rfl,rfl,rfl,.inl (Nat.le_refl _),hN⟩
   | false =>
    obtain ⟨a,b,at_,ss,hcr⟩:=crack_newS hcol hN hb hf
    obtain ⟨e0,e1,e2,e3,_⟩:=hcr.c
    rw [e0,e1,e2,e3]
    exact ⟨rfl,appS_len _ _,appS_len _ _,.inr (col_few hcr.ok),hcr.n2⟩
def Cur (b:List AV) (i:Int):Prop:=0≤i∧i≤b.length∧b.length≤1048576
theorem and255 (x:Int):0≤IntKind.i64.wrap ((BitVec.ofInt 64 x &&& BitVec.ofInt 64 255).toNat:Int)∧IntKind.i64.wrap ((BitVec.ofInt 64 x &&& BitVec.ofInt 64 255).toNat:Int)≤255:=by
 have h:(BitVec.ofInt 64 x &&& BitVec.ofInt 64 255).toNat≤255:=by
  rw [BitVec.toNat_and]
  exact Nat.and_le_right
 rw [wrap_in (by omega) (by omega)]
 omega
theorem byte {b:List AV} {i:Int} (hc:Cur b i) (h:Int):q182 b i h=true∧(0≤v182_0 b i h∧v182_0 b i h≤255)∧Cur b (v182_2 b i h):=by
 obtain ⟨h0,h1,h2⟩:=hc
 unfold q182 v182_0 v182_2
 rw [hid_eq,hid_eq]
 by_cases c:i<b.length
 ·rw [decide_eq_true c,decide_eq_true h0]
  simp only [cond_true]
  refine ⟨rfl,and255 _,?_⟩
  rw [wrap_in (by omega) (by omega)]
  exact ⟨by omega,by omega,h2⟩
 ·rw [decide_eq_false c]
  simp only [cond_false]
  exact ⟨trivial,and255 _,h0,h1,h2⟩
theorem tmod_in {x n:Int} (x0:0≤x) (n0:0<n):0≤Int.tmod x n∧Int.tmod x n<n:=⟨Int.tmod_nonneg _ x0,Int.tmod_lt_of_pos _ n0⟩
theorem four {x y z w:Int} (hx:0≤x∧x≤255) (hy:0≤y∧y≤255) (hz:0≤z∧z≤255) (hw:0≤w∧w≤255):0≤IntKind.i64.wrap (IntKind.i64.wrap (IntKind.i64.wrap (IntKind.i64.wrap (x*16777216)+IntKind.i64.wrap (y*65536))+IntKind.i64.wrap (z*256))+w):=by
 rw [wrap_in (a:=x*16777216) (by omega) (by omega),wrap_in (a:=y*65536) (by omega) (by omega),wrap_in (a:=z*256) (by omega) (by omega),wrap_in (a:=x*16777216+y*65536) (by omega) (by omega),wrap_in (a:=x*16777216+y*65536+z*256) (by omega) (by omega),wrap_in (by omega) (by omega)]
 omega
theorem below {b:List AV} {i:Int} (hc:Cur b i) (h:Int) {n:Int} (n0:0<n):∃ x i' h',q131 n b i h=true∧v131_0 n b i h=x∧v131_1 n b i h=b∧v131_2 n b i h=i'∧v131_3 n b i h=h'∧0≤x∧x<n∧Cur b i':=by
 obtain ⟨x0,x1,x2⟩:=byte hc h
 obtain ⟨y0,y1,y2⟩:=byte x2 (v182_3 b i h)
 obtain ⟨z0,z1,z2⟩:=byte y2 (v182_3 b (v182_2 b i h) (v182_3 b i h))
 obtain ⟨w0,w1,w2⟩:=byte z2 (v182_3 b (v182_2 b (v182_2 b i h) (v182_3 b i h)) (v182_3 b (v182_2 b i h) (v182_3 b i h)))
 have d1:decide (n≤0)=false:=decide_eq_false (by omega)
 have d2:decide (n=0)=false:=decide_eq_false (by omega)
 refine ⟨_,_,_,?_,rfl,?_,rfl,rfl,?_⟩
 ·unfold q131
  simp only [v182_1]
  rw [d1,d2,x0,y0,z0,w0]
  cases decide (n≤256) <;> rfl
 ·unfold v131_1
  first|rfl|(rw [hid_eq];simp only [v182_1];cases decide (n≤0) <;> cases decide (n≤256) <;> rfl)|(simp only [v182_1];cases decide (n≤0) <;> cases decide (n≤256) <;> rfl)
 ·unfold v131_0 v131_2
  rw [hid_eq,hid_eq]
  simp only [v182_1]
  rw [d1]
  simp only [cond_false]
  by_cases c:n≤256
  ·rw [decide_eq_true c]
   simp only [cond_true]
   exact ⟨(tmod_in x1.1 n0).1,(tmod_in x1.1 n0).2,x2⟩
  ·rw [decide_eq_false c]
   simp only [cond_false]
   exact ⟨(tmod_in (four x1 y1 z1 w1) n0).1,(tmod_in (four x1 y1 z1 w1) n0).2,w2⟩
theorem inL {L:List AV} {x:Int} (x0:0≤x) (x1:x<(L.length:Int)):(decide (0≤x) && decide (x<(L.length:Int)))=true:=by
 rw [decide_eq_true x0,decide_eq_true x1];rfl
theorem rm8 (L:List AV) (y:AV) (h:L.length≤2000000):(decide ((L.length+[y].length)*8≤140737488355328) && decide (L.length+[y].length≤140737488355328))=true:=by
 simp only [List.length_singleton,Bool.and_eq_true,decide_eq_true_eq]
 omega
theorem rm16 (L:List AV) (y:AV) (h:L.length≤2000000):(decide ((L.length+[y].length)*16≤140737488355328) && decide (L.length+[y].length≤140737488355328))=true:=by
 simp only [List.length_singleton,Bool.and_eq_true,decide_eq_true_eq]
 omega
theorem wrap1 {t:Int} (h:0<t) (h':t≤9223372036854775807):IntKind.i64.wrap (t - 1)=t - 1:=wrap_in (by omega) (by omega)
theorem wide_pos {x:Int} (h:∃ j:Nat,j<([AV.int .i64 3,AV.int .i64 10,AV.int .i64 30,AV.int .i64 1000]:List AV).length∧x=fI (([AV.int .i64 3,AV.int .i64 10,AV.int .i64 30,AV.int .i64 1000]:List AV).getD j .undef) 0):0<x:=by
 obtain ⟨j,hj,rfl⟩:=h
 have:j<4:=hj
 obtain rfl|rfl|rfl|rfl:j=0∨j=1∨j=2∨j=3:=by omega
 all_goals decide
theorem pick {b:List AV} {i:Int} (hc:Cur b i) (h:Int) {L:List AV} (L0:0<L.length):∃ x i' h',W132 b i h L=some (x,b,i',h',L)∧Cur b i'∧∃ j:Nat,j<L.length∧x=fI (L.getD j .undef) 0:=by
 obtain ⟨x,i1,h1,a0,a1,a2,a3,a4,x0,x1,c1⟩:=below hc h (n:=(L.length:Int)) (by omega)
 unfold W132 T132
 simp only [a0,a1,a2,a3,a4,inL x0 x1,cond_true]
 exact ⟨_,_,_,rfl,c1,x.toNat,by omega,rfl⟩
theorem once {b:List AV} {i:Int} (hc:Cur b i) (h:Int) {n:Int} (n0:0<n):∃ o i' h',W119 n b i h=some (o,b,i',h')∧Cur b i':=by
 obtain ⟨x,i1,h1,a0,a1,a2,a3,a4,x0,x1,c1⟩:=below hc h n0
 unfold W119 T119
 simp only [a0,a1,a2,a3,a4,cond_true]
 exact ⟨_,_,_,rfl,c1⟩
theorem values {b:List AV} {i:Int} (hc:Cur b i) (h:Int) {M:Int} (m0:0≤M) (m1:M≤100):∃ xs i' h',W91 M b i h=some (xs,b,i',h')∧xs.length≤100∧Cur b i':=by
 obtain ⟨w,i1,h1,hW,c1,hw⟩:=pick hc h (L:=[AV.int .i64 3,AV.int .i64 10,AV.int .i64 30,AV.int .i64 1000]) (by decide)
 obtain ⟨a0,a1,a2,a3,a4,_⟩:=g132 hW
 have pos:=wide_pos hw
 have wM:IntKind.i64.wrap (M+1)=M+1:=wrap_in (by omega) (by omega)
 obtain ⟨m,i2,h2,b0,b1,b2,b3,b4,n0,n1,c2⟩:=below c1 h1 (n:=M+1) (by omega)
 obtain ⟨r,r1,r2,r3,r4⟩:=runW_ends (f:=R91_0 w) (fun s:Int × List AV × List AV × Int × Int=>0≤s.1∧s.2.1.length+s.1=m∧s.2.2.1=b∧Cur b s.2.2.2.1) (fun r=>r.1.length≤100∧r.2.1=b∧Cur b r.2.2.1) (fun s=>s.1.toNat) (fun s hI=>by
   obtain ⟨t,L,b',k,g⟩:=s
   obtain ⟨t0,tl,rfl,hk⟩:=hI
   simp only at t0 tl hk
   by_cases ct:t > 0
   ·obtain ⟨y,k1,g1,e0,e1,e2,e3,e4,_,_,hk1⟩:=below hk g pos
    have d1:decide (t > 0)=true:=decide_eq_true ct
    have d3:(!decide ((3:Int)=0))=true:=rfl
    refine .inl ⟨(t - 1,L++[AV.int .i64 (IntKind.i64.wrap (y - IntKind.i64.wrap (Int.tdiv w 3)))],b',k1,g1),?_,⟨by simp only;omega,by simp only [List.length_append,List.length_singleton];omega,rfl,hk1⟩,by simp only;omega⟩
    show F91_0 w t L b' k g=_
    unfold F91_0 G91_0
    simp only [d1,d3,e0,e1,e2,e3,e4,rm8 L _ (by omega),wrap1 ct (by omega),cond_true] <;> rfl
   ·have d1:decide (t > 0)=false:=decide_eq_false ct
    refine .inr ⟨(L,b',k,g),?_,by simp only;omega,rfl,hk⟩
    show F91_0 w t L b' k g=_
    unfold F91_0 G91_0
    simp only [d1,cond_false]) ((m - 0).toNat+1) (m,[],b,i2,h2) ⟨n0,by simp,rfl,c2⟩ (by simp only;omega)
 obtain ⟨xs,b',i3,h3⟩:=r
 simp only at r2 r3 r4
 subst r3
 unfold W91 T91
 simp only [a0,a1,a2,a3,a4,wM,b0,b1,b2,b3,b4,r1,cond_true,ro]
 exact ⟨_,_,_,rfl,r2,r4⟩
theorem value {b:List AV} {i:Int} (hc:Cur b i) (h:Int) {x:List AV} (hx:x.length≤1048576) (y z:List AV):∃ v i' h',W109 b i h x y z=some (v,b,i',h',x,y,z)∧Cur b i':=by
 have six:0<[AV.int .i64 0,AV.int .i64 3,AV.int .i64 (-2),AV.int .i64 (-1000),AV.int .i64 1000,AV.int .i64 50].length:=by decide
 unfold W109 T109
 by_cases c:(x.length:Int) > 0
 ·obtain ⟨o,i1,h1,hW,c1⟩:=once hc h (n:=4) (by decide)
  obtain ⟨a0,a1,a2,a3,a4⟩:=g119 hW
  obtain ⟨u,i2,h2,hW2,c2,_⟩:=pick c1 h1 six
  obtain ⟨e0,e1,e2,e3,e4,e5⟩:=g132 hW2
  obtain ⟨p,i3,h3,b0,b1,b2,b3,b4,p0,p1,c3⟩:=below c1 h1 (n:=(x.length:Int)) (by omega)
  obtain ⟨r,i4,h4,f0,f1,f2,f3,f4,r0,r1,c4⟩:=below c3 h3 (n:=3) (by decide)
  simp only [decide_eq_true c,a0,a1,a2,a3,a4,e0,e1,e2,e3,e4,b0,b1,b2,b3,b4,f0,f1,f2,f3,f4,inL p0 p1,cond_true]
  cases o with
  | true=>exact ⟨_,_,_,rfl,c2⟩
  | false=>exact ⟨_,_,_,rfl,c4⟩
 ·obtain ⟨u,i2,h2,hW2,c2,_⟩:=pick hc h six
  obtain ⟨e0,e1,e2,e3,e4,e5⟩:=g132 hW2
  simp only [decide_eq_false c,e0,e1,e2,e3,e4,cond_true,cond_false]
  exact ⟨_,_,_,rfl,c2⟩
theorem crkr {b:List AV} {i:Int} (hc:Cur b i) (h:Int):∃ V R P i' h',W151 b i h=some (V,R,P,b,i',h')∧V.length≤100∧R.length≤100∧P.length≤2001∧N2 P∧Cur b i':=by
 obtain ⟨xs,i1,h1,hW,hl,c1⟩:=values hc h (M:=14) (by decide) (by decide)
 obtain ⟨a0,a1,a2,a3,a4⟩:=g91 hW
 obtain ⟨n1,n2,n3,n4⟩:=P99 xs (by omega)
 have l0:(v99_0 xs).length≤100:=by
  rw [n2];cases v100_0 xs
  ·simp
  ·exact hl
 have l1:(v99_1 xs).length≤100:=by
  rw [n3];cases v100_0 xs
  ·simp
  ·simp only [cond_true];rw [rows_len];exact hl
 obtain ⟨m,i2,h2,b0,b1,b2,b3,b4,m0,m1,c2⟩:=below c1 h1 (n:=5) (by decide)
 generalize hV0:v99_0 xs=V at *
 generalize hU0:v99_1 xs=U at *
 obtain ⟨r,r1,r2⟩:=runW_ends (f:=R151_0) (fun s:Int × List AV × List AV × List AV × List AV × Int × Int=>0≤s.1∧s.1≤5∧s.2.1.length≤100∧s.2.2.1.length≤100∧s.2.2.2.1.length≤2001∧N2 s.2.2.2.1∧s.2.2.2.2.1=b∧Cur b s.2.2.2.2.2.1) (fun r=>r.1.length≤100∧r.2.1.length≤100∧r.2.2.1.length≤2001∧N2 r.2.2.1∧r.2.2.2.1=b∧Cur b r.2.2.2.2.1) (fun s=>s.1.toNat) (fun s hI=>by
   obtain ⟨t,X,Y,Z,b',k,g⟩:=s
   obtain ⟨t0,t5,hX,hY,hZ,hN,rfl,hk⟩:=hI
   simp only at t0 t5 hX hY hZ hN hk
   by_cases ct:t > 0
   ·obtain ⟨v,k1,g1,hV,hk1⟩:=value hk g (x:=X) (by omega) Y Z
    obtain ⟨e0,e1,e2,e3,e4,e5,e6,e7⟩:=g109 hV
    obtain ⟨f0,f1,f2,f3,f4⟩:=P111g X Y Z v (by omega) (by omega) (by omega) hN
    refine .inl ⟨(t - 1,v111_0 X Y Z v,v111_1 X Y Z v,v111_2 X Y Z v,b',k1,g1),?_,⟨by simp only;omega,by simp only;omega,by simp only;omega,by simp only;omega,by simp only;omega,f4,rfl,hk1⟩,by simp only;omega⟩
    show F151_0 t X Y Z b' k g=_
    unfold F151_0 G151_0
    simp only [decide_eq_true ct,e0,e1,e2,e3,e4,e5,e6,e7,f0,wrap1 ct (by omega),cond_true]
   ·refine .inr ⟨(X,Y,Z,b',k,g),?_,hX,hY,hZ,hN,rfl,hk⟩
    show F151_0 t X Y Z b' k g=_
    unfold F151_0 G151_0
    simp only [decide_eq_false ct,cond_false]) ((m - 0).toNat+1) (m,V,U,[],b,i2,h2) ⟨m0,by simp only;omega,l0,l1,by simp,N2_nil,rfl,c2⟩ (by simp only;omega)
 obtain ⟨V',R',P',b',i3,h3⟩:=r
 obtain ⟨g1,g2,g3,g4,g5,g6⟩:=r2
 simp only at g1 g2 g3 g4 g5 g6
 subst g5
 unfold W151 T151
 simp only [a0,a1,a2,a3,a4,n1,n4,hV0,hU0,b0,b1,b2,b3,b4,r1,cond_true,ro]
 exact ⟨_,_,_,_,_,rfl,g1,g2,g3,g4,g6⟩
theorem N2.snoc {P:List AV} (h:N2 P) (a b:Int):N2 (P++[mk2 a b]):=fun x hx=>by
 rcases List.mem_append.1 hx with hx|hx
 ·exact h x hx
 ·rw [List.mem_singleton.1 hx];rfl
theorem anyCrk {b:List AV} {i:Int} (hc:Cur b i) (h:Int):∃ V R P i' h',W80 b i h=some (V,R,P,b,i',h')∧V.length≤1048576∧R.length≤1048576∧P.length≤1048576∧N2 P∧Cur b i':=by
 obtain ⟨V,R,P,i1,h1,hW,l0,l1,l2,n2,c1⟩:=crkr hc h
 obtain ⟨a0,a1,a2,a3,a4,a5,a6⟩:=g151 hW
 obtain ⟨x,i2,h2,b0,b1,b2,b3,b4,_,_,c2⟩:=below c1 h1 (n:=12) (by decide)
 obtain ⟨u,i3,h3,hW2,c3,_⟩:=pick c2 h2 (L:=[AV.int .i64 0,AV.int .i64 999,AV.int .i64 1000,AV.int .i64 (-5)]) (by decide)
 obtain ⟨e0,e1,e2,e3,e4,e5⟩:=g132 hW2
 obtain ⟨y,i4,h4,f0,f1,f2,f3,f4,_,_,c4⟩:=below c2 h2 (n:=9) (by decide)
 obtain ⟨z,i5,h5,d0,d1,d2,d3,d4,_,_,c5⟩:=below c4 h4 (n:=9) (by decide)
 unfold W80 T80
 simp only [a0,a1,a2,a3,a4,a5,a6,b0,b1,b2,b3,b4,e0,e1,e2,e3,e4,f0,f1,f2,f3,f4,d0,d1,d2,d3,d4,rm16 P _ (by omega),rm8 R _ (by omega),cond_true]
 cases decide (x=0) with
 | true =>
  by_cases cv:(V.length:Int) > 0
  ·have t0:(decide ((0:Int)≤0) && decide ((0:Int)<(V.length:Int)))=true:=by rw [decide_eq_true cv];rfl
   simp only [cond_true,decide_eq_true cv,t0]
   exact ⟨_,_,_,_,_,rfl,by rw [List.length_set];omega,by omega,by omega,n2,c3⟩
  ·simp only [cond_true,decide_eq_false cv,cond_false]
   exact ⟨_,_,_,_,_,rfl,by omega,by omega,by omega,n2,c2⟩
 | false =>
  cases decide (x=1) with
  | true=>exact ⟨_,_,_,_,_,rfl,by omega,by omega,by simp only [List.length_append,List.length_singleton];omega,n2.snoc _ _,c5⟩
  | false =>
   cases decide (x=2) with
   | true=>exact ⟨_,_,_,_,_,rfl,by omega,by simp only [List.length_append,List.length_singleton];omega,by omega,n2,c2⟩
   | false=>exact ⟨_,_,_,_,_,rfl,by omega,by omega,by omega,n2,c2⟩
theorem start_of {f:Int × Int→Out (Int × Int) Int} (code:List AV) (h1:∀ g k:Int,0≤k→k<code.length→(∃ g',f (g,k) = .next (g',k+1))∨f (g,k) = .stop g) (h2:∀ g k:Int,¬ k<code.length→f (g,k) = .stop g) (x:Int):∃ r,runW f (((code.length:Int) - 0).toNat+1) (x,0)=some r:=by
 obtain ⟨r,r1,_⟩:=runW_ends (f:=f) (fun s:Int × Int=>0≤s.2∧s.2≤code.length) (fun _=>True) (fun s=>((code.length:Int) - s.2).toNat) (fun s hI=>by
   obtain ⟨g,k⟩:=s
   obtain ⟨k0,k1⟩:=hI
   simp only at k0 k1
   by_cases ck:k<code.length
   ·rcases h1 g k k0 ck with ⟨g',e⟩|e
    ·exact .inl ⟨(g',k+1),e,⟨by simp only;omega,by simp only;omega⟩,by simp only;omega⟩
    ·exact .inr ⟨g,e,trivial⟩
   ·exact .inr ⟨g,h2 g k ck,trivial⟩) (((code.length:Int) - 0).toNat+1) (x,0) ⟨Int.le_refl 0,by simp only;omega⟩ (by simp only;omega)
 exact ⟨r,r1⟩
end Go.Proofs.YtealoedecngaoaaGreatDoor

namespace Go.Proofs.YtealoedecngaoaaGreatDoor
open Go Go.Proofs.VE
set_option linter.unusedVariables false
set_option linter.unusedSimpArgs false
theorem step_bd {vs rs ps ws:List AV} (b:Bd vs rs ps ws) (s k:Int):q68 vs rs ps ws s k=true∧Bd (v68_0 vs rs ps ws s k) (v68_1 vs rs ps ws s k) (v68_2 vs rs ps ws s k) (v68_3 vs rs ps ws s k):=by
 cases h:okB vs rs ps ws s k with
 | false =>
  obtain ⟨a0,a1,a2,a3,a4,a5,a6⟩:=g68 (step_no b s k h)
  rw [a0,a1,a2,a3,a4]
  exact ⟨rfl,b⟩
 | true =>
  obtain ⟨_,_,_,V,R,P,X,st⟩:=step_yes b s k h
  obtain ⟨a0,a1,a2,a3,a4,a5,a6⟩:=g68 st.ws_
  rw [a0,a1,a2,a3,a4]
  exact ⟨rfl,st.bd⟩
theorem run_bd {vs rs ps ws:List AV} (b:Bd vs rs ps ws) (s:Int) (L:List AV) (hL:L.length≤1048576):q11 vs rs ps ws s L=true∧Bd (v11_0 vs rs ps ws s L) (v11_1 vs rs ps ws s L) (v11_2 vs rs ps ws s L) (v11_3 vs rs ps ws s L):=by
 obtain ⟨c0,c1,c2,c3,c4,c5⟩:=copyS s b.v b.r b.p b.w b.few b.can
 obtain ⟨r,r1,r2⟩:=runW_ends (f:=R11_0 L 0) (fun st:Int × List AV × List AV × List AV × List AV × Int=>0≤st.1∧st.1≤L.length∧Bd st.2.1 st.2.2.1 st.2.2.2.1 st.2.2.2.2.1) (fun r=>Bd r.1 r.2.1 r.2.2.1 r.2.2.2.1) (fun st=>((L.length:Int) - st.1).toNat) (fun st hI=>by
   obtain ⟨i,V,R,P,W,t⟩:=st
   obtain ⟨i0,i1,hb⟩:=hI
   simp only at i0 i1 hb
   by_cases ck:i<L.length
   ·have x1:decide (i<(L.length:Int))=true:=decide_eq_true ck
    have x2:decide (0≤i)=true:=decide_eq_true i0
    by_cases c2:i<2000
    ·have x3:decide (i<2000)=true:=decide_eq_true c2
     have wk_:IntKind.i64.wrap (i+1)=i+1:=wrap_in (by omega) (by omega)
     obtain ⟨s0,s1⟩:=step_bd hb t (fI (L.getD i.toNat .undef) 0)
     refine .inl ⟨(i+1,v68_0 V R P W t (fI (L.getD i.toNat .undef) 0),v68_1 V R P W t (fI (L.getD i.toNat .undef) 0),v68_2 V R P W t (fI (L.getD i.toNat .undef) 0),v68_3 V R P W t (fI (L.getD i.toNat .undef) 0),v68_4 V R P W t (fI (L.getD i.toNat .undef) 0)),?_,⟨by simp only;omega,by simp only;omega,s1⟩,by simp only;omega⟩
     show F11_0 L 0 i V R P W t=_
     unfold F11_0 G11_0
     simp only [x1,x2,x3,s0,wk_,Bool.and_self,cond_true]
    ·have x3:decide (i<2000)=false:=decide_eq_false c2
     refine .inr ⟨(V,R,P,W,t),?_,hb⟩
     show F11_0 L 0 i V R P W t=_
     unfold F11_0 G11_0
     simp only [x1,x3,cond_true,cond_false]
   ·have x1:decide (i<(L.length:Int))=false:=decide_eq_false ck
    refine .inr ⟨(V,R,P,W,t),?_,hb⟩
    show F11_0 L 0 i V R P W t=_
    unfold F11_0 G11_0
    simp only [x1,cond_false]) (((L.length:Int) - 0).toNat+1) (0,vs,rs,ps,ws,s) ⟨Int.le_refl 0,by simp only;omega,b⟩ (by simp only;omega)
 unfold q11 v11_0 v11_1 v11_2 v11_3
 rw [c0,c1,c2,c3,c4,c5,r1]
 exact ⟨rfl,r2⟩
theorem bd_nil:Bd [] [] [] []:=⟨by simp,by simp,by simp,by simp,(fun i i0 i1=>by simp at i1;omega),(fun i i0 i1=>by simp at i1;omega),(fun x hx=>by cases hx),(fun x hx=>by cases hx)⟩
def newW (T:List AV):AV:=mkW T 0 false 0 0 0 0 0 0
theorem new_bd (xs ts:List AV) (h:xs.length≤1000) (ht:ts.length≤1000) (hf:∀ i:Int,0≤i→i<ts.length→(fL (ts.getD i.toNat .undef) 0).length≤1000):q181 xs ts=true∧Bd (v181_0 xs ts) (v181_1 xs ts) (v181_2 xs ts) (v181_3 xs ts):=by
 obtain ⟨n1,n2,n3,n4⟩:=P99 xs (by omega)
 have l0:(v99_0 xs).length≤1000:=by
  rw [n2];cases v100_0 xs
  ·simp
  ·exact h
 have l1:(v99_1 xs).length≤1000:=by
  rw [n3];cases v100_0 xs
  ·simp
  ·simp only [cond_true];rw [rows_len];exact h
 have l2:v99_2 xs=[]:=n4
 have a1:=(P100 xs (by omega)).1
 generalize hV0:v99_0 xs=V at *
 generalize hV1:v99_1 xs=U at *
 have base:∀ W:List AV,W.length≤1000→few20 W→okI W→CnW W→Bd V U [] W:=fun W w1 w2 w3 w4=>⟨by omega,by omega,by simp,by omega,w2,w3,(fun x hx=>by cases hx),w4⟩
 have snoc:∀ (L:List AV) (T:List AV),L.length≤1000→few20 L→okI L→CnW L→T.length≤1000→few20 (L++[newW T])∧okI (L++[newW T])∧CnW (L++[newW T]):=fun L T h1 h2 h3 h4 h5=>by
  have at_:∀ i:Int,0≤i→i<(L++[newW T]).length→((i<L.length∧(L++[newW T]).getD i.toNat .undef=L.getD i.toNat .undef)∨(L++[newW T]).getD i.toNat .undef=newW T):=fun i i0 i1=>by
   rw [List.length_append,List.length_singleton] at i1
   simp only [List.getD_eq_getElem?_getD]
   by_cases c:i<L.length
   ·rw [List.getElem?_append_left (by omega)]
    exact .inl ⟨c,rfl⟩
   ·rw [List.getElem?_append_right (by omega),show i.toNat - L.length=0 by omega]
    exact .inr rfl
  refine ⟨fun i i0 i1=>?_,fun i i0 i1=>?_,fun x hx=>?_⟩
  ·rcases at_ i i0 i1 with ⟨c,e⟩|e
   ·rw [e];exact h2 i i0 c
   ·rw [e];show T.length≤_;omega
  ·rcases at_ i i0 i1 with ⟨c,e⟩|e
   ·rw [e];exact h3 i i0 c
   ·rw [e];exact ⟨by show (0:Int)≤_;omega,by show _≤(0:Int);omega⟩
  ·rw [List.mem_append,List.mem_singleton] at hx
   rcases hx with hx|rfl
   ·exact h4 x hx
   ·rfl
 obtain ⟨r,r1,r2⟩:=runW_ends (f:=R181_0 xs ts V U []) (fun st:(Int × Int × Int) ⊕ (Int × List AV × Int × Int)=>match st with | .inl p=>p.1=0 | .inr p=>0<p.1∧p.1≤ts.length∧p.2.1.length≤p.1∧few20 p.2.1∧okI p.2.1∧CnW p.2.1)
  (fun r:(Int × Int) ⊕ (List AV × Int × Int)=>match r with | .inl _=>True | .inr p=>p.1.length≤1000∧few20 p.1∧okI p.1∧CnW p.1) (fun st=>match st with | .inl _=>ts.length | .inr p=>((ts.length:Int) - p.1).toNat) (fun st hI=>by
   rcases st with ⟨i,y,z⟩|⟨i,L,y,z⟩
   ·have hI:i=0:=hI
    subst hI
    by_cases ck:(0:Int)<ts.length
    ·have x1:decide ((0:Int)<(ts.length:Int))=true:=decide_eq_true ck
     have x2:decide ((0:Int)≤0)=true:=rfl
     have x3:decide ((0:Int)≤3)=true:=rfl
     have hl:=hf 0 (Int.le_refl 0) ck
     refine .inl ⟨.inr (1,[newW (fL (ts.getD (0:Int).toNat .undef) 0)],y,z),?_,⟨by simp only;omega,by simp only;omega,by simp,?_⟩,by simp only;omega⟩
     ·show F181_0_s0 xs ts V U [] 0 y z=_
      unfold F181_0_s0 G181_0_s0
      simp only [x1,x2,x3,Bool.and_self,cond_true,List.length_nil,List.length_singleton,Nat.zero_add]
      rw [decide_eq_true (by omega:(fL (ts.getD (0:Int).toNat AV.undef) 0).length*8≤140737488355328),decide_eq_true (by omega:(fL (ts.getD (0:Int).toNat AV.undef) 0).length≤140737488355328)]
      rfl
     ·exact snoc [] _ (by simp) (fun i i0 i1=>by simp at i1;omega) (fun i i0 i1=>by simp at i1;omega) (fun x hx=>by cases hx) hl
    ·have x1:decide ((0:Int)<(ts.length:Int))=false:=decide_eq_false ck
     refine .inr ⟨.inl (y,z),?_,trivial⟩
     show F181_0_s0 xs ts V U [] 0 y z=_
     unfold F181_0_s0 G181_0_s0
     simp only [x1,cond_false]
   ·obtain ⟨i0,i1,hL,f1,f2,f3⟩:0<i∧i≤ts.length∧L.length≤i∧few20 L∧okI L∧CnW L:=hI
    by_cases ck:i<ts.length
    ·have x1:decide (i<(ts.length:Int))=true:=decide_eq_true ck
     have x2:decide (0≤i)=true:=decide_eq_true (by omega)
     by_cases c3:i≤3
     ·have x3:decide (i≤3)=true:=decide_eq_true c3
      have hl:=hf i (by omega) ck
      have wk_:IntKind.i64.wrap (i+1)=i+1:=wrap_in (by omega) (by omega)
      refine .inl ⟨.inr (i+1,L++[newW (fL (ts.getD i.toNat .undef) 0)],y,z),?_,⟨by simp only;omega,by simp only;omega,by simp only [List.length_append,List.length_singleton];omega,snoc L _ (by omega) f1 f2 f3 hl⟩,by simp only;omega⟩
      show F181_0_s1 xs ts V U [] i L y z=_
      unfold F181_0_s1 G181_0_s1
      simp only [x1,x2,x3,wk_,Bool.and_self,cond_true,List.length_nil,List.length_singleton,Nat.zero_add]
      rw [decide_eq_true (by omega:(fL (ts.getD i.toNat AV.undef) 0).length*8≤140737488355328),decide_eq_true (by omega:(fL (ts.getD i.toNat AV.undef) 0).length≤140737488355328),decide_eq_true (by omega:(L.length+1)*88≤140737488355328),decide_eq_true (by omega:L.length+1≤140737488355328)]
      rfl
     ·have x3:decide (i≤3)=false:=decide_eq_false c3
      refine .inr ⟨.inr (L,y,z),?_,by show L.length≤1000;omega,f1,f2,f3⟩
      show F181_0_s1 xs ts V U [] i L y z=_
      unfold F181_0_s1 G181_0_s1
      simp only [x1,x3,cond_true,cond_false]
    ·have x1:decide (i<(ts.length:Int))=false:=decide_eq_false ck
     refine .inr ⟨.inr (L,y,z),?_,by show L.length≤1000;omega,f1,f2,f3⟩
     show F181_0_s1 xs ts V U [] i L y z=_
     unfold F181_0_s1 G181_0_s1
     simp only [x1,cond_false]) (((ts.length:Int) - 0).toNat+1) (.inl (0,0,0)) rfl (by simp only;omega)
 unfold q181 v181_0 v181_1 v181_2 v181_3
 rw [n1,hV0,hV1,l2,a1,r1]
 have fin:∀ (W:List AV) (t:Int),Bd V U [] W→q13 V U [] W t=true:=fun W t hb=>(P13 V U [] W t hb.v hb.r hb.p hb.w hb.few hb.oki).1
 rcases r with ⟨y,z⟩|⟨L,y,z⟩
 ·have hb:=base [] (by simp) (fun i i0 i1=>by simp at i1;omega) (fun i i0 i1=>by simp at i1;omega) (fun x hx=>by cases hx)
  simp only [ro,sumE,fin [] z hb]
  cases v100_0 xs <;> cases decide ((ts.length:Int) > 3) <;> cases v13_0 V U [] [] z <;> first|exact ⟨rfl,bd_nil⟩|exact ⟨rfl,hb⟩
 ·obtain ⟨f0,f1,f2,f3⟩:L.length≤1000∧few20 L∧okI L∧CnW L:=r2
  have hb:=base L f0 f1 f2 f3
  simp only [ro,sumE,fin L z hb]
  cases v100_0 xs <;> cases decide ((ts.length:Int) > 3) <;> cases v13_0 V U [] L z <;> first|exact ⟨rfl,bd_nil⟩|exact ⟨rfl,hb⟩
theorem targets {b:List AV} {i:Int} (hc:Cur b i) (h:Int) {x:List AV} (hx:x.length≤1048576) (y z:List AV):∃ L i' h',W180 b i h x y z=some (L,b,i',h',x,y,z)∧L.length≤5∧Cur b i':=by
 obtain ⟨m,i2,h2,b0,b1,b2,b3,b4,m0,m1,c2⟩:=below hc h (n:=5) (by decide)
 obtain ⟨r,r1,r2⟩:=runW_ends (f:=R180_0) (fun s:Int × List AV × List AV × Int × Int × List AV × List AV × List AV=>0≤s.1∧s.2.1.length+s.1=m∧s.2.2.1=b∧Cur b s.2.2.2.1∧s.2.2.2.2.2.1=x∧s.2.2.2.2.2.2.1=y∧s.2.2.2.2.2.2.2=z) (fun r=>r.1.length≤5∧r.2.1=b∧Cur b r.2.2.1∧r.2.2.2.2.1=x∧r.2.2.2.2.2.1=y∧r.2.2.2.2.2.2=z) (fun s=>s.1.toNat) (fun s' hI=>by
   obtain ⟨t,L,b',k,g,x',y',z'⟩:=s'
   obtain ⟨t0,tl,rfl,hk,rfl,rfl,rfl⟩:=hI
   simp only at t0 tl hk hx ⊢
   by_cases ct:t > 0
   ·obtain ⟨w,k1,g1,hV,hk1⟩:=value hk g (x:=x') hx y' z'
    obtain ⟨e0,e1,e2,e3,e4,e5,e6,e7⟩:=g109 hV
    refine .inl ⟨(t - 1,L++[AV.int .i64 w],b',k1,g1,x',y',z'),?_,⟨by simp only;omega,by simp only [List.length_append,List.length_singleton];omega,rfl,hk1,rfl,rfl,rfl⟩,by simp only;omega⟩
    show F180_0 t L b' k g x' y' z'=_
    unfold F180_0 G180_0
    simp only [decide_eq_true ct,e0,e1,e2,e3,e4,e5,e6,e7,rm8 L _ (by omega),wrap1 ct (by omega),cond_true]
   ·refine .inr ⟨(L,b',k,g,x',y',z'),?_,by simp only;omega,rfl,hk,rfl,rfl,rfl⟩
    show F180_0 t L b' k g x' y' z'=_
    unfold F180_0 G180_0
    simp only [decide_eq_false ct,cond_false]) ((m - 0).toNat+1) (m,[],b,i2,h2,x,y,z) ⟨m0,by simp,rfl,c2,rfl,rfl,rfl⟩ (by simp only;omega)
 obtain ⟨L,b',i3,h3,x',y',z'⟩:=r
 obtain ⟨l0,rfl,c3,rfl,rfl,rfl⟩:=r2
 unfold W180 T180
 simp only [b0,b1,b2,b3,b4,r1,ro,cond_true]
 exact ⟨_,_,_,rfl,l0,c3⟩
theorem picks {b:List AV} {i:Int} (hc:Cur b i) (h:Int) {n:Int} (n0:0<n) (n1:n≤1000):∃ L i' h',W63 n b i h=some (L,b,i',h')∧L.length≤1000∧Cur b i':=by
 obtain ⟨m,i2,h2,b0,b1,b2,b3,b4,m0,m1,c2⟩:=below hc h (n:=n) n0
 obtain ⟨r,r1,r2⟩:=runW_ends (f:=R63_0) (fun s:Int × List AV × List AV × Int × Int=>0≤s.1∧s.2.1.length+s.1=m∧s.2.2.1=b∧Cur b s.2.2.2.1) (fun r=>r.1.length≤1000∧r.2.1=b∧Cur b r.2.2.1) (fun s=>s.1.toNat) (fun s' hI=>by
   obtain ⟨t,L,b',k,g⟩:=s'
   obtain ⟨t0,tl,rfl,hk⟩:=hI
   simp only at t0 tl hk
   by_cases ct:t > 0
   ·obtain ⟨w,k1,g1,e0,e1,e2,e3,e4,_,_,hk1⟩:=below hk g (n:=3) (by decide)
    refine .inl ⟨(t - 1,L++[AV.int .i64 w],b',k1,g1),?_,⟨by simp only;omega,by simp only [List.length_append,List.length_singleton];omega,rfl,hk1⟩,by simp only;omega⟩
    show F63_0 t L b' k g=_
    unfold F63_0 G63_0
    simp only [decide_eq_true ct,e0,e1,e2,e3,e4,rm8 L _ (by omega),wrap1 ct (by omega),cond_true]
   ·refine .inr ⟨(L,b',k,g),?_,by simp only;omega,rfl,hk⟩
    show F63_0 t L b' k g=_
    unfold F63_0 G63_0
    simp only [decide_eq_false ct,cond_false]) ((m - 0).toNat+1) (m,[],b,i2,h2) ⟨m0,by simp,rfl,c2⟩ (by simp only;omega)
 obtain ⟨L,b',i3,h3⟩:=r
 obtain ⟨l0,rfl,c3⟩:=r2
 unfold W63 T63
 simp only [b0,b1,b2,b3,b4,r1,ro,cond_true]
 exact ⟨_,_,_,rfl,l0,c3⟩
theorem boardD {b:List AV} {i:Int} (hc:Cur b i) (h:Int):∃ V R P X s i' h',W130 b i h=some (V,R,P,X,s,b,i',h')∧Bd V R P X∧Cur b i':=by
 obtain ⟨xs,i1,h1,hW1,lx,c1⟩:=values hc h (M:=12) (by decide) (by decide)
 obtain ⟨a0,a1,a2,a3,a4⟩:=g91 hW1
 obtain ⟨m,i2,h2,b0,b1,b2,b3,b4,m0,m1,c2⟩:=below c1 h1 (n:=3) (by decide)
 obtain ⟨n1,n2,n3,n4⟩:=P99 xs (by omega)
 have l0:(v99_0 xs).length≤1048576:=by
  rw [n2];cases v100_0 xs
  ·simp
  ·simp only [cond_true];omega
 have wm:IntKind.i64.wrap (1+m)=1+m:=wrap_in (by omega) (by omega)
 obtain ⟨r,r1,r2⟩:=runW_ends (f:=R130_0 0 xs) (fun s:Int × List AV × List AV × Int × Int=>0≤s.1∧s.2.1.length+s.1=1+m∧(∀ j:Int,0≤j→j<s.2.1.length→(fL (s.2.1.getD j.toNat .undef) 0).length≤1000)∧s.2.2.1=b∧Cur b s.2.2.2.1) (fun r=>r.1.length≤1000∧(∀ j:Int,0≤j→j<r.1.length→(fL (r.1.getD j.toNat .undef) 0).length≤1000)∧r.2.1=b∧Cur b r.2.2.1) (fun s=>s.1.toNat) (fun s' hI=>by
   obtain ⟨t,L,b',k,g⟩:=s'
   obtain ⟨t0,tl,hf,rfl,hk⟩:=hI
   simp only at t0 tl hf hk
   by_cases ct:t > 0
   ·obtain ⟨T,k1,g1,hV,lT,hk1⟩:=targets hk g (x:=v99_0 xs) l0 (v99_1 xs) (v99_2 xs)
    obtain ⟨e0,e1,e2,e3,e4,e5,e6,e7⟩:=g180 hV
    have rm:(decide ((L.length+[AV.sl [.int .i64] T].length)*24≤140737488355328) && decide (L.length+[AV.sl [.int .i64] T].length≤140737488355328))=true:=by
     rw [List.length_singleton,decide_eq_true (by omega:(L.length+1)*24≤140737488355328),decide_eq_true (by omega:L.length+1≤140737488355328)]
     rfl
    refine .inl ⟨(t - 1,L++[AV.sl [.int .i64] T],b',k1,g1),?_,⟨by simp only;omega,by simp only [List.length_append,List.length_singleton];omega,fun j j0 j1=>?_,rfl,hk1⟩,by simp only;omega⟩
    ·show F130_0 0 xs t L b' k g=_
     unfold F130_0 G130_0
     simp only [decide_eq_true ct,n1,e0,e1,e2,e3,e4,rm,wrap1 ct (by omega),cond_true]
    ·simp only [List.length_append,List.length_singleton] at j1
     simp only [List.getD_eq_getElem?_getD]
     by_cases c:j<L.length
     ·rw [List.getElem?_append_left (by omega)]
      have:=hf j j0 c
      rw [List.getD_eq_getElem?_getD] at this
      exact this
     ·rw [List.getElem?_append_right (by omega),show j.toNat - L.length=0 by omega]
      show T.length≤1000
      omega
   ·refine .inr ⟨(L,b',k,g),?_,by simp only;omega,hf,rfl,hk⟩
    show F130_0 0 xs t L b' k g=_
    unfold F130_0 G130_0
    simp only [decide_eq_false ct,cond_false]) ((1+m - 0).toNat+1) (1+m,[],b,i2,h2) ⟨by simp only;omega,by simp,(fun j j0 j1=>by simp at j1;omega),rfl,c2⟩ (by simp only;omega)
 obtain ⟨L,b',i3,h3⟩:=r
 obtain ⟨lL,hf,rfl,c3⟩:=r2
 obtain ⟨K,i4,h4,hW4,lK,c4⟩:=picks c3 h3 (n:=60) (by decide) (by decide)
 obtain ⟨f0,f1,f2,f3,f4⟩:=g63 hW4
 obtain ⟨p0,p1⟩:=new_bd xs L (by omega) lL hf
 obtain ⟨q0,q1⟩:=run_bd p1 (v181_4 xs L) K (by omega)
 unfold W130 T130
 simp only [a0,a1,a2,a3,a4,b0,b1,b2,b3,b4,wm,r1,ro,f0,f1,f2,f3,f4,p0,q0,cond_true]
 exact ⟨_,_,_,_,_,_,_,rfl,q1,c4⟩
theorem boardA {b:List AV} {i:Int} (hc:Cur b i) (h:Int):∃ V R P X s i' h',W62 b i h=some (V,R,P,X,s,b,i',h')∧Bd V R P X∧Cur b i':=by
 obtain ⟨V,R,P,X,s,i1,h1,hW1,hb,c1⟩:=boardD hc h
 obtain ⟨a0,a1,a2,a3,a4,a5,a6,a7,a8⟩:=g130 hW1
 obtain ⟨m,i2,h2,b0,b1,b2,b3,b4,m0,m1,c2⟩:=below c1 h1 (n:=14) (by decide)
 unfold W62 T62
 simp only [a0,a1,a2,a3,a4,a5,a6,a7,a8,b0,b1,b2,b3,b4,cond_true]
 by_cases z0:m=0
 ·obtain ⟨y,i3,h3,hW3,c3,_⟩:=pick c2 h2 (L:=[AV.int .i64 (-1),AV.int .i64 0,AV.int .i64 99999,AV.int .i64 100000]) (by decide)
  obtain ⟨e0,e1,e2,e3,e4,e5⟩:=g132 hW3
  simp only [decide_eq_true z0,e0,e1,e2,e3,e4,cond_true]
  exact ⟨_,_,_,_,_,_,_,rfl,hb,c3⟩
 ·by_cases z1:m=1
  ·by_cases z2:(X.length:Int) > 0
   ·obtain ⟨w,i3,h3,e0,e1,e2,e3,e4,w0,w1,c3⟩:=below c2 h2 (n:=6) (by decide)
    have d0:(decide ((0:Int)≤0) && decide ((0:Int)<(X.length:Int)))=true:=by
     rw [decide_eq_true (by omega:(0:Int)<(X.length:Int))]
     rfl
    simp only [decide_eq_false z0,decide_eq_true z1,decide_eq_true z2,e0,e1,e2,e3,e4,d0,cond_true,cond_false]
    refine ⟨_,_,_,_,_,_,_,rfl,?_,c3⟩
    have f6:=(hb.oki 0 (Int.le_refl 0) (by omega)).2
    exact hb.set hb.v hb.r hb.p hb.two (Int.le_refl 0) (hb.few 0 (Int.le_refl 0) (by omega)) ⟨by show w≤_;omega,f6⟩ rfl
   ·simp only [decide_eq_false z0,decide_eq_true z1,decide_eq_false z2,cond_true,cond_false]
    exact ⟨_,_,_,_,_,_,_,rfl,hb,c2⟩
  ·by_cases z3:m=2
   ·obtain ⟨V',R',P',i3,h3,hW3,y1,y2,y3,yn,c3⟩:=anyCrk c2 h2
    obtain ⟨e0,e1,e2,e3,e4,e5,e6⟩:=g80 hW3
    simp only [decide_eq_false z0,decide_eq_false z1,decide_eq_true z3,e0,e1,e2,e3,e4,e5,e6,cond_true,cond_false]
    exact ⟨_,_,_,_,_,_,_,rfl,⟨y1,y2,y3,hb.w,hb.few,hb.oki,yn,hb.can⟩,c3⟩
   ·simp only [decide_eq_false z0,decide_eq_false z1,decide_eq_false z3,cond_false]
    exact ⟨_,_,_,_,_,_,_,rfl,hb,c2⟩
end Go.Proofs.YtealoedecngaoaaGreatDoor

namespace Go.Proofs.YtealoedecngaoaaGreatDoor
open Go Go.Proofs.VE
set_option linter.unusedVariables false
set_option linter.unusedSimpArgs false
def In64 (n:Int):Prop := -9223372036854775808≤n∧n≤9223372036854775807
theorem u8_digit:∀ d:Fin 10,IntKind.u8.wrap (48+(d.val:Int))=48+(d.val:Int)∧UInt8.ofNat (48+(d.val:Int)).toNat=UInt8.ofNat (48+d.val):=by decide +kernel
theorem digit_wrap (d:Nat) (h:d<10):IntKind.u8.wrap (IntKind.i64.wrap (48+(d:Int)))=48+(d:Int)∧UInt8.ofNat (48+(d:Int)).toNat=UInt8.ofNat (48+d):=by
 rw [wrap_in (by omega) (by omega)]
 exact u8_digit ⟨d,h⟩
theorem bytes_one (x:Int) (s:ByteArray):bytesA [AV.int .u8 x]++s=⟨(UInt8.ofNat x.toNat :: s.data.toList).toArray⟩:=by
 have e:bytesA [AV.int .u8 x]=⟨#[UInt8.ofNat x.toNat]⟩:=rfl
 rw [e]
 apply ByteArray.ext
 simp [ByteArray.data_append]
theorem bytes_one_size (x:Int):(bytesA [AV.int .u8 x]).size=1:=rfl
def digits (n:Int):List UInt8:=if n=0 then [] else Lib.decDigits n.natAbs
theorem digits_step (n:Int) (h:n ≠ 0):digits n=digits (Int.tdiv n 10)++[UInt8.ofNat (48+n.natAbs % 10)]:=by
 have e:(Int.tdiv n 10).natAbs=n.natAbs / 10:=by rw [Int.natAbs_tdiv];rfl
 unfold digits
 rw [if_neg h]
 by_cases h0:n.natAbs<10
 ·have:Int.tdiv n 10=0:=Int.natAbs_eq_zero.1 (by rw [e];omega)
  rw [if_pos this,Lib.decDigits,dif_pos h0,Nat.mod_eq_of_lt h0]
  rfl
 ·have:Int.tdiv n 10 ≠ 0:=fun h2=>by rw [h2] at e;simp at e;omega
  rw [if_neg this,e]
  conv=>lhs;rw [Lib.decDigits,dif_neg h0]
theorem fi_step (b:Bool) (n:Int) (s:ByteArray) (h:n ≠ 0) (h0 : -9223372036854775808≤n) (h1:n≤9223372036854775807) (hs:s.size≤100) :
  R86_0 b (n,s) = .next (Int.tdiv n 10,⟨(UInt8.ofNat (48+n.natAbs % 10) :: s.data.toList).toArray⟩):=by
 unfold R86_0 F86_0 G86_0
 have d0:decide (n=0)=false:=decide_eq_false h
 have d1:decide ((10:Nat)=0)=false:=rfl
 have d2:∀ x,decide ((bytesA [AV.int .u8 x]).size+s.size≤4611686018427387904)=true:=fun x=>decide_eq_true (by rw [bytes_one_size];omega)
 have ht : -9223372036854775808≤Int.tdiv n 10∧Int.tdiv n 10≤9223372036854775807:=by
  have e:(Int.tdiv n 10).natAbs=n.natAbs / 10:=by rw [Int.natAbs_tdiv];rfl
  omega
 rw [wrap_in ht.1 ht.2]
 simp only [d0,d1,d2,Bool.not_false,cond_true]
 rcases Int.lt_or_le n 0 with hn|hn
 ·have et:Int.tmod n 10 = -((n.natAbs % 10:Nat):Int):=by
   have:n = -(n.natAbs:Int):=by omega
   conv=>lhs;rw [this,Int.neg_tmod]
   rfl
  rw [et]
  by_cases hz:n.natAbs % 10=0
  ·rw [hz]
   have:=digit_wrap 0 (by decide)
   simp only [Int.ofNat_zero,Int.neg_zero,Int.add_zero] at this ⊢
   rw [show decide ((0:Int)<0)=false from rfl]
   simp only [cond_false]
   rw [bytes_one,this.1]
   rfl
  ·have d3:decide (-((n.natAbs % 10:Nat):Int)<0)=true:=decide_eq_true (by omega)
   rw [d3]
   simp only [cond_true]
   rw [wrap_in (a:=0 - -((n.natAbs % 10:Nat):Int)) (by omega) (by omega),show 0 - -((n.natAbs % 10:Nat):Int)=((n.natAbs % 10:Nat):Int) by omega,bytes_one]
   obtain ⟨e1,e2⟩:=digit_wrap (n.natAbs % 10) (Nat.mod_lt _ (by decide))
   rw [e1,e2]
 ·have et:Int.tmod n 10=((n.natAbs % 10:Nat):Int):=by
   have:n=(n.natAbs:Int):=by omega
   conv=>lhs;rw [this]
   rfl
  rw [et]
  have d3:decide (((n.natAbs % 10:Nat):Int)<0)=false:=decide_eq_false (by omega)
  rw [d3]
  simp only [cond_false]
  rw [bytes_one]
  obtain ⟨e1,e2⟩:=digit_wrap (n.natAbs % 10) (Nat.mod_lt _ (by decide))
  rw [e1,e2]
theorem fi_run (b:Bool):∀ (f k:Nat) (n:Int) (s:ByteArray),n.natAbs<10 ^ k→n.natAbs<f→s.size+k≤100 → -9223372036854775808≤n→n≤9223372036854775807 →
  runW (R86_0 b) f (n,s)=some (⟨(digits n++s.data.toList).toArray⟩)
 | 0,_,_,_,_,h,_,_,_=>by omega
 | f+1,k,n,s,hk,hf,hs,h0,h1=>by
  by_cases hz:n=0
  ·subst hz
   unfold runW R86_0 F86_0 G86_0 digits
   simp only [decide_true,Bool.not_true,cond_false,Out.el,if_true,List.nil_append]
  ·have e:(Int.tdiv n 10).natAbs=n.natAbs / 10:=by rw [Int.natAbs_tdiv];rfl
   cases k with
   | zero=>simp at hk;omega
   | succ k =>
    rw [Nat.pow_succ] at hk
    unfold runW
    rw [fi_step b n s hz h0 h1 (by omega)]
    simp only [Out.el]
    rw [fi_run b f k _ _ (by rw [e];omega) (by rw [e];omega) (by
     show (_ :: s.data.toList).toArray.size+k≤100
     rw [List.size_toArray,List.length_cons,Array.length_toList]
     have:s.data.size=s.size:=rfl
     omega) (by omega) (by omega),digits_step n hz]
    simp
theorem digits_len (n:Int) (h0 : -9223372036854775808≤n) (h1:n≤9223372036854775807):(Lib.decDigits n.natAbs).length≤19:=by
 rw [Lib.decDigits_length]
 by_cases hz:n.natAbs=0
 ·rw [hz,Lib.nDigits_small (by decide)];decide
 ·obtain ⟨k,h2,h3,hk⟩:∃ k,10 ^ k≤n.natAbs∧n.natAbs<10 ^ (k+1)∧k<19:=by
   have:∀ m,n.natAbs<10 ^ m→∃ k,10 ^ k≤n.natAbs∧n.natAbs<10 ^ (k+1)∧k<m:=by
    intro m
    induction m with
    | zero=>intro h;rw [Nat.pow_zero] at h;omega
    | succ m ih =>
     intro h
     by_cases hm:10 ^ m≤n.natAbs
     ·exact ⟨m,hm,h,Nat.lt_succ_self m⟩
     ·obtain ⟨k,a,b,c⟩:=ih (by omega)
      exact ⟨k,a,b,Nat.lt_succ_of_lt c⟩
   exact this 19 (by omega)
  rw [Lib.nDigits_unique k _ h2 h3]
  omega
theorem itoaB_len (n:Int) (h0 : -9223372036854775808≤n) (h1:n≤9223372036854775807):(itoaB n).size≤20:=by
 have:=digits_len n h0 h1
 have e:(itoaB n).size=(Lib.itoa n).length:=by simp [itoaB,ByteArray.size]
 rw [e]
 unfold Lib.itoa
 split
 ·simp only [List.length_cons];omega
 ·rename_i h
  rw [show n.toNat=n.natAbs by omega]
  omega
theorem fmtInt (n:Int) (h0 : -9223372036854775808≤n) (h1:n≤9223372036854775807):q86 n=true∧v86_0 n=itoaB n:=by
 unfold q86 v86_0
 by_cases hz:n=0
 ·subst hz
  refine ⟨rfl,?_⟩
  have:Lib.itoa 0=[48]:=by unfold Lib.itoa;rw [if_neg (by decide)];exact Lib.decDigits_one (i:=0) (by decide)
  unfold itoaB
  rw [this]
  rfl
 ·have hd:digits n=Lib.decDigits n.natAbs:=by unfold digits;rw [if_neg hz]
  have hl:=digits_len n h0 h1
  rw [decide_eq_false hz,fi_run _ _ 19 n ByteArray.empty (by omega) (Nat.lt_succ_self _) (by decide) h0 h1,hd]
  simp only [cond_false,ro]
  rcases Int.lt_or_le n 0 with hn|hn
  ·rw [decide_eq_true hn]
   simp only [cond_true]
   refine ⟨decide_eq_true ?_,?_⟩
   ·simp [ByteArray.size];omega
   ·unfold itoaB Lib.itoa
    rw [if_pos hn]
    apply ByteArray.ext
    simp [ByteArray.data_append]
  ·rw [decide_eq_false (by omega)]
   refine ⟨rfl,?_⟩
   unfold itoaB Lib.itoa
   rw [if_neg (by omega),show n.toNat=n.natAbs by omega]
   simp
theorem fmtInt' (n:Int) (h0 : -9223372036854775808≤n) (h1:n≤9223372036854775807):q79 n=true∧v79_0 n=itoaB n :=
 ⟨by unfold q79 q150;rw [decide_eq_true h0,decide_eq_true h1];rfl,rfl⟩
theorem joinB_snoc (l:List AV) (w sep:ByteArray):joinB (l++[AV.str w]) sep=bif decide (l.length=0) then w else (joinB l sep++sep)++w:=by
 apply ByteArray.ext
 apply Array.toList_inj.1
 cases l with
 | nil=>simp [joinB,Lib.join_one,fS,AV.cells]
 | cons x r =>
  simp [joinB,Lib.join_cons,Lib.joinTail,fS,AV.cells,ByteArray.data_append]
def gJ (w:Int→ByteArray) (i:Int) (t:ByteArray):ByteArray:=bif decide (i > 0) then (t++ByteArray.mk #[32])++w i else t++w i
def gL (w:Int→ByteArray) (i:Int) (l:List AV):List AV:=l++[AV.str (w i)]
theorem gL_len (w:Int→ByteArray):∀ (m:Nat) (i:Int) (l:List AV),(foldF (gL w) m i l).length=l.length+m
 | 0,_,_=>rfl
 | m+1,i,l=>by
  show (foldF (gL w) m (i+1) (l++[AV.str (w i)])).length=_
  rw [gL_len w m,List.length_append]
  simp only [List.length_cons,List.length_nil]
  omega
theorem gJ_join (w:Int→ByteArray):∀ (m:Nat) (i:Int) (t:ByteArray) (l:List AV),(l.length:Int)=i→t=joinB l (ByteArray.mk #[32])→foldF (gJ w) m i t=joinB (foldF (gL w) m i l) (ByteArray.mk #[32])
 | 0,_,_,_,_,h=>h
 | m+1,i,t,l,hi,h=>by
  refine gJ_join w m (i+1) (gJ w i t) (gL w i l) (by unfold gL;rw [List.length_append];simp only [List.length_cons,List.length_nil];omega) ?_
  unfold gJ gL
  rw [joinB_snoc,h]
  by_cases h0:i > 0
  ·rw [decide_eq_true h0,decide_eq_false (by omega:¬ l.length=0)]
   rfl
  ·have:l=[]:=List.eq_nil_of_length_eq_zero (by omega)
   subst this
   rw [decide_eq_false h0]
   apply ByteArray.ext
   simp [joinB,Lib.join_nil,ByteArray.data_append]
theorem gJ_size (w:Int→ByteArray) (K:Nat) (hw:∀ i,(w i).size≤K) (i:Int) (t:ByteArray):(gJ w i t).size≤t.size+(K+1)∧t.size≤(gJ w i t).size∧(w i).size≤(gJ w i t).size:=by
 have:=hw i
 unfold gJ
 have o1:(ByteArray.mk #[32]).size=1:=rfl
 cases decide (i > 0)
 ·simp only [cond_false,ByteArray.size_append];omega
 ·simp only [cond_true,ByteArray.size_append];omega
theorem gJ_fold (w:Int→ByteArray) (K:Nat) (hw:∀ i,(w i).size≤K):∀ (m:Nat) (i:Int) (t:ByteArray),(foldF (gJ w) m i t).size≤t.size+(K+1)*m∧t.size≤(foldF (gJ w) m i t).size
 | 0,_,_=>⟨Nat.le_refl _,Nat.le_refl _⟩
 | m+1,i,t=>by
  have h1:=gJ_fold w K hw m (i+1) (gJ w i t)
  have h2:=gJ_size w K hw i t
  show (foldF (gJ w) m (i+1) (gJ w i t)).size≤_∧_≤(foldF (gJ w) m (i+1) (gJ w i t)).size
  rw [Nat.mul_succ]
  omega
end Go.Proofs.YtealoedecngaoaaGreatDoor
