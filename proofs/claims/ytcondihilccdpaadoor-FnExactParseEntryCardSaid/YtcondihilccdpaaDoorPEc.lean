import Derived.Test.YtcondihilccdpaaDoorPE3
import Derived.Test.YtcondihilccdpaaDoorVEz
import Derived.Test.YtcondihilccdpaaDoorPEb
namespace Go.Proofs.YtcondihilccdpaaDoor
open Go Go.Proofs.VE
set_option linter.unusedVariables false
set_option linter.unusedSimpArgs false
def In64 (n:Int):Prop := -9223372036854775808≤n∧n≤9223372036854775807
theorem u8_digit:∀ d:Fin 10,IntKind.u8.wrap (48+(d.val:Int))=48+(d.val:Int)∧UInt8.ofNat (48+(d.val:Int)).toNat=UInt8.ofNat (48+d.val):=by decide +kernel
theorem digit_wrap (d:Nat) (h:d<10):IntKind.u8.wrap (IntKind.i64.wrap (48+(d:Int)))=48+(d:Int)∧UInt8.ofNat (48+(d:Int)).toNat=UInt8.ofNat (48+d):=by
 rw [wrap_in (by omega) (by omega)]
 exact u8_digit ⟨d,h⟩
theorem bytes_one (x:Int) (s:ByteArray):bytesA [AV.int .u8 x]++s=⟨(UInt8.ofNat x.toNat :: s.data.toList).toArray⟩:=by
 have e:bytesA [AV.int .u8 x]=⟨#[UInt8.ofNat x.toNat]⟩:=rfl
 rw [e]
 apply ByteArray.ext
 simp [ByteArray.data_append]
theorem bytes_one_size (x:Int):(bytesA [AV.int .u8 x]).size=1:=rfl
def digits (n:Int):List UInt8:=if n=0 then [] else Lib.decDigits n.natAbs
theorem digits_step (n:Int) (h:n ≠ 0):digits n=digits (Int.tdiv n 10)++[UInt8.ofNat (48+n.natAbs % 10)]:=by
 have e:(Int.tdiv n 10).natAbs=n.natAbs / 10:=by rw [Int.natAbs_tdiv];rfl
 unfold digits
 rw [if_neg h]
 by_cases h0:n.natAbs<10
 ·have:Int.tdiv n 10=0:=Int.natAbs_eq_zero.1 (by rw [e];omega)
  rw [if_pos this,Lib.decDigits,dif_pos h0,Nat.mod_eq_of_lt h0]
  rfl
 ·have:Int.tdiv n 10 ≠ 0:=fun h2=>by rw [h2] at e;simp at e;omega
  rw [if_neg this,e]
  conv=>lhs;rw [Lib.decDigits,dif_neg h0]
theorem fi_step (b:Bool) (n:Int) (s:ByteArray) (h:n ≠ 0) (h0 : -9223372036854775808≤n) (h1:n≤9223372036854775807) (hs:s.size≤100) :
  R26_0 b (n,s) = .next (Int.tdiv n 10,⟨(UInt8.ofNat (48+n.natAbs % 10) :: s.data.toList).toArray⟩):=by
 unfold R26_0 F26_0
 have d0:decide (n=0)=false:=decide_eq_false h
 have d1:decide ((10:Nat)=0)=false:=rfl
 have d2:∀ x,decide ((bytesA [AV.int .u8 x]).size+s.size≤4611686018427387904)=true:=fun x=>decide_eq_true (by rw [bytes_one_size];omega)
 have ht : -9223372036854775808≤Int.tdiv n 10∧Int.tdiv n 10≤9223372036854775807:=by
  have e:(Int.tdiv n 10).natAbs=n.natAbs / 10:=by rw [Int.natAbs_tdiv];rfl
  omega
 rw [wrap_in ht.1 ht.2]
 simp only [d0,d1,d2,Bool.not_false,cond_true]
 rcases Int.lt_or_le n 0 with hn|hn
 ·have et:Int.tmod n 10 = -((n.natAbs % 10:Nat):Int):=by
   have:n = -(n.natAbs:Int):=by omega
   conv=>lhs;rw [this,Int.neg_tmod]
   rfl
  rw [et]
  by_cases hz:n.natAbs % 10=0
  ·rw [hz]
   have:=digit_wrap 0 (by decide)
   simp only [Int.ofNat_zero,Int.neg_zero,Int.add_zero] at this ⊢
   rw [show decide ((0:Int)<0)=false from rfl]
   simp only [cond_false]
   rw [bytes_one,this.1]
   rfl
  ·have d3:decide (-((n.natAbs % 10:Nat):Int)<0)=true:=decide_eq_true (by omega)
   rw [d3]
   simp only [cond_true]
   rw [wrap_in (a:=0 - -((n.natAbs % 10:Nat):Int)) (by omega) (by omega),show 0 - -((n.natAbs % 10:Nat):Int)=((n.natAbs % 10:Nat):Int) by omega,bytes_one]
   obtain ⟨e1,e2⟩:=digit_wrap (n.natAbs % 10) (Nat.mod_lt _ (by decide))
   rw [e1,e2]
 ·have et:Int.tmod n 10=((n.natAbs % 10:Nat):Int):=by
   have:n=(n.natAbs:Int):=by omega
   conv=>lhs;rw [this]
   rfl
  rw [et]
  have d3:decide (((n.natAbs % 10:Nat):Int)<0)=false:=decide_eq_false (by omega)
  rw [d3]
  simp only [cond_false]
  rw [bytes_one]
  obtain ⟨e1,e2⟩:=digit_wrap (n.natAbs % 10) (Nat.mod_lt _ (by decide))
  rw [e1,e2]
theorem fi_run (b:Bool):∀ (f k:Nat) (n:Int) (s:ByteArray),n.natAbs<10 ^ k→n.natAbs<f→s.size+k≤100 → -9223372036854775808≤n→n≤9223372036854775807 →
  runW (R26_0 b) f (n,s)=some (⟨(digits n++s.data.toList).toArray⟩)
 | 0,_,_,_,_,h,_,_,_=>by omega
 | f+1,k,n,s,hk,hf,hs,h0,h1=>by
  by_cases hz:n=0
  ·subst hz
   unfold runW R26_0 F26_0 digits
   simp only [decide_true,Bool.not_true,cond_false,Out.el,if_true,List.nil_append]
  ·have e:(Int.tdiv n 10).natAbs=n.natAbs / 10:=by rw [Int.natAbs_tdiv];rfl
   cases k with
   | zero=>simp at hk;omega
   | succ k =>
    rw [Nat.pow_succ] at hk
    unfold runW
    rw [fi_step b n s hz h0 h1 (by omega)]
    simp only [Out.el]
    rw [fi_run b f k _ _ (by rw [e];omega) (by rw [e];omega) (by
     show (_ :: s.data.toList).toArray.size+k≤100
     rw [List.size_toArray,List.length_cons,Array.length_toList]
     have:s.data.size=s.size:=rfl
     omega) (by omega) (by omega),digits_step n hz]
    simp
theorem digits_len (n:Int) (h0 : -9223372036854775808≤n) (h1:n≤9223372036854775807):(Lib.decDigits n.natAbs).length≤19:=by
 rw [Lib.decDigits_length]
 by_cases hz:n.natAbs=0
 ·rw [hz,Lib.nDigits_small (by decide)];decide
 ·obtain ⟨k,h2,h3,hk⟩:∃ k,10 ^ k≤n.natAbs∧n.natAbs<10 ^ (k+1)∧k<19:=by
   have:∀ m,n.natAbs<10 ^ m→∃ k,10 ^ k≤n.natAbs∧n.natAbs<10 ^ (k+1)∧k<m:=by
    intro m
    induction m with
    | zero=>intro h;rw [Nat.pow_zero] at h;omega
    | succ m ih =>
     intro h
     by_cases hm:10 ^ m≤n.natAbs
     ·exact ⟨m,hm,h,Nat.lt_succ_self m⟩
     ·obtain ⟨k,a,b,c⟩:=ih (by omega)
      exact ⟨k,a,b,Nat.lt_succ_of_lt c⟩
   exact this 19 (by omega)
  rw [Lib.nDigits_unique k _ h2 h3]
  omega
theorem itoaB_len (n:Int) (h0 : -9223372036854775808≤n) (h1:n≤9223372036854775807):(itoaB n).size≤20:=by
 have:=digits_len n h0 h1
 have e:(itoaB n).size=(Lib.itoa n).length:=by simp [itoaB,ByteArray.size]
 rw [e]
 unfold Lib.itoa
 split
 ·simp only [List.length_cons];omega
 ·rename_i h
  rw [show n.toNat=n.natAbs by omega]
  omega
theorem fmtInt (n:Int) (h0 : -9223372036854775808≤n) (h1:n≤9223372036854775807):q26 n=true∧v26_0 n=itoaB n:=by
 unfold q26 v26_0
 by_cases hz:n=0
 ·subst hz
  refine ⟨rfl,?_⟩
  have:Lib.itoa 0=[48]:=by unfold Lib.itoa;rw [if_neg (by decide)];exact Lib.decDigits_one (i:=0) (by decide)
  unfold itoaB
  rw [this]
  rfl
 ·have hd:digits n=Lib.decDigits n.natAbs:=by unfold digits;rw [if_neg hz]
  have hl:=digits_len n h0 h1
  rw [decide_eq_false hz,fi_run _ _ 19 n ByteArray.empty (by omega) (Nat.lt_succ_self _) (by decide) h0 h1,hd]
  simp only [cond_false,ro]
  rcases Int.lt_or_le n 0 with hn|hn
  ·rw [decide_eq_true hn]
   simp only [cond_true]
   refine ⟨decide_eq_true ?_,?_⟩
   ·simp [ByteArray.size];omega
   ·unfold itoaB Lib.itoa
    rw [if_pos hn]
    apply ByteArray.ext
    simp [ByteArray.data_append]
  ·rw [decide_eq_false (by omega)]
   refine ⟨rfl,?_⟩
   unfold itoaB Lib.itoa
   rw [if_neg (by omega),show n.toNat=n.natAbs by omega]
   simp
theorem fmtInt' (n:Int) (h0 : -9223372036854775808≤n) (h1:n≤9223372036854775807):q29 n=true∧v29_0 n=itoaB n :=
 ⟨by unfold q29 q40;rw [decide_eq_true h0,decide_eq_true h1];rfl,rfl⟩
theorem u8_less:∀ k:Fin 10,IntKind.u8.wrap (48+(k.val:Int) - 48)=(k.val:Int):=by decide +kernel
theorem u8_sub (x:Int) (h0:48≤x) (h1:x≤57):IntKind.u8.wrap (x - 48)=x - 48:=by
 have:=u8_less ⟨(x - 48).toNat,by omega⟩
 simp only at this
 rw [show (48:Int)+(((x - 48).toNat:Nat):Int) - 48=x - 48 by omega] at this
 rw [this]
 omega
theorem pow11 (k:Nat) (h:k≤11):(10:Int) ^ k≤100000000000:=by
 have:(10:Nat) ^ k≤10 ^ 11:=Nat.pow_le_pow_right (by decide) h
 have e:((10:Nat) ^ k:Nat)=((10:Int) ^ k):=by simp
 have h2:((10 ^ k:Nat):Int)≤((10 ^ 11:Nat):Int):=by exact_mod_cast this
 rw [← e]
 simpa using h2
theorem run24 (s:ByteArray) (h:s.size≤1048576):runW (R24_0 s) (((s.size:Int) - 0).toNat+1) (0,0,0)=some ((s.data.toList.take 11).foldl stepN (0,0)):=by
 have hl:=ba_size s
 have hr:=runW_fold (f:=R24_0 s) (fun i (t:Int × Int)=>(t.1,t.2,i)) (min s.size 11:Nat) (fun (i:Int) t=>stepN t ((s.data.toList[i.toNat]?).getD 0)) (fun t=>t) (fun i t=>0≤t.2∧t.2≤i∧0≤t.1∧t.1<(10:Int) ^ t.2.toNat) (fun i t h0 hn hI=>by
  obtain ⟨i0,i1,i2,i3⟩:=hI
  have hp:=pow11 t.2.toNat (by omega)
  have d0:decide (i<(s.size:Int))=true:=decide_eq_true (by omega)
  have d1:decide (i<11)=true:=decide_eq_true (by omega)
  have d2:decide (0≤i)=true:=decide_eq_true h0
  have w1:IntKind.i64.wrap (i+1)=i+1:=wrap_in (by omega) (by omega)
  unfold R24_0 F24_0
  simp only
  rw [d0,d1,d2,ba_at s i.toNat,w1]
  generalize ((s.data.toList[i.toNat]?).getD 0)=b
  by_cases hb0:48≤b.toNat
  ·by_cases hb1:b.toNat≤57
   ·have e:stepN t b=(t.1*10+((b.toNat:Int) - 48),t.2+1):=by unfold stepN;rw [if_pos ⟨hb0,hb1⟩]
    rw [e,decide_eq_true (by omega:(b.toNat:Int) ≥ 48),decide_eq_true (by omega:(b.toNat:Int)≤57),u8_sub _ (by omega) (by omega),wrap_in (a:=t.1*10) (by omega) (by omega),wrap_in (a:=(b.toNat:Int) - 48) (by omega) (by omega),wrap_in (a:=t.1*10+((b.toNat:Int) - 48)) (by omega) (by omega),wrap_in (a:=t.2+1) (by omega) (by omega)]
    refine ⟨rfl,by simp only;omega,by simp only;omega,by simp only;omega,?_⟩
    simp only
    rw [show (t.2+1).toNat=t.2.toNat+1 by omega,Int.pow_succ]
    omega
   ·have e:stepN t b=t:=by unfold stepN;rw [if_neg (by omega)]
    rw [e,decide_eq_true (by omega:(b.toNat:Int) ≥ 48),decide_eq_false (by omega:¬ (b.toNat:Int)≤57)]
    exact ⟨rfl,i0,by omega,i2,i3⟩
  ·have e:stepN t b=t:=by unfold stepN;rw [if_neg (by omega)]
   rw [e,decide_eq_false (by omega:¬ (b.toNat:Int) ≥ 48)]
   exact ⟨rfl,i0,by omega,i2,i3⟩) (fun t _=>by
  unfold R24_0 F24_0
  by_cases hs:s.size<11
  ·rw [decide_eq_false (by omega:¬ ((min s.size 11:Nat):Int)<(s.size:Int))]
   rfl
  ·rw [decide_eq_false (by omega:¬ ((min s.size 11:Nat):Int)<11)]
   cases decide (((min s.size 11:Nat):Int)<(s.size:Int)) <;> rfl) (min s.size 11) (((s.size:Int) - 0).toNat+1) 0 (0,0) (Int.le_refl 0) (by omega) (by omega) ⟨by decide,by decide,by decide,by decide⟩
 have hf:=foldF_list (fun (t:Int × Int) b=>stepN t b) s.data.toList (min s.size 11) 0 (0,0) (by omega)
 rw [Int.ofNat_zero] at hf
 rw [hr,hf,List.drop_zero]
 congr 2
 by_cases hs:s.size<11
 ·rw [show min s.size 11=s.size by omega,List.take_of_length_le (by omega),List.take_of_length_le (by omega)]
 ·rw [show min s.size 11=11 by omega]
theorem P24 (s:ByteArray) (h:s.size≤1048576):q24 s=true∧v24_0 s=(pintN s).getD 0∧v24_1 s=(pintN s).isSome:=by
 have hb:=steps_bound (s.data.toList.take 11) (0,0) (by decide) (by decide) (by decide)
 have hl:=ba_size s
 have key:∀ m:Int,pintN s=some m→s.size≤10∧((s.data.toList.take 11).foldl stepN (0,0)).1=m.natAbs∧((s.data.toList.take 11).foldl stepN (0,0)).2≤9∧s.data.toList=Lib.itoa m∧(-999999999≤m∧m≤999999999):=fun m hm=>by
  obtain ⟨e,m0,m1⟩:=(pint_iff s m).1 hm
  have l10:=itoa_len9 m m0 m1
  have d9:=dd_len 8 m.natAbs (by omega)
  rw [e,List.take_of_length_le (by omega),steps_itoa]
  refine ⟨by rw [hl,e];exact l10,rfl,by simp only;omega,rfl,m0,m1⟩
 have head:∀ m:Int,s.data.toList=Lib.itoa m→0<s.size∧(strAt s (0:Int).toNat=45 ↔ m<0):=fun m e=>by
  refine ⟨by rw [hl,e];exact List.length_pos_iff.2 (itoa_ne m),?_⟩
  rw [ba_at,e]
  unfold Lib.itoa
  split
  ·rename_i hm
   exact ⟨fun _=>hm,fun _=>rfl⟩
  ·rename_i hm
   obtain ⟨b,r,eb⟩:=dd_cons m.toNat
   have:=dd_digit m.toNat b (by rw [eb];exact List.mem_cons_self)
   rw [eb]
   show ((b.toNat:Int)=45) ↔ _
   omega
 have fin:∀ n:Int,-99999999999≤n→n≤99999999999→q26 n=true∧v26_0 n=itoaB n:=fun n a b=>fmtInt n (by omega) (by omega)
 unfold q24 v24_0 v24_1
 rw [run24 s h]
 obtain ⟨b0,b1,b2⟩:=hb
 have kb:((s.data.toList.take 11).foldl stepN (0,0)).2≤9→((s.data.toList.take 11).foldl stepN (0,0)).1≤999999999:=fun hk=>by
  have e:((s.data.toList.take 11).foldl stepN (0,0)).2.toNat≤9:=by omega
  have:(10:Nat) ^ ((s.data.toList.take 11).foldl stepN (0,0)).2.toNat≤10 ^ 9:=Nat.pow_le_pow_right (by decide) e
  have e2:((10 ^ ((s.data.toList.take 11).foldl stepN (0,0)).2.toNat:Nat):Int)=(10:Int) ^ ((s.data.toList.take 11).foldl stepN (0,0)).2.toNat:=by simp
  have e3:((10 ^ ((s.data.toList.take 11).foldl stepN (0,0)).2.toNat:Nat):Int)≤((10 ^ 9:Nat):Int):=by exact_mod_cast this
  rw [e2] at e3
  have e4:((10 ^ 9:Nat):Int)=1000000000:=by decide
  omega
 generalize ht:(s.data.toList.take 11).foldl stepN (0,0)=t at *
 simp only [ro]
 have body:∀ n:Int,-999999999≤n∧n≤999999999∨t.2 > 9→(∀ m,pintN s=some m→m=n) →
   (bif decide (t.2 > 9) then true else (bif decide ((s.size:Int) > 10) then true else q26 n))=true ∧
   (bif decide (t.2 > 9) then 0 else (bif decide ((s.size:Int) > 10) then 0 else (bif !((v26_0 n).toList == s.toList) then 0 else n)))=(pintN s).getD 0 ∧
   (bif decide (t.2 > 9) then false else (bif decide ((s.size:Int) > 10) then false else (bif !((v26_0 n).toList == s.toList) then false else true)))=(pintN s).isSome:=fun n hn hu=>by
  by_cases hk:t.2 > 9
  ·have hN:pintN s=none:=by
    cases hp:pintN s with
    | none=>rfl
    | some m=>exact absurd (key m hp).2.2.1 (by omega)
   rw [decide_eq_true hk,hN]
   exact ⟨rfl,rfl,rfl⟩
  ·have hn' : -999999999≤n∧n≤999999999:=by rcases hn with h|h;exact h;exact absurd h hk
   obtain ⟨f1,f2⟩:=fin n (by omega) (by omega)
   rw [decide_eq_false hk,f1,f2,ba_beq]
   have ei:(itoaB n).data.toList=Lib.itoa n:=ba_mk _
   rw [ei]
   by_cases hz:(s.size:Int) > 10
   ·have hN:pintN s=none:=by
     cases hp:pintN s with
     | none=>rfl
     | some m=>exact absurd (key m hp).1 (by omega)
    rw [decide_eq_true hz,hN]
    exact ⟨rfl,rfl,rfl⟩
   ·rw [decide_eq_false hz]
    by_cases he:Lib.itoa n=s.data.toList
    ·have hp:pintN s=some n:=(pint_iff s n).2 ⟨he.symm,hn'⟩
     rw [decide_eq_true he,hp]
     exact ⟨rfl,rfl,rfl⟩
    ·have hp:pintN s=none:=by
      cases hp:pintN s with
      | none=>rfl
      | some m =>
       obtain rfl:=hu m hp
       exact absurd (key m hp).2.2.2.1.symm he
     rw [decide_eq_false he,hp]
     exact ⟨rfl,rfl,rfl⟩
 by_cases hs:(s.size:Int) > 0
 ·rw [decide_eq_true hs]
  simp only [cond_true,decide_true,Bool.true_and,Int.le_refl,Nat.le_refl]
  by_cases h45:strAt s (0:Int).toNat=45
  ·rw [decide_eq_true h45]
   simp only [cond_true]
   have wr:t.2≤9→IntKind.i64.wrap (0 - t.1) = -t.1:=fun hk=>by rw [wrap_in (by have:=kb hk;omega) (by omega)];omega
   exact body _ (by
    by_cases hk:t.2 > 9
    ·exact .inr hk
    ·have:=kb (by omega)
     rw [wr (by omega)]
     exact .inl ⟨by omega,by omega⟩) (fun m hm=>by
    obtain ⟨k1,k2,k3,k4,k5⟩:=key m hm
    have:=((head m k4).2.1 h45)
    rw [wr k3]
    omega)
  ·rw [decide_eq_false h45]
   simp only [cond_false]
   exact body _ (by
    by_cases hk:t.2 > 9
    ·exact .inr hk
    ·have:=kb (by omega)
     exact .inl ⟨by omega,by omega⟩) (fun m hm=>by
    obtain ⟨k1,k2,k3,k4,k5⟩:=key m hm
    have:¬ m<0:=fun g=>h45 ((head m k4).2.2 g)
    omega)
 ·rw [decide_eq_false hs]
  simp only [cond_false]
  exact body _ (by
   by_cases hk:t.2 > 9
   ·exact .inr hk
   ·have:=kb (by omega)
    exact .inl ⟨by omega,by omega⟩) (fun m hm=>by
   obtain ⟨k1,k2,k3,k4,k5⟩:=key m hm
   exact absurd (head m k4).1 (by omega))
theorem P15 (s:ByteArray) (h:s.size≤1048576):q15 s=true∧(∀ n,pintN s=some n→v15_0 s=n):=by
 obtain ⟨a,b,c⟩:=P24 s h
 refine ⟨a,fun n hn=>?_⟩
 unfold v15_0
 rw [b,c,hn]
 rfl
theorem isR34 (a b:Int):v34_0 a b=decide (okR a b):=by
 unfold v34_0 v25_0 okR
 by_cases h1:a ≥ -1000 <;> by_cases h2:a≤1000 <;> by_cases h3:b ≥ a <;> by_cases h4:b≤1000 <;> simp [h1,h2,h3,h4] <;> omega
theorem itoaB_list (n:Int):(itoaB n).data.toList=Lib.itoa n:=ba_mk _
theorem fmt_bytes (a b:Int):((itoaB a++ByteArray.mk #[46,46])++itoaB b).data.toList=fmtL a b:=by
 have e:(ByteArray.mk #[46,46]).data.toList=[46,46]:=rfl
 simp [ByteArray.data_append,itoaB_list,fmtL,List.append_assoc]
theorem P23 (a b:Int):q23 a b=true∧(okR a b→(v23_0 a b).data.toList=fmtL a b)∧(¬ okR a b→v23_0 a b=ByteArray.empty):=by
 unfold q23 v23_0
 rw [isR34]
 by_cases h:okR a b
 ·rw [decide_eq_true h]
  obtain ⟨h0,h1,h2⟩:=h
  obtain ⟨a1,a2⟩:=fmtInt a (by omega) (by omega)
  obtain ⟨b1,b2⟩:=fmtInt b (by omega) (by omega)
  have la:=itoaB_len a (by omega) (by omega)
  have lb:=itoaB_len b (by omega) (by omega)
  have o2:(ByteArray.mk #[46,46]).size=2:=rfl
  rw [a1,a2,b1,b2]
  refine ⟨?_,fun _=>fmt_bytes a b,fun g=>absurd ⟨h0,h1,h2⟩ g⟩
  simp only [Bool.not_true,cond_false,Bool.true_and,Bool.and_eq_true,decide_eq_true_eq,ByteArray.size_append]
  omega
 ·rw [decide_eq_false h]
  exact ⟨rfl,fun g=>absurd g h,fun _=>rfl⟩
theorem empty_list:ByteArray.empty.data.toList=[]:=rfl
def Rd (s:ByteArray) (x y:Int) (k:Bool):Prop:=(∃ a b,isR s.data.toList a b∧x=a∧y=b∧k=true)∨((∀ a b,¬ isR s.data.toList a b)∧x=0∧y=0∧k=false)
theorem Rd.uniq {s:ByteArray} {x y x' y':Int} {k k':Bool} (h:Rd s x y k) (g:Rd s x' y' k'):x=x'∧y=y'∧k=k':=by
 rcases h with ⟨a,b,h1,rfl,rfl,rfl⟩|⟨h1,rfl,rfl,rfl⟩
 ·rcases g with ⟨c,d,g1,rfl,rfl,rfl⟩|⟨g1,_⟩
  ·obtain ⟨rfl,rfl⟩:=isR_uniq h1 g1
   exact ⟨rfl,rfl,rfl⟩
  ·exact absurd h1 (g1 _ _)
 ·rcases g with ⟨c,d,g1,_⟩|⟨g1,rfl,rfl,rfl⟩
  ·exact absurd g1 (h1 _ _)
  ·exact ⟨rfl,rfl,rfl⟩
theorem eq_isR {s:ByteArray} {a b:Int} (he:(v23_0 a b).data.toList=s.data.toList) (hs:s.data.toList ≠ []):isR s.data.toList a b:=by
 by_cases h:okR a b
 ·exact ⟨h,by rw [← he,(P23 a b).2.1 h]⟩
 ·rw [(P23 a b).2.2 h] at he
  exact absurd he.symm hs
theorem findF_at {p:Int→Bool}:∀ (m k:Nat) (i:Int),k<m→(∀ j:Nat,j<k→p (i+j)=false)→p (i+k)=true→findF p m i=some (i+k)
 | 0,_,_,h,_,_=>by omega
 | m+1,0,i,_,_,h=>by
  rw [Int.ofNat_zero,Int.add_zero] at h
  unfold findF
  rw [h]
  simp
 | m+1,k+1,i,hk,hf,h=>by
  have h0:=hf 0 (by omega)
  rw [Int.ofNat_zero,Int.add_zero] at h0
  unfold findF
  rw [h0]
  have:=findF_at (p:=p) m k (i+1) (by omega) (fun j hj=>by rw [show i+1+(j:Int)=i+((j+1:Nat):Int) by omega];exact hf (j+1) (by omega)) (by rw [show i+1+(k:Int)=i+((k+1:Nat):Int) by omega];exact h)
  simp only [cond_false]
  rw [this]
  congr 1
  omega
def dots (s:ByteArray) (i:Int):Bool:=(s.extract i.toNat (i+2).toNat).toList == (ByteArray.mk #[46,46]).toList
theorem dots_eq (s:ByteArray) (i:Nat):dots s i=decide ((s.data.toList.drop i).take 2=[46,46]):=by
 unfold dots
 rw [ba_beq,Lib.extract_data]
 have:((i:Int)+2).toNat - ((i:Int)).toNat=2:=by omega
 rw [this,Int.toNat_natCast]
def leftS (s:ByteArray) (i:Int):ByteArray:=s.extract (Int.toNat 0) i.toNat
def rightS (s:ByteArray) (i:Int):ByteArray:=s.extract (i+2).toNat (s.size:Int).toNat
def L14 (s:ByteArray) (i:Int):Unit ⊕ (Bool × Int × Int × Int × Int) :=
 bif ((v23_0 (v15_0 (leftS s i)) (v15_0 (rightS s i))).toList == s.toList) then .inr (true,v15_0 (leftS s i),v15_0 (rightS s i),v15_0 (leftS s i),v15_0 (rightS s i)) else .inr (false,0,0,v15_0 (leftS s i),v15_0 (rightS s i))
theorem run14 (s:ByteArray) (h:s.size≤1048576):runW (R14_0 s 0 0) (((s.size:Int) - IntKind.i64.wrap (0+1)).toNat+1) 0=some (ro (findF (dots s) (s.size - 1) 0) (.inl ()) (L14 s)):=by
 have hl:=ba_size s
 rw [wrap_in (a:=0+1) (by omega) (by omega)]
 exact runW_find (f:=R14_0 s 0 0) (fun i=>i) ((s.size - 1:Nat):Int) (dots s) (.inl ()) (L14 s) (fun i h0 hn=>by
  have w1:IntKind.i64.wrap (i+1)=i+1:=wrap_in (by omega) (by omega)
  have w2:IntKind.i64.wrap (i+2)=i+2:=wrap_in (by omega) (by omega)
  have d0:decide (i+1<(s.size:Int))=true:=decide_eq_true (by omega)
  have d1:decide (0≤i)=true:=decide_eq_true h0
  have d2:decide (i≤i+2)=true:=decide_eq_true (by omega)
  have d3:decide (i+2≤(s.size:Int))=true:=decide_eq_true (by omega)
  have d4:decide (i≤(s.size:Int))=true:=decide_eq_true (by omega)
  have d5:decide (0≤i+2)=true:=decide_eq_true (by omega)
  have d6:decide ((s.size:Int)≤(s.size:Int))=true:=decide_eq_true (Int.le_refl _)
  have d7:decide ((0:Nat)≤0)=true:=rfl
  have z1:(leftS s i).size≤1048576:=by
   rw [ba_size];unfold leftS;rw [Lib.extract_data,List.length_take,List.length_drop];omega
  have z2:(rightS s i).size≤1048576:=by
   rw [ba_size];unfold rightS;rw [Lib.extract_data,List.length_take,List.length_drop];omega
  have q1:q15 (s.extract (Int.toNat 0) (Int.toNat i))=true:=(P15 (leftS s i) z1).1
  have q2:q15 (s.extract (Int.toNat (i+2)) (Int.toNat (s.size:Int)))=true:=(P15 (rightS s i) z2).1
  unfold R14_0 F14_0
  rw [w1,w2,d0,d1,d2,d3,d4,d5,d6,d7,q1,q2,(P23 _ _).1]
  show (bif dots s i then (bif ((v23_0 (v15_0 (leftS s i)) (v15_0 (rightS s i))).toList == s.toList) then _ else _) else _)=_
  unfold L14
  cases dots s i
  ·rfl
  ·cases ((v23_0 (v15_0 (leftS s i)) (v15_0 (rightS s i))).toList == s.toList) <;> rfl) (by
  unfold R14_0 F14_0
  rw [wrap_in (a:=((s.size - 1:Nat):Int)+1) (by omega) (by omega)]
  by_cases hz:s.size=0
  ·rw [decide_eq_false (by omega)]
   rfl
  ·rw [decide_eq_false (by omega)]
   rfl) (s.size - 1) (((s.size:Int) - (0+1)).toNat+1) 0 (Int.le_refl 0) (by omega) (by omega)
theorem P14 (s:ByteArray) (h:s.size≤1048576):q14 s=true∧Rd s (v14_0 s) (v14_1 s) (v14_2 s):=by
 have hl:=ba_size s
 unfold q14 v14_0 v14_1 v14_2
 rw [run14 s h]
 by_cases hx:∃ a b,isR s.data.toList a b
 ·obtain ⟨a,b,g⟩:=hx
  obtain ⟨⟨g0,g1,g2⟩,e⟩:=g
  have hlen:s.size=(Lib.itoa a).length+2+(Lib.itoa b).length:=by
   rw [hl,e];unfold fmtL;simp only [List.length_append,List.length_cons];omega
  have hf:findF (dots s) (s.size - 1) 0=some (0+((Lib.itoa a).length:Int)):=findF_at _ _ 0 (by omega) (fun j hj=>by
   rw [Int.zero_add,dots_eq]
   refine decide_eq_false fun g=>?_
   rw [e] at g
   unfold fmtL at g
   rw [List.drop_append_of_le_length (by omega),List.drop_eq_getElem_cons hj] at g
   simp only [List.cons_append,List.take_succ_cons,List.cons.injEq] at g
   exact itoa_no46 a _ (List.getElem_mem hj) g.1) (by
   rw [Int.zero_add,dots_eq]
   refine decide_eq_true ?_
   rw [e]
   unfold fmtL
   rw [List.drop_left' rfl]
   rfl)
  rw [hf,Int.zero_add]
  have e1:(leftS s ((Lib.itoa a).length:Int)).data.toList=Lib.itoa a:=by
   unfold leftS
   rw [Lib.extract_data,e]
   unfold fmtL
   simp
  have e2:(rightS s ((Lib.itoa a).length:Int)).data.toList=Lib.itoa b:=by
   unfold rightS
   rw [Lib.extract_data,e]
   unfold fmtL
   rw [show ((Lib.itoa a).length+2:Int).toNat=(Lib.itoa a).length+2 by omega,List.drop_append]
   simp only [Nat.le_add_right,List.drop_eq_nil_of_le,List.nil_append,Nat.add_sub_cancel_left,List.drop_succ_cons,List.drop_zero]
   exact List.take_of_length_le (by omega)
  have s1:(leftS s ((Lib.itoa a).length:Int)).size≤1048576:=by rw [ba_size,e1];omega
  have s2:(rightS s ((Lib.itoa a).length:Int)).size≤1048576:=by rw [ba_size,e2];omega
  have n1:=(P15 _ s1).2 a ((pint_iff _ a).2 ⟨e1,by omega,by omega⟩)
  have n2:=(P15 _ s2).2 b ((pint_iff _ b).2 ⟨e2,by omega,by omega⟩)
  have k:((v23_0 a b).toList == s.toList)=true:=by
   rw [ba_beq,(P23 a b).2.1 ⟨g0,g1,g2⟩,e]
   simp
  simp only [ro]
  unfold L14
  rw [n1,n2,k]
  exact ⟨rfl,.inl ⟨a,b,⟨⟨g0,g1,g2⟩,e⟩,rfl,rfl,rfl⟩⟩
 ·have hx':∀ a b,¬ isR s.data.toList a b:=fun a b g=>hx ⟨a,b,g⟩
  cases hf:findF (dots s) (s.size - 1) 0 with
  | none=>exact ⟨rfl,.inr ⟨hx',rfl,rfl,rfl⟩⟩
  | some i =>
   obtain ⟨i0,i1,_⟩:=findF_some _ _ hf
   have hne:s.data.toList ≠ []:=fun g=>by rw [g,List.length_nil] at hl;omega
   have k:((v23_0 (v15_0 (leftS s i)) (v15_0 (rightS s i))).toList == s.toList)=false:=by
    rw [ba_beq]
    exact decide_eq_false fun g=>hx' _ _ (eq_isR g hne)
   simp only [ro]
   unfold L14
   rw [k]
   exact ⟨rfl,.inr ⟨hx',rfl,rfl,rfl⟩⟩
def gC (t:ByteArray × List AV) (b:UInt8):ByteArray × List AV:=if b=32 then (ByteArray.empty,t.2++[AV.str t.1]) else (t.1++⟨#[b]⟩,t.2)
theorem gC_fold:∀ (l:List UInt8) (t:ByteArray × List AV),(l.foldl gC t).2++[AV.str (l.foldl gC t).1]=t.2++(pcs 32 t.1.data.toList l).map txt
 | [],t=>by
  show t.2++[AV.str t.1]=t.2++[AV.str ⟨t.1.data.toList.toArray⟩]
  rw [show (⟨t.1.data.toList.toArray⟩:ByteArray)=t.1 from ba_ext (by simp)]
 | b :: l,t=>by
  have e:∀ p,pcs 32 p (b :: l)=if b=32 then p :: pcs 32 [] l else pcs 32 (p++[b]) l:=fun p=>by rw [pcs]
  rw [List.foldl_cons,gC_fold l,e]
  unfold gC
  split
  ·rw [List.map_cons,List.append_assoc]
   show t.2++([AV.str t.1]++_)=t.2++(AV.str ⟨t.1.data.toList.toArray⟩ :: _)
   rw [show (⟨t.1.data.toList.toArray⟩:ByteArray)=t.1 from ba_ext (by simp)]
   rfl
  ·have:(t.1++⟨#[b]⟩:ByteArray).data.toList=t.1.data.toList++[b]:=by simp [ByteArray.data_append]
   simp only
   rw [this]
theorem P13 (s:ByteArray) (h:s.size≤1048576):q13 s 32=true∧v13_0 s 32=(pcs 32 [] s.data.toList).map txt:=by
 have hl:=ba_size s
 have hr:=runW_fold (f:=R13_0 s 32) (fun i (t:ByteArray × List AV)=>(t.1,i,t.2)) s.size (fun (i:Int) t=>gC t ((s.data.toList[i.toNat]?).getD 0)) (fun t=>t) (fun i t=>(t.2.length:Int)≤i∧(t.1.size:Int)≤i) (fun i t h0 hn hI=>by
  obtain ⟨i1,i2⟩:=hI
  have hb:s.data.toList[i.toNat]?=some (s.data.toList[i.toNat]'(by omega)):=List.getElem?_eq_getElem (by omega)
  have w1:IntKind.i64.wrap (i+1)=i+1:=wrap_in (by omega) (by omega)
  have d0:decide (i<(s.size:Int))=true:=decide_eq_true hn
  have d1:decide (0≤i)=true:=decide_eq_true h0
  have d2:decide (i≤i+1)=true:=decide_eq_true (by omega)
  have d3:decide (i+1≤(s.size:Int))=true:=decide_eq_true (by omega)
  have ex:s.extract (Int.toNat i) (Int.toNat (i+1))=⟨#[(s.data.toList[i.toNat]?).getD 0]⟩:=ba_ext (by
   rw [Lib.extract_data,show (i+1).toNat - i.toNat=1 by omega,List.drop_eq_getElem_cons (by omega),hb]
   rfl)
  have d4:∀ x:AV,decide ((t.2.length+([x]).length)*16≤140737488355328)=true:=fun x=>decide_eq_true (by simp only [List.length_cons,List.length_nil];omega)
  have d5:∀ x:AV,decide ((t.2.length+([x]).length)≤140737488355328)=true:=fun x=>decide_eq_true (by simp only [List.length_cons,List.length_nil];omega)
  unfold R13_0 F13_0
  simp only
  rw [ba_at s i.toNat,w1,d0,d1,d2,d3,ex,d4,d5]
  generalize (s.data.toList[i.toNat]?).getD 0=b
  have o1:(ByteArray.mk #[b]).size=1:=rfl
  have d6:decide (t.1.size+(ByteArray.mk #[b]).size≤4611686018427387904)=true:=decide_eq_true (by omega)
  rw [d6]
  by_cases hc:b=32
  ·subst hc
   refine ⟨rfl,?_⟩
   show ((t.2++[AV.str t.1]).length:Int)≤i+1∧((ByteArray.empty.size:Nat):Int)≤i+1
   rw [List.length_append]
   have:ByteArray.empty.size=0:=rfl
   simp only [List.length_cons,List.length_nil]
   omega
  ·have hc':decide ((b.toNat:Int)=32)=false:=decide_eq_false fun g=>hc (UInt8.toNat_inj.1 (by show b.toNat=32;omega))
   have e:gC t b=(t.1++⟨#[b]⟩,t.2):=by unfold gC;rw [if_neg hc]
   rw [hc',e]
   refine ⟨rfl,by simp only;omega,?_⟩
   show (((t.1++⟨#[b]⟩:ByteArray).size:Nat):Int)≤i+1
   rw [ByteArray.size_append]
   omega) (fun t _=>by
  unfold R13_0 F13_0
  rw [decide_eq_false (Int.lt_irrefl _)]
  rfl) s.size (((s.size:Int) - 0).toNat+1) 0 (ByteArray.empty,[]) (Int.le_refl 0) (by omega) (by omega) ⟨by simp,by decide⟩
 have hf:=foldF_list gC s.data.toList s.size 0 (ByteArray.empty,[]) (by omega)
 rw [Int.ofNat_zero] at hf
 rw [List.drop_zero,List.take_of_length_le (by omega)] at hf
 rw [hf] at hr
 have hg:=gC_fold s.data.toList (ByteArray.empty,[])
 have hn:=pcs_len 32 s.data.toList []
 have hgl:(s.data.toList.foldl gC (ByteArray.empty,[])).2.length+1≤s.size+1:=by
  have:=congrArg List.length hg
  rw [List.length_append,List.length_append,List.length_map,empty_list] at this
  simp only [List.length_cons,List.length_nil] at this
  omega
 unfold q13 v13_0
 rw [hr]
 simp only [ro]
 rw [hg]
 refine ⟨?_,rfl⟩
 simp only [List.length_cons,List.length_nil,Bool.and_eq_true,decide_eq_true_eq]
 omega
end Go.Proofs.YtcondihilccdpaaDoor
