import Derived.Test.YtcondihilccdpaaDoorVEze
import Derived.Test.YtcondihilccdpaaDoorVEy
import Derived.Lib.AtoiTie
namespace Go.Proofs.YtcondihilccdpaaDoor
open Go Go.Proofs.VE
set_option linter.unusedVariables false
set_option linter.unusedSimpArgs false
theorem digit_byte (d:Nat) (h:d<10):48≤(UInt8.ofNat (48+d)).toNat∧(UInt8.ofNat (48+d)).toNat≤57∧Lib.digitVal (UInt8.ofNat (48+d))=some d:=by
 have:∀ k:Fin 10,48≤(UInt8.ofNat (48+k.val)).toNat∧(UInt8.ofNat (48+k.val)).toNat≤57∧Lib.digitVal (UInt8.ofNat (48+k.val))=some k.val:=by decide
 exact this ⟨d,h⟩
theorem dd_digit (u:Nat):∀ b ∈ Lib.decDigits u,48≤b.toNat∧b.toNat≤57:=by
 induction u using Nat.strongRecOn with
 | _ u ih =>
  rw [Lib.decDigits]
  split
  ·rename_i h
   intro b hb
   obtain rfl:=List.mem_singleton.1 hb
   exact ⟨(digit_byte u h).1,(digit_byte u h).2.1⟩
  ·rename_i h
   intro b hb
   rcases List.mem_append.1 hb with h1|h1
   ·exact ih (u / 10) (by omega) b h1
   ·obtain rfl:=List.mem_singleton.1 h1
    have:=digit_byte (u % 10) (Nat.mod_lt _ (by decide))
    exact ⟨this.1,this.2.1⟩
theorem from_snoc (b:UInt8):∀ (l:List UInt8) (acc:Nat),Lib.decFrom acc (l++[b])=(Lib.decFrom acc l).bind fun m=>(Lib.digitVal b).map fun d=>m*10+d
 | [],acc=>by
  show Lib.decFrom acc [b]=(Lib.digitVal b).map fun d=>acc*10+d
  unfold Lib.decFrom
  cases Lib.digitVal b <;> rfl
 | a :: l,acc=>by
  show Lib.decFrom acc (a :: (l++[b]))=_
  unfold Lib.decFrom
  cases Lib.digitVal a with
  | none=>rfl
  | some d=>exact from_snoc b l _
theorem dd_from (u:Nat):Lib.decFrom 0 (Lib.decDigits u)=some u:=by
 induction u using Nat.strongRecOn with
 | _ u ih =>
  rw [Lib.decDigits]
  split
  ·rename_i h
   unfold Lib.decFrom
   rw [(digit_byte u h).2.2]
   simp [Lib.decFrom]
  ·rename_i h
   rw [from_snoc,ih (u / 10) (by omega),(digit_byte (u % 10) (Nat.mod_lt _ (by decide))).2.2]
   simp only [Option.bind_some,Option.map_some,Option.some.injEq]
   omega
theorem dd_cons (u:Nat):∃ b r,Lib.decDigits u=b :: r:=by
 cases h:Lib.decDigits u with
 | nil =>
  have h1:=Lib.decDigits_length u
  have h2:=Lib.nDigits_pos u
  rw [h,List.length_nil] at h1
  omega
 | cons b r=>exact ⟨b,r,rfl⟩
theorem dd_nat (u:Nat):Lib.decNat (Lib.decDigits u)=some u:=by
 unfold Lib.decNat
 rw [dd_from]
 obtain ⟨b,r,e⟩:=dd_cons u
 rw [e]
 rfl
theorem atoi_itoa (n:Int):Lib.atoi (Lib.itoa n)=some n:=by
 unfold Lib.itoa
 split
 ·rename_i h
  unfold Lib.atoi
  simp only [beq_self_eq_true,if_true]
  rw [dd_nat]
  simp only [Option.map_some,Option.some.injEq]
  omega
 ·rename_i h
  obtain ⟨b,r,e⟩:=dd_cons n.toNat
  have hb:=dd_digit n.toNat b (by rw [e];exact List.mem_cons_self)
  have n45:(b == 45)=false:=beq_eq_false_iff_ne.2 fun g=>by subst g;exact absurd hb.1 (by decide)
  have n43:(b == 43)=false:=beq_eq_false_iff_ne.2 fun g=>by subst g;exact absurd hb.1 (by decide)
  rw [e]
  unfold Lib.atoi
  simp only [n45,n43,Bool.false_eq_true,if_false]
  rw [← e,dd_nat]
  simp only [Option.map_some,Option.some.injEq]
  omega
theorem itoa_inj {a b:Int} (h:Lib.itoa a=Lib.itoa b):a=b:=by
 have:=atoi_itoa a
 rw [h,atoi_itoa] at this
 exact (Option.some.inj this).symm
theorem itoa_byte (n:Int):∀ b ∈ Lib.itoa n,b=45∨(48≤b.toNat∧b.toNat≤57):=by
 intro b hb
 unfold Lib.itoa at hb
 split at hb
 ·rcases List.mem_cons.1 hb with h|h
  ·exact .inl h
  ·exact .inr (dd_digit _ b h)
 ·exact .inr (dd_digit _ b hb)
theorem itoa_no (n:Int) (c:UInt8) (hc:c.toNat<45∨(45<c.toNat∧c.toNat<48)∨57<c.toNat):∀ b ∈ Lib.itoa n,b ≠ c:=fun b hb h=>by
 subst h
 rcases itoa_byte n b hb with h|h
 ·subst h
  revert hc
  decide
 ·omega
theorem dd_len:∀ (k u:Nat),u<10 ^ (k+1)→(Lib.decDigits u).length≤k+1
 | 0,u,h=>by
  rw [Lib.decDigits,dif_pos (by simpa using h)]
  simp
 | k+1,u,h=>by
  rw [Lib.decDigits]
  split
  ·simp
  ·have:u / 10<10 ^ (k+1):=by rw [Nat.pow_succ] at h;omega
   have:=dd_len k (u / 10) this
   rw [List.length_append,List.length_singleton]
   omega
theorem itoa_ne (n:Int):Lib.itoa n ≠ []:=by
 unfold Lib.itoa
 split
 ·simp
 ·obtain ⟨b,r,e⟩:=dd_cons n.toNat
  rw [e]
  simp
theorem itoa_len9 (n:Int) (h0 : -999999999≤n) (h1:n≤999999999):(Lib.itoa n).length≤10:=by
 unfold Lib.itoa
 split
 ·have:=dd_len 8 n.natAbs (by omega)
  rw [List.length_cons]
  omega
 ·have:=dd_len 8 n.toNat (by omega)
  omega
theorem pint_iff (s:ByteArray) (n:Int):pintN s=some n ↔ s.data.toList=Lib.itoa n ∧ -999999999≤n∧n≤999999999:=by
 constructor
 ·intro h
  unfold pintN at h
  split at h
  ·rename_i v hv
   cases hc:(Lib.itoa v == s.data.toList) && (decide (-999999999≤v) && decide (v≤999999999)) with
   | false=>rw [hc] at h;cases h
   | true =>
    rw [hc] at h
    obtain rfl:=Option.some.inj h
    simp only [Bool.and_eq_true,beq_iff_eq,decide_eq_true_eq] at hc
    exact ⟨hc.1.symm,hc.2⟩
  ·cases h
 ·rintro ⟨h,h0,h1⟩
  have hl:=itoa_len9 n h0 h1
  unfold pintN
  rw [h,Lib.atoiAll_short _ (by omega),atoi_itoa]
  show (bif (Lib.itoa n == Lib.itoa n) && (decide (-999999999≤n) && decide (n≤999999999)) then some n else none)=some n
  rw [beq_self_eq_true,decide_eq_true h0,decide_eq_true h1]
  rfl
theorem pint_itoa {s:ByteArray} {n:Int} (h:s.data.toList=Lib.itoa n) (h0 : -999999999≤n) (h1:n≤999999999):(pintN s).getD 0=n∧(pintN s).isSome=true:=by
 rw [(pint_iff s n).2 ⟨h,h0,h1⟩]
 exact ⟨rfl,rfl⟩
def stepN (t:Int × Int) (b:UInt8):Int × Int:=if 48≤b.toNat∧b.toNat≤57 then (t.1*10+((b.toNat:Int) - 48),t.2+1) else t
theorem steps_digits:∀ (l:List UInt8) (acc:Nat) (k:Int) (v:Nat),(∀ b ∈ l,48≤b.toNat∧b.toNat≤57)→Lib.decFrom acc l=some v→l.foldl stepN ((acc:Int),k)=((v:Int),k+l.length)
 | [],acc,k,v,_,h=>by
  unfold Lib.decFrom at h
  obtain rfl:=Option.some.inj h
  simp
 | b :: l,acc,k,v,hb,h=>by
  have h1:=hb b List.mem_cons_self
  unfold Lib.decFrom at h
  have hd:Lib.digitVal b=some (b.toNat - 48):=by unfold Lib.digitVal;rw [if_pos h1]
  rw [hd] at h
  have e:stepN ((acc:Int),k) b=(((acc*10+(b.toNat - 48):Nat):Int),k+1):=by
   unfold stepN
   rw [if_pos h1]
   simp only [Prod.mk.injEq,and_true]
   omega
  rw [List.foldl_cons,e,steps_digits l _ (k+1) v (fun b h=>hb b (List.mem_cons_of_mem _ h)) h,List.length_cons]
  simp only [Prod.mk.injEq,true_and]
  omega
theorem steps_itoa (n:Int):(Lib.itoa n).foldl stepN (0,0)=((n.natAbs:Int),((Lib.decDigits n.natAbs).length:Int)):=by
 unfold Lib.itoa
 split
 ·rename_i h
  have e:stepN (0,0) 45=(0,0):=rfl
  rw [List.foldl_cons,e]
  have:=steps_digits (Lib.decDigits n.natAbs) 0 0 _ (dd_digit _) (dd_from _)
  simp only [Int.ofNat_zero,Int.zero_add] at this
  exact this
 ·rename_i h
  have:=steps_digits (Lib.decDigits n.toNat) 0 0 _ (dd_digit _) (dd_from _)
  simp only [Int.ofNat_zero,Int.zero_add] at this
  rw [show n.natAbs=n.toNat by omega]
  exact this
theorem steps_bound:∀ (l:List UInt8) (t:Int × Int),0≤t.2→0≤t.1→t.1<(10:Int) ^ t.2.toNat→0≤(l.foldl stepN t).2∧0≤(l.foldl stepN t).1∧(l.foldl stepN t).1<(10:Int) ^ (l.foldl stepN t).2.toNat
 | [],t,h0,h1,h2=>⟨h0,h1,h2⟩
 | b :: l,t,h0,h1,h2=>by
  rw [List.foldl_cons]
  by_cases hb:48≤b.toNat∧b.toNat≤57
  ·have e:stepN t b=(t.1*10+((b.toNat:Int) - 48),t.2+1):=by unfold stepN;rw [if_pos hb]
   rw [e]
   refine steps_bound l _ (by simp only;omega) (by simp only;omega) ?_
   simp only
   rw [show (t.2+1).toNat=t.2.toNat+1 by omega,Int.pow_succ]
   omega
  ·have e:stepN t b=t:=by unfold stepN;rw [if_neg hb]
   rw [e]
   exact steps_bound l t h0 h1 h2
theorem ba_ext {a b:ByteArray} (h:a.data.toList=b.data.toList):a=b:=ByteArray.ext (Array.toList_inj.1 h)
theorem ba_beq (a b:ByteArray):(a.toList == b.toList)=decide (a.data.toList=b.data.toList):=by
 rw [Lib.toList_data,Lib.toList_data]
 by_cases h:a.data.toList=b.data.toList
 ·rw [h,beq_self_eq_true]
  simp
 ·rw [decide_eq_false h]
  exact beq_eq_false_iff_ne.2 h
theorem ba_size (a:ByteArray):a.size=a.data.toList.length:=by rw [Array.length_toList];rfl
theorem ba_mk (l:List UInt8):(ByteArray.mk l.toArray).data.toList=l:=by simp
theorem ba_at (s:ByteArray) (i:Nat):strAt s i=(((s.data.toList[i]?).getD 0).toNat:Int):=by
 unfold strAt
 congr 2
 by_cases h:i<s.size
 ·rw [getElem?_pos s i h,List.getElem?_eq_getElem (by rw [← ba_size];exact h)]
  rfl
 ·rw [getElem?_neg s i h,List.getElem?_eq_none (by rw [← ba_size];omega)]
theorem foldF_list {T:Type} (f:T→UInt8→T) (S:List UInt8):∀ (m i:Nat) (t:T),i+m≤S.length→foldF (fun (k:Int) t=>f t ((S[k.toNat]?).getD 0)) m (i:Int) t=((S.drop i).take m).foldl f t
 | 0,i,t,_=>by simp [foldF]
 | m+1,i,t,h=>by
  show foldF _ m ((i:Int)+1) (f t ((S[((i:Int)).toNat]?).getD 0))=_
  have e:S.drop i=S[i] :: S.drop (i+1):=List.drop_eq_getElem_cons (by omega)
  have:=foldF_list f S m (i+1) (f t ((S[((i:Int)).toNat]?).getD 0)) (by omega)
  rw [show (((i+1:Nat):Int))=(i:Int)+1 by omega] at this
  rw [this,e,List.take_succ_cons,List.foldl_cons,Int.toNat_natCast,List.getElem?_eq_getElem (by omega)]
  rfl
end Go.Proofs.YtcondihilccdpaaDoor
