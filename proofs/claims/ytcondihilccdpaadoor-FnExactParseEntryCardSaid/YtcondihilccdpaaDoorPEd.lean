import Derived.Test.YtcondihilccdpaaDoorPEc
namespace Go.Proofs.YtcondihilccdpaaDoor
open Go Go.Proofs.VE
set_option linter.unusedVariables false
set_option linter.unusedSimpArgs false
def bs (l:List UInt8):ByteArray:=⟨l.toArray⟩
def wB:List UInt8:=[98,101,103,105,110]
def wS:List UInt8:=[115,119,97,112]
def wN:List UInt8:=[101,110,100]
def okB (k a b c:Int):Prop:=(k=1 ∧ -1000≤a∧a≤1000∧0≤b∧b≤c∧c≤64)∨(k=2∧0≤a∧a<b∧b<64∧c=0)∨(k=3 ∧ -1000≤a∧a≤1000∧0≤b∧b≤64∧c=0)
instance (k a b c:Int):Decidable (okB k a b c):=by unfold okB;infer_instance
def wordsN (k a b c:Int):List (List UInt8):=if k=1 then [wB,Lib.itoa a,[105,110],fmtL b c] else if k=2 then [wS,Lib.itoa a,Lib.itoa b] else [wN,Lib.itoa a,[97,116],Lib.itoa b]
def isN (S:List UInt8) (k a b c:Int):Prop:=okB k a b c∧S=jn 32 (wordsN k a b c)
def small (a:Int):Prop := -999999999≤a∧a≤999999999
theorem lit_list (l:List UInt8):(ByteArray.mk l.toArray).data.toList=l:=by simp
theorem P16 (k a b c:Int) (ha:small a) (hb:small b) (hc:small c):q16 k a b c=true∧(v16_0 k a b c).data.toList=if okB k a b c then jn 32 (wordsN k a b c) else []:=by
 obtain ⟨a0,a1⟩:=ha
 obtain ⟨b0,b1⟩:=hb
 obtain ⟨c0,c1⟩:=hc
 obtain ⟨a2,a3⟩:=fmtInt a (by omega) (by omega)
 obtain ⟨b2,b3⟩:=fmtInt b (by omega) (by omega)
 obtain ⟨c2,c3⟩:=fmtInt c (by omega) (by omega)
 have la:=itoaB_len a (by omega) (by omega)
 have lb:=itoaB_len b (by omega) (by omega)
 have lc:=itoaB_len c (by omega) (by omega)
 have o1:(ByteArray.mk #[98,101,103,105,110,32]).size=6:=rfl
 have o2:(ByteArray.mk #[32,105,110,32]).size=4:=rfl
 have o3:(ByteArray.mk #[46,46]).size=2:=rfl
 have o4:(ByteArray.mk #[115,119,97,112,32]).size=5:=rfl
 have o5:(ByteArray.mk #[32]).size=1:=rfl
 have o6:(ByteArray.mk #[101,110,100,32]).size=4:=rfl
 have o7:(ByteArray.mk #[32,97,116,32]).size=4:=rfl
 have w1:IntKind.i64.wrap (b - 1)=b - 1:=wrap_in (by omega) (by omega)
 unfold q16 v16_0 v25_0
 rw [a2,a3,b2,b3,c2,c3,w1]
 by_cases k1:k=1
 ·subst k1
  by_cases g:okB 1 a b c
  ·have g' : -1000≤a∧a≤1000∧0≤b∧b≤c∧c≤64:=by unfold okB at g;omega
   rw [if_pos g]
   simp only [decide_eq_true g'.1,decide_eq_true g'.2.1,decide_eq_true g'.2.2.1,decide_eq_true g'.2.2.2.1,decide_eq_true g'.2.2.2.2,decide_true,cond_true,ge_iff_le,Bool.true_and,Bool.and_eq_true,decide_eq_true_eq,ByteArray.size_append]
   refine ⟨by omega,?_⟩
   simp [ByteArray.data_append,itoaB_list,wordsN,jn,fmtL,wB]
  ·rw [if_neg g]
   unfold okB at g
   by_cases g1:a ≥ -1000 <;> by_cases g2:a≤1000 <;> by_cases g3:b ≥ 0 <;> by_cases g4:b≤c <;> by_cases g5:c≤64 <;> first|(exfalso;omega)|(simp [g1,g2,g3,g4,g5];done)
 ·by_cases k2:k=2
  ·subst k2
   by_cases g:okB 2 a b c
   ·have g':0≤a∧a<b∧b<64∧c=0:=by unfold okB at g;omega
    have g2:a≤b - 1:=by omega
    rw [if_pos g]
    simp only [decide_eq_true g'.1,decide_eq_true g2,decide_eq_true g'.2.2.1,decide_eq_true g'.2.2.2,decide_true,cond_true,ge_iff_le,Bool.true_and,Bool.and_eq_true,decide_eq_true_eq,ByteArray.size_append,(by decide:decide ((2:Int)=1)=false),cond_false]
    refine ⟨by omega,?_⟩
    simp [ByteArray.data_append,itoaB_list,wordsN,jn,wS]
   ·rw [if_neg g]
    unfold okB at g
    by_cases g1:a ≥ 0 <;> by_cases g2:a≤b - 1 <;> by_cases g3:b<64 <;> by_cases g4:c=0 <;> first|(exfalso;omega)|(simp [g1,g2,g3,g4];done)
  ·by_cases k3:k=3
   ·subst k3
    by_cases g:okB 3 a b c
    ·have g' : -1000≤a∧a≤1000∧0≤b∧b≤64∧c=0:=by unfold okB at g;omega
     rw [if_pos g]
     simp only [decide_eq_true g'.1,decide_eq_true g'.2.1,decide_eq_true g'.2.2.1,decide_eq_true g'.2.2.2.1,decide_eq_true g'.2.2.2.2,decide_true,cond_true,ge_iff_le,Bool.true_and,Bool.and_eq_true,decide_eq_true_eq,ByteArray.size_append,(by decide:decide ((3:Int)=1)=false),(by decide:decide ((3:Int)=2)=false),cond_false]
     refine ⟨by omega,?_⟩
     simp [ByteArray.data_append,itoaB_list,wordsN,jn,wN]
    ·rw [if_neg g]
     unfold okB at g
     by_cases g1:a ≥ -1000 <;> by_cases g2:a≤1000 <;> by_cases g3:b ≥ 0 <;> by_cases g4:b≤64 <;> by_cases g5:c=0 <;> first|(exfalso;omega)|(simp [g1,g2,g3,g4,g5];done)
   ·have g:¬ okB k a b c:=by unfold okB;omega
    rw [if_neg g]
    simp [k1,k2,k3]
theorem P19 (k a b c:Int) (ha:small a) (hb:small b) (hc:small c):q19 k a b c=true∧v19_0 k a b c=v16_0 k a b c:=by
 obtain ⟨a0,a1⟩:=ha
 obtain ⟨b0,b1⟩:=hb
 obtain ⟨c0,c1⟩:=hc
 obtain ⟨a2,a3⟩:=fmtInt a (by omega) (by omega)
 obtain ⟨b2,b3⟩:=fmtInt b (by omega) (by omega)
 obtain ⟨c2,c3⟩:=fmtInt c (by omega) (by omega)
 obtain ⟨A2,A3⟩:=fmtInt' a (by omega) (by omega)
 obtain ⟨B2,B3⟩:=fmtInt' b (by omega) (by omega)
 obtain ⟨C2,C3⟩:=fmtInt' c (by omega) (by omega)
 have la:=itoaB_len a (by omega) (by omega)
 have lb:=itoaB_len b (by omega) (by omega)
 have lc:=itoaB_len c (by omega) (by omega)
 have o1:(ByteArray.mk #[98,101,103,105,110,32]).size=6:=rfl
 have o2:(ByteArray.mk #[32,105,110,32]).size=4:=rfl
 have o3:(ByteArray.mk #[46,46]).size=2:=rfl
 have o4:(ByteArray.mk #[115,119,97,112,32]).size=5:=rfl
 have o5:(ByteArray.mk #[32]).size=1:=rfl
 have o6:(ByteArray.mk #[101,110,100,32]).size=4:=rfl
 have o7:(ByteArray.mk #[32,97,116,32]).size=4:=rfl
 have w1:IntKind.i64.wrap (b - 1)=b - 1:=wrap_in (by omega) (by omega)
 have w2:decide (a≤b - 1)=decide (a<b):=by
  by_cases h:a<b
  ·rw [decide_eq_true h,decide_eq_true (by omega)]
  ·rw [decide_eq_false h,decide_eq_false (by omega)]
 unfold q19 v19_0 v16_0 v25_0 v30_0
 rw [a3,b3,c3,A2,B2,C2,A3,B3,C3,w1,w2]
 generalize itoaB a=A at *
 generalize itoaB b=B at *
 generalize itoaB c=C at *
 simp only [ByteArray.size_append,o1,o2,o3,o4,o5,o6,o7]
 have d1:decide (6+A.size≤4611686018427387904)=true:=decide_eq_true (by omega)
 have d2:decide (6+A.size+4≤4611686018427387904)=true:=decide_eq_true (by omega)
 have d3:decide (6+A.size+4+B.size≤4611686018427387904)=true:=decide_eq_true (by omega)
 have d4:decide (6+A.size+4+B.size+2≤4611686018427387904)=true:=decide_eq_true (by omega)
 have d5:decide (6+A.size+4+B.size+2+C.size≤4611686018427387904)=true:=decide_eq_true (by omega)
 have d6:decide (5+A.size≤4611686018427387904)=true:=decide_eq_true (by omega)
 have d7:decide (5+A.size+1≤4611686018427387904)=true:=decide_eq_true (by omega)
 have d8:decide (5+A.size+1+B.size≤4611686018427387904)=true:=decide_eq_true (by omega)
 have d9:decide (4+A.size≤4611686018427387904)=true:=decide_eq_true (by omega)
 have da:decide (4+A.size+4≤4611686018427387904)=true:=decide_eq_true (by omega)
 have db:decide (4+A.size+4+B.size≤4611686018427387904)=true:=decide_eq_true (by omega)
 simp only [d1,d2,d3,d4,d5,d6,d7,d8,d9,da,db,Bool.and_self,Bool.true_and,Bool.and_true,ge_iff_le]
 by_cases k1:k=1
 ·subst k1
  simp only [decide_true,cond_true,(by decide:decide ((1:Int)=2)=false),(by decide:decide ((1:Int)=3)=false),cond_false]
  cases decide (-1000≤a) <;> cases decide (a≤1000) <;> cases decide (0≤b) <;> cases decide (b≤c) <;> cases decide (c≤64) <;> exact ⟨rfl,rfl⟩
 ·by_cases k2:k=2
  ·subst k2
   simp only [decide_true,cond_true,(by decide:decide ((2:Int)=1)=false),(by decide:decide ((2:Int)=3)=false),cond_false]
   cases decide (0≤a) <;> cases decide (a<b) <;> cases decide (b<64) <;> cases decide (c=0) <;> exact ⟨rfl,rfl⟩
  ·by_cases k3:k=3
   ·subst k3
    simp only [decide_true,cond_true,(by decide:decide ((3:Int)=1)=false),(by decide:decide ((3:Int)=2)=false),cond_false]
    cases decide (-1000≤a) <;> cases decide (a≤1000) <;> cases decide (0≤b) <;> cases decide (b≤64) <;> cases decide (c=0) <;> exact ⟨rfl,rfl⟩
   ·simp only [decide_eq_false k1,decide_eq_false k2,decide_eq_false k3,cond_false]
    exact ⟨by first|trivial|rfl,by first|trivial|rfl⟩
theorem wordsN_ne (k a b c:Int):wordsN k a b c ≠ []:=by unfold wordsN;split;simp;split <;> simp
theorem wordsN_free (k a b c:Int):∀ w ∈ wordsN k a b c,∀ x ∈ w,x ≠ 32:=by
 have hB:∀ x ∈ wB,x ≠ 32:=by decide
 have hS:∀ x ∈ wS,x ≠ 32:=by decide
 have hN:∀ x ∈ wN,x ≠ 32:=by decide
 have h1:∀ x ∈ ([105,110]:List UInt8),x ≠ 32:=by decide
 have h2:∀ x ∈ ([97,116]:List UInt8),x ≠ 32:=by decide
 intro w hw
 unfold wordsN at hw
 split at hw
 ·simp only [List.mem_cons,List.not_mem_nil,or_false] at hw
  rcases hw with rfl|rfl|rfl|rfl
  ·exact hB
  ·exact itoa_no32 a
  ·exact h1
  ·exact fmtL_no32 b c
 ·split at hw
  ·simp only [List.mem_cons,List.not_mem_nil,or_false] at hw
   rcases hw with rfl|rfl|rfl
   ·exact hS
   ·exact itoa_no32 a
   ·exact itoa_no32 b
  ·simp only [List.mem_cons,List.not_mem_nil,or_false] at hw
   rcases hw with rfl|rfl|rfl|rfl
   ·exact hN
   ·exact itoa_no32 a
   ·exact h2
   ·exact itoa_no32 b
theorem isN_words {S:List UInt8} {k a b c:Int} (h:isN S k a b c):pcs 32 [] S=wordsN k a b c:=by
 rw [h.2]
 exact pcs_jn 32 _ (wordsN_ne k a b c) (wordsN_free k a b c)
theorem eq_isN {s:ByteArray} {k a b c:Int} (ha:small a) (hb:small b) (hc:small c) (hs:s.data.toList ≠ []):((v16_0 k a b c).data.toList=s.data.toList) ↔ isN s.data.toList k a b c:=by
 rw [(P16 k a b c ha hb hc).2]
 unfold isN
 by_cases h:okB k a b c
 ·rw [if_pos h]
  exact ⟨fun g=>⟨h,g.symm⟩,fun g=>g.2.symm⟩
 ·rw [if_neg h]
  exact ⟨fun g=>absurd g.symm hs,fun g=>absurd g.1 h⟩
end Go.Proofs.YtcondihilccdpaaDoor
