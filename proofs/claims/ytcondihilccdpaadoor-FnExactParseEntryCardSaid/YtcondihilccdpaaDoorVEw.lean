import Derived.Test.YtcondihilccdpaaDoorVEv
namespace Go.Proofs.VE
open Go
abbrev LModel:=CallE→Nm→St→Kont→Option AV
abbrev TModel:=List AV→Option (Bool × AV)
abbrev WModel:=List AV→List Blk→Option (Bool × AV × List Blk)
abbrev GModel:=List AV→List Blk→Option (Bool × List AV × List (Option Blk))
inductive WG where
 | w (m:WModel)
 | g (m:GModel)
def WG.call:WG→CallM
 | .w m => .wrt m
 | .g m => .gen m
def WG.Met [Glob] (P:Program) (f:Nat):WG→Prop
 | .w m=>MeetsM P f m
 | .g m=>MeetsG P f m
def wrtOf:List (Nat × WG)→List Nat→Nat→CallM
 | [],l,g=>bif hasN l g then .inl else .no
 | (f,m) :: r,l,g=>bif Nat.beq f g then m.call else wrtOf r l g
def treeOf:List (Nat × TModel)→List (Nat × WG)→List Nat→Nat→CallM
 | [],ws,l,g=>wrtOf ws l g
 | (f,m) :: r,ws,l,g=>bif Nat.beq f g then .tree m else treeOf r ws l g
def lmOf:List (Nat × Nat × LModel)→Nat→Nat→Option LModel
 | [],_,_=>none
 | (f,b,m) :: r,g,c=>bif Nat.beq f g && Nat.beq b c then some m else lmOf r g c
def spOf:List (Nat × SModel)→Nat→Option SModel
 | [],_=>none
 | (f,m) :: r,g=>bif Nat.beq f g then some m else spOf r g
def hOf:List (Nat × Nat × List Nat)→Nat→Nat→Option (List Nat)
 | [],_,_=>none
 | (f,b,l) :: r,g,c=>bif Nat.beq f g && Nat.beq b c then some l else hOf r g c
def cfg (P:Program) (hs:List (Nat × Nat × List Nat)) (ts:List (Nat × TModel)) (ws:List (Nat × WG)) (is:List Nat) (ls:List (Nat × Nat × LModel)) (sp:List (Nat × SModel):=[]):Cfg:={ P,F:=treeOf ts ws is,H:=hOf hs,LM:=lmOf ls,SP:=spOf sp }
def body (f:Func):Code:=f.body.getD .skip
def sub:List Nat→Code→Code
 | [],c=>c
 | 0 :: p,.seq a _=>sub p a
 | 1 :: p,.seq _ b=>sub p b
 | 0 :: p,.cond _ a _=>sub p a
 | 1 :: p,.cond _ _ b=>sub p b
 | 0 :: p,.block _ b=>sub p b
 | 0 :: p,.loop b=>sub p b
 | _,c=>c
theorem wrtOf_inv {is:List Nat} {g:Nat} {c:CallM}:∀ {ws:List (Nat × WG)},wrtOf ws is g=c→(∃ m:WG,c=m.call∧(g,m) ∈ ws)∨(c = .inl∧g ∈ is)∨c = .no
 | [],h=>by
  unfold wrtOf at h
  cases hb:hasN is g <;> rw [hb] at h
  ·exact .inr (.inr h.symm)
  ·exact .inr (.inl ⟨h.symm,(hasN_iff _ _).1 hb⟩)
 | (f,m) :: r,h=>by
  unfold wrtOf at h
  cases hb:Nat.beq f g <;> rw [hb] at h
  ·rcases wrtOf_inv h with ⟨m',h1,h2⟩|h1
   ·exact .inl ⟨m',h1,List.mem_cons_of_mem _ h2⟩
   ·exact .inr h1
  ·obtain rfl:=Nat.eq_of_beq_eq_true hb
   exact .inl ⟨m,h.symm,List.mem_cons_self⟩
theorem treeOf_inv {is:List Nat} {g:Nat} {c:CallM} {ws:List (Nat × WG)}:∀ {ts:List (Nat × TModel)},treeOf ts ws is g=c→(∃ m,c = .tree m∧(g,m) ∈ ts)∨(∃ m:WG,c=m.call∧(g,m) ∈ ws)∨(c = .inl∧g ∈ is)∨c = .no
 | [],h => .inr (wrtOf_inv h)
 | (f,m) :: r,h=>by
  unfold treeOf at h
  cases hb:Nat.beq f g <;> rw [hb] at h
  ·rcases treeOf_inv h with ⟨m',h1,h2⟩|h1
   ·exact .inl ⟨m',h1,List.mem_cons_of_mem _ h2⟩
   ·exact .inr h1
  ·obtain rfl:=Nat.eq_of_beq_eq_true hb
   exact .inl ⟨m,h.symm,List.mem_cons_self⟩
structure InlK (P:Program) (hs:List (Nat × Nat × List Nat)) (ts:List (Nat × TModel)) (ws:List (Nat × WG)) (is:List Nat) (ls:List (Nat × Nat × LModel)) (g:Nat) (sp:List (Nat × SModel):=[]):Prop where
 known:Known P g
 loops:∃ f l,P.funcs[g]?=some f∧loopsC 0 (body f)=l∧∀ ce π,LoopsOK (cfg P hs ts ws is ls sp) ce π g l
theorem body_loops {P:Program} {g:Nat} {f:Func} {l:List (Nat × Code)} (hf:P.funcs[g]?=some f) (hl:loopsC 0 (body f)=l) {fn:Func} {c:Code} (h1:P.funcs[g]?=some fn) (h2:fn.body=some c):loopsC 0 c=l:=by
 rw [hf] at h1
 obtain rfl:=Option.some.inj h1
 rw [← hl]
 simp [body,h2]
abbrev AllT [Glob] (P:Program) (ts:List (Nat × TModel)):Prop:=∀ p ∈ ts,Meets P p.1 p.2
abbrev AllM [Glob] (P:Program) (ws:List (Nat × WG)):Prop:=∀ p ∈ ws,p.2.Met P p.1
theorem allT_nil [Glob] {P:Program}:AllT P []:=fun p h=>by simp at h
theorem allT_cons [Glob] {P:Program} {g:Nat} {m:TModel} {ts:List (Nat × TModel)} (h:Meets P g m) (hs:AllT P ts):AllT P ((g,m) :: ts):=fun p hp=>by
 rcases List.mem_cons.1 hp with rfl|hp
 ·exact h
 ·exact hs p hp
theorem allI_cons {Q:Nat→Prop} {g:Nat} {l:List Nat} (h:Q g) (hs:∀ g ∈ l,Q g):∀ x ∈ g :: l,Q x:=fun p hp=>by
 rcases List.mem_cons.1 hp with rfl|hp
 ·exact h
 ·exact hs p hp
theorem allM_nil [Glob] {P:Program}:AllM P []:=fun p h=>by simp at h
theorem allM_cons [Glob] {P:Program} {g:Nat} {m:WModel} {ws:List (Nat × WG)} (h:MeetsM P g m) (hs:AllM P ws):AllM P ((g,.w m) :: ws):=fun p hp=>by
 rcases List.mem_cons.1 hp with rfl|hp
 ·exact h
 ·exact hs p hp
theorem allG_cons [Glob] {P:Program} {g:Nat} {m:GModel} {ws:List (Nat × WG)} (h:MeetsG P g m) (hs:AllM P ws):AllM P ((g,.g m) :: ws):=fun p hp=>by
 rcases List.mem_cons.1 hp with rfl|hp
 ·exact h
 ·exact hs p hp
abbrev AllS [Glob] (P:Program) (sp:List (Nat × SModel)):Prop:=∀ p ∈ sp,SMeets P p.1 p.2
theorem allS_nil [Glob] {P:Program}:AllS P []:=fun p h=>by simp at h
theorem allS_cons [Glob] {P:Program} {g:Nat} {m:SModel} {sp:List (Nat × SModel)} (h:SMeets P g m) (hs:AllS P sp):AllS P ((g,m) :: sp):=fun p hp=>by
 rcases List.mem_cons.1 hp with rfl|hp
 ·exact h
 ·exact hs p hp
theorem spOf_mem {g:Nat} {m:SModel}:∀ {sp:List (Nat × SModel)},spOf sp g=some m→(g,m) ∈ sp
 | [],h=>by cases h
 | (f,m') :: r,h=>by
  unfold spOf at h
  cases hb:Nat.beq f g <;> rw [hb] at h
  ·exact List.mem_cons_of_mem _ (spOf_mem h)
  ·obtain rfl:=Nat.eq_of_beq_eq_true hb
   obtain rfl:=Option.some.inj h
   exact List.mem_cons_self
theorem sps [Glob] {P:Program} {hs:List (Nat × Nat × List Nat)} {ts:List (Nat × TModel)} {ws:List (Nat × WG)} {is:List Nat} {ls:List (Nat × Nat × LModel)} {sp:List (Nat × SModel)} (h:AllS P sp):SpOK (cfg P hs ts ws is ls sp):=fun _ _ hg=>h _ (spOf_mem hg)
theorem fok [Glob] {P:Program} {hs:List (Nat × Nat × List Nat)} {ts:List (Nat × TModel)} {ws:List (Nat × WG)} {is:List Nat} {ls:List (Nat × Nat × LModel)} {sp:List (Nat × SModel)} (hT:AllT P ts) (hW:AllM P ws):FOK P (cfg P hs ts ws is ls sp):=by
 refine ⟨fun g m h=>?_,fun g m h=>?_,fun g m h=>?_⟩
 ·rcases treeOf_inv h with ⟨m',h1,h2⟩|⟨m',h1,_⟩|⟨h1,_⟩|h1
  ·cases h1;exact hT _ h2
  ·cases m' <;> cases h1
  all_goals cases h1
 ·rcases treeOf_inv h with ⟨m',h1,h2⟩|⟨m',h1,h2⟩|⟨h1,_⟩|h1
  ·cases h1
  ·cases m' with
   | w m'=>cases h1;exact hW _ h2
   | g m'=>cases h1
  all_goals cases h1
 ·rcases treeOf_inv h with ⟨m',h1,h2⟩|⟨m',h1,h2⟩|⟨h1,_⟩|h1
  ·cases h1
  ·cases m' with
   | w m'=>cases h1
   | g m'=>cases h1;exact hW _ h2
  all_goals cases h1
theorem inlk {P:Program} {hs:List (Nat × Nat × List Nat)} {ts:List (Nat × TModel)} {ws:List (Nat × WG)} {is:List Nat} {ls:List (Nat × Nat × LModel)} {sp:List (Nat × SModel)} (hI:∀ g ∈ is,InlK P hs ts ws is ls g sp):InlOK (cfg P hs ts ws is ls sp):=fun g hg=>by
 have k:g ∈ is:=by
  rcases treeOf_inv hg with ⟨m',h1,_⟩|⟨m',h1,_⟩|⟨_,h1⟩|h1
  ·cases h1
  ·cases m' <;> cases h1
  ·exact h1
  ·cases h1
 obtain ⟨kk,f',l',k1,k2,k3⟩:=hI g k
 exact ⟨kk,fun fn c h1 h2 ce π=>by rw [body_loops k1 k2 h1 h2];exact k3 ce π⟩
section
variable {P:Program} {hs:List (Nat × Nat × List Nat)} {ts:List (Nat × TModel)} {ws:List (Nat × WG)} {is:List Nat} {ls:List (Nat × Nat × LModel)} {sp:List (Nat × SModel)} {lvl g:Nat} {f:Func} {l:List (Nat × Code)}
theorem meet [Glob] {m:TModel} (hmix:P.follows .mixedOrders=true) (hk:Known P g) (hf:P.funcs[g]?=some f) (hl:loopsC 0 (body f)=l) (hL:LoopsOK (cfg P hs ts ws is ls sp) (inlA (cfg P hs ts ws is ls sp) lvl) [] g l) (hT:AllT P ts) (hW:AllM P ws) (hI:∀ g ∈ is,InlK P hs ts ws is ls g sp)
  (h:∀ (w:World) (xs:List AV) (us:List Value) (r:AV),xs.length=us.length→(∀ (i:Nat) (x:AV) (u:Value),xs[i]?=some x→us[i]?=some u→VR (C0 w) x u)→m xs=some (true,r)→funA (cfg P hs ts ws is ls sp) lvl g xs=some r) (hS:AllS P sp:=by exact allS_nil):Meets P g m:=by
 refine ⟨hk,fun xs r hm w us hG hlen hv=>?_⟩
 have hF:=fok (hs:=hs) (is:=is) (ls:=ls) (sp:=sp) hT hW
 exact fun_sound (cf:=cfg P hs ts ws is ls sp) hF (draw_ok hF hmix) (inlk hI) (sps hS) (fun fn c h1 h2=>by rw [body_loops hf hl h1 h2];exact hL) (h w xs us r hlen hv hm) w us hG hlen hv
theorem meet_nil [Glob] {m:TModel} {tys:List CT} (hmix:P.follows .mixedOrders=true) (hk:Known P g) (hf:P.funcs[g]?=some f) (hl:loopsC 0 (body f)=l) (hL:LoopsOK (cfg P hs ts ws is ls sp) (inlA (cfg P hs ts ws is ls sp) lvl) [] g l) (hT:AllT P ts) (hW:AllM P ws) (hI:∀ g ∈ is,InlK P hs ts ws is ls g sp)
  (hm:∀ xs r,m xs=some (true,r)→∃ ys,xs=[.sl tys ys]) (h0:∀ b r,m [.sl tys []]=some (true,r)→funA (cfg P hs ts ws is ls sp) lvl g [.sle b tys]=some r)
  (h1:∀ ys r,0<ys.length→m [.sl tys ys]=some (true,r)→funA (cfg P hs ts ws is ls sp) lvl g [.sl tys ys]=some r) (hS:AllS P sp:=by exact allS_nil):Meets P g m:=by
 refine ⟨hk,fun xs r hr w us hG hlen hv=>?_⟩
 have hF:=fok (hs:=hs) (is:=is) (ls:=ls) (sp:=sp) hT hW
 have go:∀ ys,funA (cfg P hs ts ws is ls sp) lvl g ys=some r→MeetsAt P g ys r:=fun ys h=>fun_sound (cf:=cfg P hs ts ws is ls sp) hF (draw_ok hF hmix) (inlk hI) (sps hS) (fun fn c h1 h2=>by rw [body_loops hf hl h1 h2];exact hL) h
 obtain ⟨ys,rfl⟩:=hm xs r hr
 match us,hlen with
 | [u],_ =>
 have hu:=hv 0 _ u rfl rfl
 cases ys with
 | cons y ys=>exact go _ (h1 (y :: ys) r (by simp) hr) w [u] hG rfl hv
 | nil =>
  cases hu with
  | sl _ _ _ h =>
   generalize hz:([]:List AV)=z at h
   cases h with
   | sl _ _ a cap U _ _ _ _ =>
    subst hz
    refine go [.sle a.isNone tys] (h0 _ r hr) w [.slice a 0 cap] hG rfl fun i x u hx hu=>?_
    cases i with
    | zero=>simp at hx hu;subst hx;subst hu;exact .sle _ _ a cap rfl
    | succ i=>simp at hx
def keepB (n:Nat) (K:AV→List Blk→Option AV) (v:AV) (hp:List (Nm × Blk)):Option AV :=
 match getAll hp ((canN 1 (List.replicate n [])).map (·.2)) with
 | some bs=>K (subR hp v) bs
 | none=>none
theorem canN_names:∀ (n k j:Nat),j<n→((canN k (List.replicate n [])).map (·.2))[j]?=some [k+j]
 | 0,k,j,h=>by omega
 | n+1,k,0,_=>rfl
 | n+1,k,j+1,h=>by
  simp only [List.replicate_succ,canN,List.map_cons,List.getElem?_cons_succ]
  rw [canN_names n (k+1) j (by omega),show k+1+j=k+(j+1) by omega]
theorem canN_len:∀ (n k:Nat),((canN k (List.replicate n [])).map (·.2)).length=n
 | 0,_=>rfl
 | n+1,k=>by simp only [List.replicate_succ,canN,List.map_cons,List.length_cons,canN_len n (k+1)]
theorem meetM [Glob] {m:WModel} (hmix:P.follows .mixedOrders=true) (hk:Known P g) (hf:P.funcs[g]?=some f) (hl:loopsC 0 (body f)=l) (hL:LoopsOK (cfg P hs ts ws is ls sp) (inlA (cfg P hs ts ws is ls sp) lvl) [0] g l) (hT:AllT P ts) (hW:AllM P ws) (hI:∀ g ∈ is,InlK P hs ts ws is ls g sp)
  (h:∀ (C:Ctx) (w:World) (xs:List AV) (us:List Value) (bs:List Blk) (r:AV) (bs':List Blk),xs.length=us.length→(∀ (i:Nat) (x:AV) (u:Value),xs[i]?=some x→us[i]?=some u→VR C x u)→HSim C (canH 1 bs) w→m xs bs=some (true,r,bs') →
   ∀ K,inlA (cfg P hs ts ws is ls sp) (lvl+1) g xs [0] (canH 1 bs) (keepB bs.length K)=K r bs') (hS:AllS P sp:=by exact allS_nil):MeetsM P g m:=by
 refine ⟨hk,fun xs bs r bs' hm _ hfl hsc hlen C w us hl' hv hh=>?_⟩
 have hF:=fok (hs:=hs) (is:=is) (ls:=ls) (sp:=sp) hT hW
 classical
 have e:=h C w xs us bs r bs' hl' hv hh hm fun v b=>if v=r∧b=bs' then some .undef else none
 rw [if_pos ⟨rfl,rfl⟩] at e
 refine (wrt_sound hF (draw_ok hF hmix) (inlk hI) (sps hS) (fun fn c h1 h2=>by rw [body_loops hf hl h1 h2];exact hL) e hl' hv hh).mono fun e w' he=>?_
 obtain ⟨u,rfl,C',v,h',k1,k2,k3,k4⟩:=he
 unfold keepB at k1
 split at k1
 ·rename_i b hb
  replace k1:(if subR h' v=r∧b=bs' then some AV.undef else none)=some AV.undef:=k1
  split at k1
  ·rename_i hc
   obtain ⟨rfl,rfl⟩:=hc
   have k2':VR C' (subR h' v) u:=by
    unfold subR
    split
    ·rename_i n
     split
     ·rename_i bb hbb
      have e:=(k3.blk n bb hbb).len
      rw [← e]
      exact own_sub k2
     ·exact k2
    ·exact k2
   refine ⟨u,rfl,retR_move (fun j=>(k4.dat [j] rfl).symm) k2' hsc,?_⟩
   obtain ⟨b1,b2⟩:=getAll_get hb
   have get:∀ {nm b0},getH (canH 1 b) nm=some b0→isLoc [0] nm=false∧getH h' nm=some b0∧flatB b0=true:=fun {nm b0} hg=>by
    obtain ⟨j,rfl,hj⟩:=getH_can hg
    have hjl:=(List.getElem?_eq_some_iff.1 hj).1
    obtain ⟨b3,g1,g2⟩:=b2 j [1+j] (canN_names bs.length 1 j (by omega))
    rw [hj] at g1
    obtain rfl:=Option.some.inj g1
    rw [List.all_eq_true] at hfl
    exact ⟨rfl,g2,hfl _ (List.mem_of_getElem? hj)⟩
   refine ⟨fun nm b0 hg=>?_,fun nm b0 nm' b0' hg hg' hr hr' hne=>?_,fun ad v hv=>?_,by rw [← k4.base];exact k3.grown,by rw [← k4.base,← k4.w0];exact k3.kept,fun ad v hv hn=>by rw [← k4.w0];exact k3.blk0 ad v (k4.mem ad v hv) (k4.old ad v hv hn),fun ad v hv=>(hh.own ad v hv),by rw [← k4.base,← k4.w0];exact k3.glob,fun k hk=>by
    rw [← k4.fr] at hk
    obtain ⟨f1,f2,f3⟩:=k3.frame k hk
    refine ⟨by rw [← k4.w0];exact f1,by rw [← k4.w0];exact f2,fun nm b0 hg hr=>?_⟩
    obtain ⟨g1,g2,_⟩:=get hg
    have:=f3 nm b0 g2
    unfold Ctx.real Ctx.loc at *
    rw [← k4.dat nm g1] at hr ⊢
    exact this hr⟩
   ·obtain ⟨g1,g2,g3⟩:=get hg
    exact (k3.blk nm b0 g2).turn (k4.dat nm g1).symm k4.base.symm g3
   ·obtain ⟨g1,g2,_⟩:=get hg
    obtain ⟨g1',g2',_⟩:=get hg'
    unfold Ctx.real Ctx.loc at *
    rw [← k4.dat nm g1] at *
    rw [← k4.dat nm' g1'] at *
    exact k3.apart nm b0 nm' b0' g2 g2' hr hr' hne
   ·obtain ⟨m1,m2,m3⟩:=k3.mem ad v (k4.mem ad v hv)
    refine ⟨m1,m2,fun nm b0 hg hr=>?_⟩
    obtain ⟨g1,g2,_⟩:=get hg
    have:=m3 nm b0 g2
    unfold Ctx.real Ctx.loc at *
    rw [← k4.dat nm g1] at hr ⊢
    exact this hr
  ·cases k1
 ·cases k1
theorem meetG [Glob] {m:GModel} {rt:List TypeId} {gs:List Nat} (hmix:P.follows .mixedOrders=true) (hk:Known P g) (hf:P.funcs[g]?=some f) (hl:loopsC 0 (body f)=l) (hL:LoopsOK (cfg P hs ts ws is ls sp) (inlA (cfg P hs ts ws is ls sp) lvl) [0] g l) (hT:AllT P ts) (hW:AllM P ws) (hI:∀ g ∈ is,InlK P hs ts ws is ls g sp)
  (h:∀ (C:Ctx) (w:World) (xs:List AV) (us:List Value) (bs:List Blk) (rs:List AV) (bs':List (Option Blk)),xs.length=us.length→(∀ (i:Nat) (x:AV) (u:Value),xs[i]?=some x→us[i]?=some u→VR C x u)→HSim C (canH 1 bs) w→m xs bs=some (true,rs,bs') →
   ∀ K,inlA (cfg P hs ts ws is ls sp) (lvl+1) g xs [0] (canH 1 bs) (keepG P bs.length rt gs K)=K rs bs') (hS:AllS P sp:=by exact allS_nil):MeetsG P g m:=by
 refine ⟨hk,fun xs bs rs bs' hm C w us hl' hv hh=>?_⟩
 have hF:=fok (hs:=hs) (is:=is) (ls:=ls) (sp:=sp) hT hW
 classical
 have e:=h C w xs us bs rs bs' hl' hv hh hm fun v b=>if v=rs∧b=bs' then some .undef else none
 rw [if_pos ⟨rfl,rfl⟩] at e
 refine (wrt_sound hF (draw_ok hF hmix) (inlk hI) (sps hS) (fun fn c h1 h2=>by rw [body_loops hf hl h1 h2];exact hL) e hl' hv hh).mono fun e w' he=>?_
 obtain ⟨u,rfl,C',v,h',k1,k2,k3,k4⟩:=he
 refine ⟨u,rfl,C',rt,gs,v,h',fun K=>?_,k2,k3,k4⟩
 unfold keepG at k1 ⊢
 split at k1
 ·split at k1
  ·rename_i so _
   cases hn:nodupN (so.filterMap id) with
   | false=>rw [hn] at k1;cases k1
   | true =>
    rw [hn] at k1
    simp only [cond_true] at k1
    split at k1
    ·rename_i hc
     simp only [cond_true,hc.1,hc.2]
    ·cases k1
  ·cases k1
 ·cases k1
end
theorem noLoop {cf:Cfg} {ce:CallE} {π:Nm} {g:Nat}:LoopsOK cf ce π g []:=fun p hp=>by simp at hp
theorem oneLoop {cf:Cfg} {ce:CallE} {π:Nm} {g b:Nat} {c:Code} (h:LoopOK cf ce π g b c):LoopsOK cf ce π g [(b,c)]:=fun p hp=>by
 simp only [List.mem_singleton] at hp
 subst hp
 exact h
theorem loops_cons {cf:Cfg} {ce:CallE} {π:Nm} {g b:Nat} {c:Code} {l:List (Nat × Code)} (h:LoopOK cf ce π g b c) (hs:LoopsOK cf ce π g l):LoopsOK cf ce π g ((b,c) :: l):=fun p hp=>by
 rcases List.mem_cons.1 hp with rfl|hp
 ·exact h
 ·exact hs p hp
theorem sl_max {w:World} {t:List CT} {xs:List AV} {u:Value} (h:VR (C0 w) (.sl t xs) u):xs.length≤9223372036854775807:=by
 cases h with
 | sl _ _ _ h=>cases h with
  | sl _ _ _ _ _ _ h=>simpa [maxLen] using h
theorem wrap_in {a:Int} (h0 : -9223372036854775808≤a) (h1:a≤9223372036854775807):IntKind.i64.wrap a=a:=by rw [IntKind.wrap_i64];omega
def allF (p:Int→Bool):Nat→Int→Bool
 | 0,_=>true
 | n+1,i=>bif p i then allF p n (i+1) else false
def foldF {S:Type} (f:Int→S→S):Nat→Int→S→S
 | 0,_,s=>s
 | n+1,i,s=>foldF f n (i+1) (f i s)
theorem loop_all {body:St→Kont→Option AV} {norm:St→Option St} (E:Int→St) (n:Int) (p:Int→Bool) (k:Kont) (kE kR:Option AV)
  (hstep:∀ (i:Int) (next:St→Option AV),0≤i→i≤n→stepA body norm next (E i) k=bif decide (i<n) then (bif p i then next (E (i+1)) else kR) else kE) :
  ∀ (m:Nat) (i:Int),0≤i→i+m=n→loopA body norm (m+1) (E i) k=bif allF p m i then kE else kR
 | 0,i,h0,hn=>by
  show stepA body norm _ (E i) k=_
  rw [hstep i _ h0 (by omega),show decide (i<n)=false by simp;omega]
  rfl
 | m+1,i,h0,hn=>by
  show stepA body norm (fun st=>loopA body norm (m+1) st k) (E i) k=_
  rw [hstep i _ h0 (by omega),show decide (i<n)=true by simp;omega]
  simp only [cond_true,allF]
  cases p i with
  | true=>simp only [cond_true];exact loop_all E n p k kE kR hstep m (i+1) (by omega) (by omega)
  | false=>rfl
theorem loop_fold {S:Type} {body:St→Kont→Option AV} {norm:St→Option St} (E:Int→S→St) (n:Int) (f:Int→S→S) (I:Int→S→Prop) (k:Kont) (kE:S→Option AV)
  (hI:∀ i s,0≤i→i<n→I i s→I (i+1) (f i s))
  (hstep:∀ (i:Int) (s:S) (next:St→Option AV),0≤i→i≤n→I i s→stepA body norm next (E i s) k=bif decide (i<n) then next (E (i+1) (f i s)) else kE s) :
  ∀ (m:Nat) (i:Int) (s:S),0≤i→i+m=n→I i s→loopA body norm (m+1) (E i s) k=kE (foldF f m i s)
 | 0,i,s,h0,hn,hi=>by
  show stepA body norm _ (E i s) k=_
  rw [hstep i s _ h0 (by omega) hi,show decide (i<n)=false by simp;omega]
  rfl
 | m+1,i,s,h0,hn,hi=>by
  show stepA body norm (fun st=>loopA body norm (m+1) st k) (E i s) k=_
  rw [hstep i s _ h0 (by omega) hi,show decide (i<n)=true by simp;omega]
  simp only [cond_true,foldF]
  exact loop_fold E n f I k kE hI hstep m (i+1) (f i s) (by omega) (by omega) (hI i s h0 (by omega) hi)
end Go.Proofs.VE
