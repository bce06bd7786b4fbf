/- VE, part o: results taken in; every operation with an effect. -/
import Derived.Test.YtdhhceamknidmaaVEnm
namespace Go.Proofs.VE
open Go

section
variable {P : Program} {C C' : Ctx} {nt : Nat} {st : St} {a : Act} {w w' : World} {heap : List (Nm × Blk)}

/-! ### names of what is taken in -/
theorem impCs_under (p : Nm) : ∀ (xs : List AV) (j : Nat) (x : Nm × Blk), x ∈ (impCs p j xs).2 → under p x.1 = true
  | [], _, x, h => by simp [impCs] at h
  | y :: ys, j, x, h => by
    simp only [impCs, List.mem_append] at h
    rcases h with h | h
    · unfold imp1 at h
      split at h
      · simp only [List.mem_singleton] at h; rw [h]; exact (under_iff _ _).2 ⟨[j], rfl⟩
      · simp at h
    · exact impCs_under p ys (j + 1) x h
theorem imp2_under (p : Nm) (y : AV) (x : Nm × Blk) (h : x ∈ (imp2 p y).2) : under p x.1 = true := by
  unfold imp2 at h
  split at h
  · exact impCs_under p _ 0 x h
  · unfold imp1 at h
    split at h
    · simp only [List.mem_singleton] at h; rw [h]; exact (under_iff _ _).2 ⟨[], rfl⟩
    · simp at h
theorem impVs_under (p : Nm) : ∀ (xs : List AV) (j : Nat) (x : Nm × Blk), x ∈ (impVs p j xs).2 → under p x.1 = true
  | [], _, x, h => by simp [impVs] at h
  | y :: ys, j, x, h => by
    simp only [impVs, List.mem_append] at h
    rcases h with h | h
    · exact under_trans (imp2_under (j :: p) y x h) ((under_iff _ _).2 ⟨[j], rfl⟩)
    · exact impVs_under p ys (j + 1) x h
theorem impV_under (p : Nm) (y : AV) (x : Nm × Blk) (h : x ∈ (impV p y).2) : under p x.1 = true := by
  unfold impV at h
  split at h
  · exact impVs_under p _ 0 x h
  · exact imp2_under p y x h

theorem addH_names : ∀ (l : List (Nm × Blk)) (h h' : List (Nm × Blk)), addH h l = some h' → (∀ x ∈ l, getH h x.1 = none) ∧ (l.map (·.1)).Nodup
  | [], _, _, _ => ⟨fun x h => by simp at h, List.nodup_nil⟩
  | (m, b) :: r, h, h', ha => by
    unfold addH at ha
    split at ha
    · cases ha
    · rename_i hm
      obtain ⟨h1, h2⟩ := addH_names r _ _ ha
      have ne : ∀ x ∈ r, m ≠ x.1 ∧ getH h x.1 = none := fun x hx => by
        have := h1 x hx
        rw [getH_setH] at this
        split at this
        · cases this
        · rename_i hne; exact ⟨hne, this⟩
      refine ⟨fun x hx => ?_, ?_⟩
      · rcases List.mem_cons.1 hx with rfl | hx
        · exact hm
        · exact (ne x hx).2
      · rw [List.map_cons, List.nodup_cons]
        refine ⟨fun hm' => ?_, h2⟩
        obtain ⟨x, hx, e⟩ := List.mem_map.1 hm'
        exact (ne x hx).1 e.symm

theorem TabR.names {M : Addr → Option Value} {l : List (Nm × Blk)} {t : List (Nm × Dat)} (h : TabR w w' M l t) : t.map (·.1) = l.map (·.1) := by
  induction h with
  | nil => rfl
  | cons n b D l t _ _ _ ih => simp [ih]

/-- A context turned at the names of a table. -/
def Ctx.setAll (C : Ctx) (t : List (Nm × Dat)) : Ctx := { C with dat := fun m => match t.find? (fun x => x.1 = m) with | some x => x.2 | none => C.dat m }
theorem setAll_get {t : List (Nm × Dat)} (hn : (t.map (·.1)).Nodup) (x : Nm × Dat) (hx : x ∈ t) : (C.setAll t).dat x.1 = x.2 := by
  unfold Ctx.setAll
  simp only
  have : t.find? (fun y => decide (y.1 = x.1)) = some x := by
    induction t with
    | nil => simp at hx
    | cons y r ih =>
      rw [List.map_cons, List.nodup_cons] at hn
      rcases List.mem_cons.1 hx with rfl | hm
      · simp
      · have hne : y.1 ≠ x.1 := fun e => hn.1 (e ▸ List.mem_map.2 ⟨x, hm, rfl⟩)
        rw [List.find?_cons_of_neg (by simpa using hne)]
        exact ih hn.2 hm
  rw [this]
theorem setAll_agree {t : List (Nm × Dat)} {p : Nm → Bool} (h : ∀ x ∈ t, p x.1 = true) : Agree p C (C.setAll t) := by
  refine ⟨rfl, rfl, fun _ _ h => h, fun _ _ h => h, fun _ _ _ h => h, fun nm hn => ?_⟩
  unfold Ctx.setAll
  simp only
  cases hf : t.find? (fun x => decide (x.1 = nm)) with
  | none => rfl
  | some x =>
    have h1 := List.mem_of_find?_eq_some hf
    have h2 := List.find?_some hf
    simp only [decide_eq_true_eq] at h2
    rw [← h2, h x h1] at hn
    cases hn

theorem BlkR.carry {X : Ctx} {b : Blk} {n m : Nm} (h : BlkR X w' m b) (hd : C'.dat n = X.dat m) (hb : C'.base ≤ X.base) (hbox : b.box = false) (hm : ∀ a v, X.memF a = some v → C'.memF a = some v) : BlkR C' w' n b := by
  refine ⟨h.max, by unfold Ctx.len; rw [hd]; exact h.len, by unfold Ctx.width; rw [hd]; exact h.width, (fun h => by rw [hbox] at h; cases h), by unfold Ctx.real; rw [hd]; exact h.nilb, fun i x hx => ?_, ?_, by unfold Ctx.real Ctx.loc Ctx.room Ctx.width; rw [hd]; exact h.froz⟩
  · obtain ⟨g1, g2⟩ := h.cells i x hx
    refine ⟨by unfold Ctx.width; rw [hd]; exact g1, fun j c hc => ?_⟩
    obtain ⟨u, g3, g4, g5⟩ := g2 j c hc
    refine ⟨u, by unfold Ctx.at Ctx.loc Ctx.width; rw [hd]; exact g3, g4, ?_⟩
    rw [hbox] at g5 ⊢
    simp only [Bool.false_eq_true, if_false] at g5 ⊢
    obtain ⟨ct, g6, g7⟩ := g5
    exact ⟨ct, g6, g7.mono hm⟩
  · unfold Ctx.real Ctx.loc Ctx.room Ctx.width
    rw [hd]
    intro hr
    obtain ⟨g1, g2⟩ := h.room hr
    exact ⟨Nat.le_trans hb g1, g2⟩

theorem add_sound [Glob] {M : Addr → Option Value} {l : List (Nm × Blk)} {t : List (Nm × Dat)} (ht : TabR w w' M l t) : ∀ {heap heap' : List (Nm × Blk)}, addH heap l = some heap' → HSim C' heap w' → C'.base ≤ w.heap.size → (∀ x ∈ t, C'.dat x.1 = x.2) → Apart t →
    (∀ x ∈ t, x.2.real = true → ∀ nm b, getH heap nm = some b → C'.real nm = true → (C'.loc nm).1 ≠ x.2.loc.1) → (∀ x ∈ t, x.2.real = true → ∀ a v, C'.mem a = some v → a.block ≠ x.2.loc.1) → (∀ a v, M a = some v → C'.memF a = some v) → HSim C' heap' w' := by
  induction ht with
  | nil => intro heap heap' h hs _ _ _ _ _ _; simp only [addH, Option.some.injEq] at h; subst h; exact hs
  | cons n b D l t hb hbox _ ih =>
    intro heap heap' h hs hbase hd ha hu hm hM
    unfold addH at h
    split at h
    · cases h
    · have hdn : C'.dat n = D := hd (n, D) List.mem_cons_self
      unfold Apart at ha
      rw [List.pairwise_cons] at ha
      refine ih h (hs.setBlk (hb.carry (hdn.trans (ctxT_dat _ _ _).symm) hbase hbox hM) fun hr => ?_) hbase (fun x hx => hd x (List.mem_cons_of_mem _ hx)) ha.2 ?_ (fun x hx => hm x (List.mem_cons_of_mem _ hx)) hM
      · have hl : (C'.loc n).1 = D.loc.1 := by unfold Ctx.loc; rw [hdn]
        have hr' : D.real = true := by unfold Ctx.real at hr; rw [hdn] at hr; exact hr
        rw [hl]
        exact ⟨fun nm b' _ h1 h2 => hu (n, D) List.mem_cons_self hr' nm b' h1 h2, hm (n, D) List.mem_cons_self hr'⟩
      · intro x hx hr nm b' h1 h2
        rw [getH_setH] at h1
        split at h1
        · rename_i e
          subst e
          unfold Ctx.real at h2
          rw [hdn] at h2
          unfold Ctx.loc
          rw [hdn]
          exact ha.1 x hx h2 hr
        · exact hu x (List.mem_cons_of_mem _ hx) hr nm b' h1 h2

/-- More is known that is only read. -/
def Ctx.add (C : Ctx) (M : Addr → Option Value) : Ctx := { C with mem := fun a => (M a).or (C.mem a), memF := fun a => (M a).or (C.memF a) }
theorem HSim.add [Glob] {M : Addr → Option Value} {n0 : Nat} (h : HSim C heap w) (hM : ∀ a v, M a = some v → w.cell? a = some v ∧ n0 ≤ a.block) (h1 : ∀ nm b, getH heap nm = some b → C.real nm = true → (C.loc nm).1 < n0) (h2 : ∀ a v, C.mem a = some v → a.block < n0) (hb : C.base ≤ n0) :
    Agree (fun _ => false) C (C.add M) ∧ HSim (C.add M) heap w := by
  have low : ∀ a v, C.mem a = some v → M a = none := fun a v hv => by
    cases hm : M a with
    | none => rfl
    | some u =>
      have := (hM a u hm).2
      have := h2 a v hv
      omega
  have hag : Agree (fun _ => false) C (C.add M) := by
    refine ⟨rfl, rfl, fun a v hv => ?_, fun a v hv => ?_, fun a v hv hn => ?_, fun _ _ => rfl⟩
    · show (M a).or (C.mem a) = some v; rw [low a v hv]; exact hv
    · show (M a).or (C.memF a) = some v; rw [low a v (h.own a v hv).1]; exact hv
    · show (M a).or (C.memF a) = none; rw [low a v hv]; exact hn
  refine ⟨hag, ⟨fun nm b hb => ?_, h.apart, fun a v hv => ?_, h.grown, h.kept, fun a v hv hn => ?_, fun a v hv => ?_, h.glob⟩⟩
  · have B := h.blk nm b hb
    refine ⟨B.max, B.len, B.width, B.box, B.nilb, fun i x hx => ?_, B.room, B.froz⟩
    obtain ⟨g1, g2⟩ := B.cells i x hx
    refine ⟨g1, fun j c hj => ?_⟩
    obtain ⟨u, g3, g4, g5⟩ := g2 j c hj
    refine ⟨u, g3, g4, ?_⟩
    cases hbx : b.box with
    | true =>
      rw [hbx] at g5
      simp only [if_true] at g5 ⊢
      exact g5.grow hag
    | false =>
      rw [hbx] at g5
      simp only [Bool.false_eq_true, if_false] at g5 ⊢
      obtain ⟨ct, k1, k2⟩ := g5
      exact ⟨ct, k1, k2.mono hag.memF⟩
  · have hv : (M a).or (C.mem a) = some v := hv
    cases hm : M a with
    | none => rw [hm] at hv; exact h.mem a v hv
    | some u =>
      rw [hm] at hv
      obtain rfl : u = v := Option.some.inj hv
      obtain ⟨g1, g2⟩ := hM a u hm
      refine ⟨g1, World.block_lt_of_cell? w a g1, fun nm b hb hr e => ?_⟩
      have := h1 nm b hb hr
      have e : (C.loc nm).1 = a.block := e
      omega
  · have hv : (M a).or (C.mem a) = some v := hv
    have hn : (M a).or (C.memF a) = none := hn
    cases hm : M a with
    | none => rw [hm] at hv hn; exact h.blk0 a v hv hn
    | some u => rw [hm] at hn; cases hn
  · have hv : (M a).or (C.memF a) = some v := hv
    show (M a).or (C.mem a) = some v ∧ _
    cases hm : M a with
    | none => rw [hm] at hv; exact h.own a v hv
    | some u =>
      rw [hm] at hv
      exact ⟨hv, Nat.le_trans hb (hM a u hm).2⟩

theorem Below.grownBy {w w' : World} (h : RowKit.Below w.heap.size w w') : w.grownBy w' none := ⟨h.os, h.tape, h.output, h.size, fun k hk _ => h.block k hk⟩

theorem import_sound [Glob] {q p : Nm} {r : AV} {u : Value} {heap' : List (Nm × Blk)} (hs : Sim C nt st a w) (hq : cleanS q st = true) (hp : under q p = true) (hb : RowKit.Below w.heap.size w w') (hr : RetOK w w' r u)
    (h : addH st.heap (impV p r).2 = some heap') : ∃ C', Agree (under q) C C' ∧ Sim C' nt ⟨st.env, heap'⟩ a w' ∧ VR C' (impV p r).1 u := by
  obtain ⟨t, M, h1, h2, hMo, h3⟩ := hr p
  obtain ⟨h4, h5⟩ := addH_names _ _ _ h
  have hnames := h1.names
  have hget : ∀ x ∈ t, (C.setAll t).dat x.1 = x.2 := setAll_get (by rw [hnames]; exact h5)
  have hund : ∀ x ∈ t, under q x.1 = true := fun x hx => by
    have : x.1 ∈ (impV p r).2.map (·.1) := by rw [← hnames]; exact List.mem_map.2 ⟨x, hx, rfl⟩
    obtain ⟨y, hy, e⟩ := List.mem_map.1 this
    rw [← e]
    exact under_trans (impV_under p r y hy) hp
  have hag : Agree (under q) C (C.setAll t) := setAll_agree hund
  unfold cleanS at hq
  rw [Bool.and_eq_true] at hq
  have hs1 := hs.ctx hag rfl rfl (cleanE_get hq.1) (cleanH_get hq.2)
  have hs2 : HSim (C.setAll t) st.heap w' := hs1.toHSim.world (Below.grownBy hb) fun k hk => by cases hk
  obtain ⟨ag2, hs2⟩ := hs2.add (M := M) (n0 := w.heap.size) (fun a v hv => ⟨(hMo a v hv).1, (hMo a v hv).2.1⟩) (fun nm b hnb hrn => ((hs1.blk nm b hnb).room hrn).2.1) (fun a v hv => (hs1.mem a v hv).2.1) hs1.grown
  have fresh : ∀ x ∈ t, x.2.real = true → w.heap.size ≤ x.2.loc.1 := fun x hx hreal => by
    have key : ∀ {l : List (Nm × Blk)} {t : List (Nm × Dat)}, TabR w w' M l t → ∀ x ∈ t, x.2.real = true → w.heap.size ≤ x.2.loc.1 := by
      intro l t ht
      induction ht with
      | nil => intro x hx; simp at hx
      | cons n b D l t hb _ _ ih =>
        intro x hx hr
        rcases List.mem_cons.1 hx with rfl | hx
        · have := (hb.room (by unfold Ctx.real; rw [ctxT_dat]; exact hr)).1
          unfold Ctx.loc at this
          rw [ctxT_dat] at this
          exact this
        · exact ih x hx hr
    exact key h1 x hx hreal
  have hs3 := add_sound (C' := (C.setAll t).add M) h1 h hs2 hs.grown hget h2 (fun x hx hreal nm b hnb hrn => by
      have g1 := fresh x hx hreal
      have g2 := ((hs1.blk nm b hnb).room hrn).2.1
      have g3 : (((C.setAll t).add M).loc nm).1 = ((C.setAll t).loc nm).1 := rfl
      omega) (fun x hx hreal z v hz => by
      have hz : (M z).or (C.mem z) = some v := hz
      cases hm : M z with
      | none =>
        rw [hm] at hz
        have g1 := fresh x hx hreal
        have g2 := (hs1.mem z v hz).2.1
        omega
      | some y => exact fun e => (hMo z y hm).2.2 x hx hreal e.symm) (fun a v hv => by
      show (M a).or (C.memF a) = some v
      rw [hv]
      rfl)
  exact ⟨(C.setAll t).add M, hag.trans (ag2.mono fun _ h => by cases h), hs.withH hs3 (fun t => (hs1.env t).grow ag2), h3 _ hget⟩

/-! ### every operation with an effect -/
theorem Eff.wp [Glob] {π : Nm} {o : Oper} {st' : St} {next : Act → World → Prop} {Q : Exit → Act → World → Prop} (h : Eff P π C nt o a w st')
    (hk : ∀ C' a' w', Sim C' nt st' a' w' → Agree (isLoc π) C C' → next a' w') : o.wp P a w next Q := by
  obtain ⟨C', n, u, w', h1, h2, h3, h4⟩ := h
  unfold Oper.wp
  rw [h1]
  rcases h2 with rfl | ⟨rfl, rfl⟩
  · exact hk C' _ w' h4 h3
  · exact hk C' _ w' h4 h3

theorem nodupN_spec : ∀ (l : List Nm), nodupN l = true → l.Nodup
  | [], _ => List.nodup_nil
  | m :: r, h => by
    simp only [nodupN, Bool.and_eq_true, Bool.not_eq_true', List.any_eq_false] at h
    rw [List.nodup_cons]
    exact ⟨fun hm => by have := h.1 m hm; rw [nmEq_refl] at this; exact this rfl, nodupN_spec r h.2⟩
theorem addH_eq : ∀ (l heap : List (Nm × Blk)), (∀ x ∈ l, getH heap x.1 = none) → (l.map (·.1)).Nodup →
    addH heap l = some ((l.map fun x => (x.1, some x.2)).foldl (fun h (x : Nm × Option Blk) => match x.2 with | some b => setH h x.1 b | none => delH h x.1) heap)
  | [], _, _, _ => rfl
  | (m, b) :: r, heap, h, hn => by
    rw [List.map_cons, List.nodup_cons] at hn
    unfold addH
    rw [h (m, b) List.mem_cons_self]
    simp only [List.map_cons, List.foldl_cons]
    refine addH_eq r _ (fun x hx => ?_) hn.2
    rw [getH_setH, if_neg (fun e => hn.1 (List.mem_map.2 ⟨x, hx, e.symm⟩))]
    exact h x (List.mem_cons_of_mem _ hx)

/-- What is written stands for the machine's new frame and world. -/
theorem effW_sound [Glob] {cf : Cfg} {π : Nm} {o : Oper} {wr : Wr} {next : Act → World → Prop} {Q : Exit → Act → World → Prop} (hP : cf.P = P) (hF : FOK P cf)
    (hd : ∀ d, o.dst = some d → d < nt) (hs : Sim C nt st a w) (h : effW cf π st o = some (true, wr))
    (hk : ∀ C' a' w', Sim C' nt (wr.on st) a' w' → Agree (isLoc π) C C' → next a' w') : o.wp P a w next Q := by
  subst hP
  unfold effW at h
  split at h
  · -- alloc
    rename_i t d hop ho
    split at h
    · rename_i z hz
      cases hc : okV z && cleanS (d :: π) st with
      | false => rw [hc] at h; simp at h
      | true =>
        rw [hc] at h
        rw [Bool.and_eq_true] at hc
        simp only [cond_true, Option.some.injEq, Prod.mk.injEq, true_and] at h
        subst h
        exact (alloc_eff (hd d ho) ho hop hs hz hc.1 hc.2).wp hk
    · cases h
  · -- box
    rename_i t x d hop ho
    cases hc : okV (opA st.env x) && cleanS (d :: π) st with
    | false => rw [hc] at h; simp at h
    | true =>
      rw [hc] at h
      rw [Bool.and_eq_true] at hc
      simp only [cond_true, Option.some.injEq, Prod.mk.injEq, true_and] at h
      subst h
      exact (box_eff (hd d ho) ho hop hs hc.1 hc.2).wp hk
  · -- a slice literal
    rename_i t n parts d hop ho
    split at h
    · rename_i e he
      split at h
      · rename_i xs ns hfr
        revert h
        generalize hc : (cleanS (d :: π) st && Nat.beq parts.size n && Nat.ble n 16777216 && (parts.toList.map (·.1) == List.range n) && Nat.ble (n * cf.P.cellsOf e) 16777216 && Nat.beq (ctsT cf.P 6 e).length (cf.P.cellsOf e) && zeroOK cf.P e) = bb
        intro h
        cases bb with
        | false => simp at h
        | true =>
          simp only [Bool.and_eq_true, beq_iff_eq] at hc
          obtain ⟨⟨⟨⟨⟨⟨c1, c2⟩, c2b⟩, c3⟩, c4⟩, c5⟩, c6⟩ := hc
          simp only [cond_true, Option.some.injEq, Prod.mk.injEq, true_and] at h
          subst h
          obtain ⟨C1, a1, s1, l1, v1⟩ := frzVs_sound (us := parts.toList.map fun p => a.eval p.2) hs.toHSim (by simp) (fun i x u hx hu => by
            rw [List.getElem?_map] at hx hu
            obtain ⟨p, g1, rfl⟩ := Option.map_eq_some_iff.1 hx
            rw [g1] at hu
            obtain rfl := Option.some.inj hu
            exact opA_sound hs p.2) hfr
          refine (build_eff (hd d ho) ho hop (hs.frz a1 s1) he (cleanS_dels ns c1) (Nat.eq_of_beq_eq_true c2) (Nat.le_of_ble_eq_true c2b) c3 (Nat.le_of_ble_eq_true c4) (Nat.eq_of_beq_eq_true c5) c6 l1 v1).wp fun C' a' w' h1 h2 => hk C' a' w' ?_ ((a1.mono fun _ h => by cases h).trans h2)
          rw [Wr.on_gone]
          exact h1
      · cases h
    · cases h
  · -- make
    rename_i t lo co d hop ho
    split at h
    · rename_i e l c he hl hc
      split at h
      · rename_i z hz
        revert h
        generalize hb : (cleanS (d :: π) st && zeroOK cf.P e && Nat.beq (ctsT cf.P 6 e).length (cf.P.cellsOf e)) = bb
        intro h
        cases bb with
        | false => simp at h
        | true =>
          simp only [Bool.and_eq_true] at hb
          obtain ⟨⟨c1, c2⟩, c3⟩ := hb
          simp only [cond_true, Option.some.injEq, Prod.mk.injEq, Bool.and_eq_true, decide_eq_true_eq] at h
          obtain ⟨⟨⟨⟨d1, d2⟩, d3⟩, d4⟩, rfl⟩ := h
          exact (make_eff (hd d ho) ho hop hs he hl hc hz c1 c2 (Nat.eq_of_beq_eq_true c3) d1 d2 d3 d4).wp hk
      · cases h
    · cases h
  · -- store
    rename_i t x y hop
    split at h
    · rename_i nm i off hx
      split at h
      · rename_i b hb
        split at h
        · rename_i v ns hfr
          split at h
          · rename_i b' hst
            cases hz : Nat.beq (cf.P.cellsOf t) 0 || ns.any (nmEq nm) with
            | true => rw [hz] at h; simp at h
            | false =>
              rw [hz] at h
              simp only [cond_false, Option.some.injEq, Prod.mk.injEq, true_and] at h
              subst h
              rw [Bool.or_eq_false_iff] at hz
              obtain ⟨C1, a1, s1, v1, f1⟩ : ∃ C1, Agree (fun _ => false) C C1 ∧ HSim C1 (dels ns st.heap) w ∧ VR C1 v (a.eval y) ∧ (b.box = false → ∀ (j : Nat) (ct : CT) (z : AV) (x : Value), ((b.tys.drop off).take (cf.P.cellsOf t))[j]? = some ct → v.cells[j]? = some z → (a.eval y).cells[j]? = some x → VC C1.memF ct z x) := by
                cases hbox : b.box with
                | true =>
                  rw [hbox] at hfr
                  simp only [cond_true, Option.some.injEq, Prod.mk.injEq] at hfr
                  obtain ⟨rfl, rfl⟩ := hfr
                  exact ⟨C, Agree.refl _ _, hs.toHSim, opA_sound hs y, fun h => by cases h⟩
                | false =>
                  rw [hbox] at hfr
                  simp only [cond_false] at hfr
                  obtain ⟨C1, a1, s1, v1, _, _, f1⟩ := frzV_sound hs.toHSim (opA_sound hs y) hfr
                  exact ⟨C1, a1, s1, v1, fun _ j ct z x h1 h2 h3 => (f1 j ct z x h1 h2 h3).1⟩
              refine (store_eff (π := π) hd hop (hs.frz a1 s1) hx (by rw [getH_dels ns _ _ hz.2]; exact hb) v1 hst (Nat.ne_of_beq_eq_false hz.1) f1).wp fun C' a' w' h1 h2 => hk C' a' w' ?_ ((a1.mono fun _ h => by cases h).trans h2)
              rw [Wr.on_gone]
              cases hdst : o.dst with
              | none => rw [hdst] at h1; exact h1
              | some d => rw [hdst] at h1; exact h1
          · cases h
        · cases h
      · cases h
    · cases h
  · -- append
    rename_i args argTypes d hop ho
    split at h
    · rename_i x y t t' hargs hts
      split at h
      · rename_i e tys ys he hy
        revert h
        generalize hb : (cleanS (d :: π) st && Nat.beq t t' && Nat.beq tys.length (cf.P.cellsOf e) && zeroOK cf.P e && !(Nat.beq tys.length 0) && elemsF st.heap (opA st.env y)) = bb
        intro h
        cases bb with
        | false => simp at h
        | true =>
          simp only [Bool.and_eq_true, Bool.not_eq_true'] at hb
          obtain ⟨⟨⟨⟨⟨c1, c2⟩, c3⟩, c4⟩, c5⟩, c6⟩ := hb
          have e2 := Nat.eq_of_beq_eq_true c2
          subst e2
          obtain ⟨A1, A2⟩ := append_eff (hd d ho) ho hop hargs hts hs he hy c1 (Nat.eq_of_beq_eq_true c3) c4 (Nat.ne_of_beq_eq_false c5) c6
          simp only [cond_true] at h
          split at h
          · rename_i hx
            simp only [Option.some.injEq, Prod.mk.injEq, Bool.and_eq_true, decide_eq_true_eq] at h
            obtain ⟨⟨d1, d2⟩, rfl⟩ := h
            exact (A1 hx d1 d2).wp hk
          · rename_i nm hx
            split at h
            · rename_i b hb
              cases hbb : (!b.box && ctsEq tys b.tys) with
              | false => rw [hbb] at h; simp at h
              | true =>
                rw [hbb] at h
                simp only [Bool.and_eq_true, Bool.not_eq_true'] at hbb
                simp only [cond_true, Option.some.injEq, Prod.mk.injEq, Bool.and_eq_true, decide_eq_true_eq] at h
                obtain ⟨⟨d1, d2⟩, rfl⟩ := h
                exact (A2 nm b hx hb hbb.1 (ctsEq_eq _ _ hbb.2) d1 d2).wp hk
            · cases h
          · cases h
      · cases h
    · cases h
  · -- clear
    rename_i args argTypes hop
    split at h
    · rename_i x t hargs hts
      split at h
      · rename_i e nm lo n he hx
        split at h
        · rename_i b z hb hz
          cases hc : !b.box && ctsEq b.tys (ctsT cf.P 6 e) && Nat.beq (ctsT cf.P 6 e).length (cf.P.cellsOf e) && zeroOK cf.P e with
          | false => rw [hc] at h; simp at h
          | true =>
            rw [hc] at h
            simp only [Bool.and_eq_true, Bool.not_eq_true'] at hc
            obtain ⟨⟨⟨c1, c2⟩, c3⟩, c4⟩ := hc
            simp only [cond_true, Option.some.injEq, Prod.mk.injEq, true_and] at h
            subst h
            refine (clear_eff (π := π) hd hop hargs hts hs he hx hb c1 (ctsEq_eq _ _ c2) (Nat.eq_of_beq_eq_true c3) c4 hz).wp ?_
            cases hdst : o.dst with
            | none => rw [hdst] at hk; exact hk
            | some d => rw [hdst] at hk; exact hk
        · cases h
      · cases h
    · cases h
  · -- a call
    rename_i f args argTypes hop
    have hfv := opA_sound hs f
    split at h
    · rename_i g caps hf
      rw [hf] at hfv
      have hargs := ops_VR hs args.toList
      obtain ⟨vs, hfe, hcl, hcv⟩ : ∃ vs : List Value, a.eval f = .func (.func g) #[] vs.toArray ∧ caps.length = vs.length ∧ ∀ (i : Nat) (c : AV) (v : Value), caps[i]? = some c → vs[i]? = some v → VR C c v := by
        generalize a.eval f = u at hfv
        cases hfv with
        | fn _ _ vs h1 h2 => exact ⟨vs, rfl, h1, h2⟩
      have harr : (args.toList.map a.eval ++ vs).toArray = args.map a.eval ++ vs.toArray := by apply Array.ext'; simp
      split at h
      · rename_i m hm
        split at h
        · rename_i xs cs hxs hcs
          split at h
          · rename_i gg rv hrv
            obtain ⟨hknown, hmeets⟩ := hF.tree g m hm
            have hgg : gg = true := by
              split at h
              · rename_i d _
                cases hcl : cleanS (d :: π) st && nodupN ((impV (1 :: d :: π) rv).2.map (·.1)) with
                | false => rw [hcl] at h; simp at h
                | true => rw [hcl] at h; simp only [cond_true, Option.some.injEq, Prod.mk.injEq] at h; exact h.1
              · simp only [Option.some.injEq, Prod.mk.injEq] at h; exact h.1
            subst hgg
            obtain ⟨g1, g2⟩ := roVals_sound hs (us := args.toList.map a.eval) (by simp) hargs hxs
            obtain ⟨g3, g4⟩ := capArgs_sound hs hcl hcv hcs
            have hcalls := hmeets (xs ++ cs) rv hrv w (args.toList.map a.eval ++ vs) hs.globW (by simp only [List.length_append, g1, g3]) (fun i x u hx hu => by
              by_cases hi : i < xs.length
              · rw [List.getElem?_append_left hi] at hx
                rw [List.getElem?_append_left (by omega)] at hu
                exact g2 i x u hx hu
              · rw [List.getElem?_append_right (by omega)] at hx hu
                rw [g1] at hx
                exact g4 _ x u hx hu)
            unfold Oper.wp
            rw [run_call hop hfe hknown, Oper.upon_enter, ← harr]
            refine hcalls.mono fun e w' he => ?_
            obtain ⟨u, rfl, hbelow, hret⟩ := he
            simp only
            split at h
            · rename_i d ho
              cases hcl : cleanS (d :: π) st && nodupN ((impV (1 :: d :: π) rv).2.map (·.1)) with
              | false => rw [hcl] at h; simp at h
              | true =>
                rw [hcl] at h
                rw [Bool.and_eq_true] at hcl
                simp only [cond_true, Option.some.injEq, Prod.mk.injEq, true_and] at h
                subst h
                have hcl' := hcl.1
                unfold cleanS at hcl'
                rw [Bool.and_eq_true] at hcl'
                have hadd := addH_eq (impV (1 :: d :: π) rv).2 st.heap (fun x hx => by
                  cases hg : getH st.heap x.1 with
                  | none => rfl
                  | some b =>
                    have := (cleanH_get hcl'.2 x.1 b hg).1
                    rw [under_trans (impV_under _ rv x hx) (under_new d π)] at this
                    cases this) (nodupN_spec _ hcl.2)
                obtain ⟨C', k1, k2, k3⟩ := import_sound hs hcl.1 (under_new d π) hbelow hret hadd
                rw [ho]
                exact hk C' _ _ (k2.put k3 (hd d ho)) (k1.mono fun nm => under_isLoc)
            · rename_i ho
              simp only [Option.some.injEq, Prod.mk.injEq, true_and] at h
              subst h
              rw [ho]
              exact hk C _ _ (hs.withH (hs.toHSim.world (Below.grownBy hbelow) fun k hk => by cases hk) hs.env) (Agree.refl _ _)
          · cases h
        · cases h
      · rename_i m hm
        obtain ⟨hknown, hmeets⟩ := hF.wrt g m hm
        unfold mutW at h
        split at h
        · rename_i bs xs hbs hxs
          split at h
          · rename_i gg rv bs' hrv
            cases hc : bs.all flatB && bs'.all flatB && retR rv && Nat.beq bs'.length bs.length with
            | false => rw [hc] at h; simp at h
            | true =>
              rw [hc] at h
              simp only [Bool.and_eq_true] at hc
              obtain ⟨⟨⟨d1, d2⟩, d3⟩, d4⟩ := hc
              simp only [cond_true, Option.some.injEq, Prod.mk.injEq] at h
              obtain ⟨rfl, rfl⟩ := h
              have hvals : ∀ (i : Nat) (x : AV) (u : Value), (args.toList.map (opA st.env) ++ caps)[i]? = some x → (args.toList.map a.eval ++ vs)[i]? = some u → VR C x u := fun i x u hx hu => by
                by_cases hi : i < args.toList.length
                · rw [List.getElem?_append_left (by simpa using hi)] at hx hu
                  exact hargs i x u hx hu
                · rw [List.getElem?_append_right (by simp at hi ⊢; omega)] at hx hu
                  simp only [List.length_map] at hx hu
                  exact hcv _ x u hx hu
              have hlen := Nat.eq_of_beq_eq_true d4
              have M := fun w' => mut_sim (bs' := bs') (w' := w') hs.toHSim (dedupN_nodup List.nodup_nil) hbs hxs (by simp [hcl]) hvals d1
              obtain ⟨m1, m2, m3, _⟩ := M w
              have hcalls := hmeets xs bs rv bs' hrv d1 d2 d3 hlen _ w _ m1 m2 m3
              unfold Oper.wp
              rw [run_call hop hfe hknown, Oper.upon_enter, ← harr]
              refine hcalls.mono fun e w' he => ?_
              obtain ⟨u, rfl, k1, k2⟩ := he
              simp only
              have k3 := (M w').2.2.2 hlen d2 k2
              have k4 := uncan_sound k1 d3
              cases hdst : o.dst with
              | none =>
                refine hk C _ _ ?_ (Agree.refl _ _)
                have := hs.withH k3 hs.env
                simp only [hdst, Wr.on, toD, List.foldl_nil] at this ⊢
                exact this
              | some d =>
                refine hk C _ _ ?_ (Agree.refl _ _)
                have := (hs.withH k3 hs.env).put k4 (hd d hdst)
                simp only [hdst, Wr.on, toD, List.foldl_nil, List.foldl_cons] at this ⊢
                exact this
          · cases h
        · cases h
      · cases h
    · cases h
  · cases h

theorem wr_sound [Glob] {cf : Cfg} {π : Nm} {o : Oper} {wr : Wr} {next : Act → World → Prop} {Q : Exit → Act → World → Prop} (hP : cf.P = P) (hF : FOK P cf)
    (hd : ∀ d, o.dst = some d → d < nt) (hs : Sim C nt st a w) (h : wrA cf π st o = some (true, wr))
    (hk : ∀ C' a' w', Sim C' nt (wr.on st) a' w' → Agree (isLoc π) C C' → next a' w') : o.wp P a w next Q := by
  unfold wrA at h
  split at h
  · rename_i g v hv
    simp only [Option.some.injEq, Prod.mk.injEq] at h
    obtain ⟨rfl, rfl⟩ := h
    rw [hP] at hv
    obtain ⟨u, h1, h2⟩ := val_sound hs hv
    unfold Oper.wp
    rw [h1, Oper.upon_value]
    refine hk C _ _ ?_ (Agree.refl _ _)
    have := hs.puts h2 hd
    cases hdst : o.dst with
    | none => rw [hdst] at this; exact this
    | some d => rw [hdst] at this; exact this
  · exact effW_sound hP hF hd hs h hk

theorem inl_sound [Glob] {cf : Cfg} {ce : CallE} {π : Nm} {o : Oper} {k : St → Option AV} {r : AV} {next : Act → World → Prop} {Q : Exit → Act → World → Prop} (hP : cf.P = P) (hce : CES cf ce)
    (hd : ∀ d, o.dst = some d → d < nt) (hs : Sim C nt st a w) (h : inlO cf ce π st o k = some r)
    (hk : ∀ st' C' a' w', k st' = some r → Sim C' nt st' a' w' → Agree (isLoc π) C C' → next a' w') : o.wp P a w next Q := by
  subst hP
  unfold inlO at h
  split at h
  · rename_i f args argTypes d hop ho
    have hfv := opA_sound hs f
    split at h
    · rename_i g caps hf
      rw [hf] at hfv
      have hargs := ops_VR hs args.toList
      split at h
      · rename_i hinl
        cases hcl : cleanS (d :: π) st with
        | false => rw [hcl] at h; simp at h
        | true =>
          rw [hcl] at h
          simp only [cond_true] at h
          obtain ⟨vs, hfe, hl, hv⟩ : ∃ vs : List Value, a.eval f = .func (.func g) #[] vs.toArray ∧ caps.length = vs.length ∧ ∀ (i : Nat) (c : AV) (v : Value), caps[i]? = some c → vs[i]? = some v → VR C c v := by
            generalize a.eval f = u at hfv
            cases hfv with
            | fn _ _ vs h1 h2 => exact ⟨vs, rfl, h1, h2⟩
          obtain ⟨hknown, hcalls⟩ := hce g _ _ _ _ r C w (args.toList.map a.eval ++ vs) hinl h (by simp [hl]) (fun i x u hx hu => by
              by_cases hi : i < args.toList.length
              · rw [List.getElem?_append_left (by simpa using hi)] at hx hu
                exact hargs i x u hx hu
              · rw [List.getElem?_append_right (by simp at hi ⊢; omega)] at hx hu
                simp only [List.length_map] at hx hu
                exact hv _ x u hx hu) hs.toHSim
          have harr : (args.toList.map a.eval ++ vs).toArray = args.map a.eval ++ vs.toArray := by apply Array.ext'; simp
          unfold Oper.wp
          rw [run_call hop hfe hknown, Oper.upon_enter, ← harr]
          refine hcalls.mono fun e w' he => ?_
          obtain ⟨u, rfl, C', v, h', k1, k2, k3, k4⟩ := he
          simp only
          rw [ho]
          have hcl' := hcl
          unfold cleanS at hcl'
          rw [Bool.and_eq_true] at hcl'
          have kag : Agree (under (d :: π)) C C' := k4.mono fun nm h => isLoc_under h
          have hs' : Sim C' nt ⟨st.env, h'⟩ a w' := hs.withH k3 fun t => (hs.env t).move kag (cleanE_get hcl'.1 t)
          exact hk _ C' _ _ k1 (hs'.put k2 (hd d ho)) (kag.mono fun nm => under_isLoc)
      · cases h
    · cases h
  · cases h

theorem one_sound [Glob] {cf : Cfg} {ce : CallE} {π : Nm} {o : Oper} {k : St → Option AV} {r : AV} {next : Act → World → Prop} {Q : Exit → Act → World → Prop} (hP : cf.P = P) (hF : FOK P cf) (hce : CES cf ce)
    (hd : ∀ d, o.dst = some d → d < nt) (hs : Sim C nt st a w) (h : oneA cf ce π st o k = some r)
    (hk : ∀ st' C' a' w', k st' = some r → Sim C' nt st' a' w' → Agree (isLoc π) C C' → next a' w') : o.wp P a w next Q := by
  unfold oneA at h
  split at h
  · rename_i g wr hwr
    cases g with
    | false => simp at h
    | true => exact wr_sound hP hF hd hs hwr fun C' a' w' => hk _ C' a' w' h
  · exact inl_sound hP hce hd hs h hk
end
end Go.Proofs.VE
