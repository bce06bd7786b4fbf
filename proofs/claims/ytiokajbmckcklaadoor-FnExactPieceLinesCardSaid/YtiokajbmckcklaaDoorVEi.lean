/- VE, part i: names, clean states, new blocks; alloc, box, make, build of a slice. -/
import Derived.Test.YtiokajbmckcklaaDoorVEh
import Derived.Great.BuildSlice
namespace Go.Proofs.VE
open Go

/-! ### names -/
theorem under_iff (p n : Nm) : under p n = true ↔ ∃ q, n = q ++ p := by
  unfold under
  constructor
  · intro h
    cases hb : Nat.ble p.length n.length with
    | false => rw [hb] at h; simp at h
    | true =>
      rw [hb] at h
      simp only [cond_true, nmEq_iff] at h
      exact ⟨n.take (n.length - p.length), by rw [← h]; conv => lhs; rw [← List.take_append_drop (n.length - p.length) n]
                                              simp only [List.length_drop]
                                              have := Nat.le_of_ble_eq_true hb
                                              rw [show n.length - (n.length - (n.length - p.length)) = n.length - p.length by omega]⟩
  · rintro ⟨q, rfl⟩
    have : Nat.ble p.length (q ++ p).length = true := Nat.ble_eq_true_of_le (by simp)
    rw [this]
    simp only [cond_true, nmEq_iff, List.length_append, Nat.add_sub_cancel]
    simp
theorem isLoc_iff (p n : Nm) : isLoc p n = true ↔ ∃ q, q ≠ [] ∧ n = q ++ p := by
  unfold isLoc
  constructor
  · intro h
    cases hb : Nat.ble (p.length + 1) n.length with
    | false => rw [hb] at h; simp at h
    | true =>
      rw [hb] at h
      simp only [cond_true] at h
      have hl := Nat.le_of_ble_eq_true hb
      have hu : under p n = true := by
        unfold under
        rw [Nat.ble_eq_true_of_le (by omega)]
        exact h
      obtain ⟨q, rfl⟩ := (under_iff p n).1 hu
      refine ⟨q, fun e => ?_, rfl⟩
      subst e
      simp at hl
      omega
  · rintro ⟨q, hq, rfl⟩
    have : Nat.ble (p.length + 1) (q ++ p).length = true := Nat.ble_eq_true_of_le (by
      cases q with
      | nil => exact absurd rfl hq
      | cons x q => simp)
    rw [this]
    simp only [cond_true, nmEq_iff, List.length_append, Nat.add_sub_cancel]
    simp
theorem under_isLoc {d : Nat} {π n : Nm} (h : under (d :: π) n = true) : isLoc π n = true := by
  obtain ⟨q, rfl⟩ := (under_iff _ _).1 h
  exact (isLoc_iff _ _).2 ⟨q ++ [d], by simp, by simp⟩
theorem isLoc_under {π n : Nm} (h : isLoc π n = true) : under π n = true := by
  obtain ⟨q, _, rfl⟩ := (isLoc_iff _ _).1 h
  exact (under_iff _ _).2 ⟨q, rfl⟩
theorem under_new (d : Nat) (π : Nm) : under (d :: π) (1 :: d :: π) = true := (under_iff _ _).2 ⟨[1], rfl⟩
theorem under_trans {p q n : Nm} (h : under p n = true) (k : under q p = true) : under q n = true := by
  obtain ⟨x, rfl⟩ := (under_iff _ _).1 h
  obtain ⟨y, rfl⟩ := (under_iff _ _).1 k
  exact (under_iff _ _).2 ⟨x ++ y, by simp⟩

theorem getE_mem : ∀ (e : List (Nat × AV)) (t : Nat), getE e t = .undef ∨ ∃ s, (s, getE e t) ∈ e
  | [], _ => .inl rfl
  | (s, v) :: r, t => by
    unfold getE
    cases hb : Nat.beq s t with
    | true => exact .inr ⟨s, by simp⟩
    | false =>
      rcases getE_mem r t with h | ⟨x, h⟩
      · exact .inl h
      · exact .inr ⟨x, by simp only [cond_false]; exact List.mem_cons_of_mem _ h⟩
theorem getH_mem : ∀ (h : List (Nm × Blk)) (m : Nm) (b : Blk), getH h m = some b → (m, b) ∈ h
  | [], _, _, h => by cases h
  | (n, c) :: r, m, b, h => by
    unfold getH at h
    cases hb : nmEq n m with
    | true =>
      rw [hb] at h
      have := (nmEq_iff n m).1 hb
      simp at h
      subst this; subst h
      exact List.mem_cons_self
    | false =>
      rw [hb] at h
      exact List.mem_cons_of_mem _ (getH_mem r m b h)

theorem cleanE_get {q : Nm} {env : List (Nat × AV)} (h : cleanE q env = true) (t : Nat) : menV (under q) (getE env t) = false := by
  rcases getE_mem env t with e | ⟨s, hs⟩
  · rw [e]; rfl
  · unfold cleanE at h
    rw [List.all_eq_true] at h
    simpa using h _ hs
theorem cleanH_get {q : Nm} {heap : List (Nm × Blk)} (h : cleanH q heap = true) (nm : Nm) (b : Blk) (hb : getH heap nm = some b) : under q nm = false ∧ (b.box = true → ∀ x ∈ b.xs, menV (under q) x = false) := by
  unfold cleanH at h
  rw [List.all_eq_true] at h
  have := h _ (getH_mem heap nm b hb)
  simp only [Bool.and_eq_true, Bool.not_eq_true', Bool.or_eq_true, List.all_eq_true] at this
  refine ⟨this.1, fun hbox x hx => ?_⟩
  rcases this.2 with h2 | h2
  · rw [hbox] at h2; cases h2
  · exact h2 x hx

/-! ### a new block -/
def Ctx.set (C : Ctx) (n : Nm) (D : Dat) : Ctx := { C with dat := fun m => if m = n then D else C.dat m }
theorem Ctx.set_dat (C : Ctx) (n : Nm) (D : Dat) : (C.set n D).dat n = D := by simp [Ctx.set]
theorem Ctx.set_agree {q : Nm} (C : Ctx) {n : Nm} (D : Dat) (h : under q n = true) : Agree (under q) C (C.set n D) := by
  refine ⟨rfl, rfl, rfl, fun m hm => ?_⟩
  have : m ≠ n := fun e => by rw [e, h] at hm; cases hm
  simp [Ctx.set, this]

section
variable {P : Program} {C : Ctx} {nt : Nat} {st : St} {a : Act} {w w' : World}

theorem Sim.new [Glob] {q n : Nm} {r : Option Nat} {D : Dat} {b : Blk} (hs : Sim C nt st a w) (hq : cleanS q st = true) (hn : under q n = true) (hg : w.grownBy w' r)
    (hr : ∀ k, r = some k → C.base ≤ k ∧ (∀ nm b, getH st.heap nm = some b → C.real nm = true → (C.loc nm).1 ≠ k) ∧ ∀ a v, C.mem a = some v → a.block ≠ k)
    (hb : BlkR (C.set n D) w' n b)
    (hD : D.real = true → (∀ nm b', getH st.heap nm = some b' → C.real nm = true → (C.loc nm).1 ≠ D.loc.1) ∧ ∀ a v, C.mem a = some v → a.block ≠ D.loc.1) :
    Sim (C.set n D) nt ⟨st.env, setH st.heap n b⟩ a w' ∧ Agree (under q) C (C.set n D) := by
  have ha : Agree (under q) C (C.set n D) := Ctx.set_agree C D hn
  unfold cleanS at hq
  rw [Bool.and_eq_true] at hq
  have h1 := hs.ctx ha (cleanE_get hq.1) (cleanH_get hq.2)
  have same : ∀ nm b', getH st.heap nm = some b' → (C.set n D).dat nm = C.dat nm := fun nm b' h => ha.dat nm (cleanH_get hq.2 nm b' h).1
  have h2 : HSim (C.set n D) st.heap w' := h1.toHSim.world hg fun k hk => by
    obtain ⟨x, y, z⟩ := hr k hk
    refine ⟨x, fun nm b' h hreal => ?_, z⟩
    unfold Ctx.real Ctx.loc at *
    rw [same nm b' h] at *
    exact y nm b' h hreal
  refine ⟨hs.withH (h2.setBlk hb fun hreal => ?_) h1.env, ha⟩
  unfold Ctx.real Ctx.loc at *
  rw [Ctx.set_dat] at *
  obtain ⟨x, y⟩ := hD hreal
  refine ⟨fun nm b' _ h hr' => ?_, y⟩
  rw [same nm b' h] at *
  exact x nm b' h hr'

theorem lt_old [Glob] (hs : Sim C nt st a w) : (∀ nm b', getH st.heap nm = some b' → C.real nm = true → (C.loc nm).1 ≠ w.heap.size) ∧ ∀ a v, C.mem a = some v → a.block ≠ w.heap.size :=
  ⟨fun nm b' h hr => Nat.ne_of_lt ((hs.blk nm b' h).room hr).2.1, fun a v h => Nat.ne_of_lt (hs.mem a v h).2.1⟩

/-- A block at the end of the heap. -/
theorem newBlk {C : Ctx} {n : Nm} {cs : Array Value} {e : TypeId} {b : Blk} {width room : Nat} (hd : C.dat n = ⟨true, (w.heap.size, 0), width, b.xs.length, room⟩) (hbase : C.base ≤ w.heap.size)
    (hw : b.box = false → width = b.tys.length) (hbox : b.box = true → b.xs.length = 1) (hmax : b.xs.length ≤ maxLen) (hlen : b.xs.length ≤ room) (hroom : room * width ≤ cs.size)
    (hc : ∀ i x, b.xs[i]? = some x → x.cells.length = width ∧ ∀ j c, x.cells[j]? = some c → ∃ u, cs[i * width + j]? = some u ∧ cellR C b j c u) : BlkR C (w.alloc (.cells cs e)) n b := by
  have hcell : ∀ o, (w.alloc (.cells cs e)).cell? ⟨w.heap.size, o, none⟩ = cs[o]? := fun o => World.cell?_alloc_at cs e _ _ rfl
  refine ⟨hmax, by unfold Ctx.len; rw [hd], by unfold Ctx.width; rw [hd]; exact hw, by unfold Ctx.real; rw [hd]; exact fun h => ⟨hbox h, rfl⟩, by unfold Ctx.real; rw [hd]; exact (fun h => by cases h), ?_, ?_, fun _ _ o => by unfold Ctx.loc; rw [hd]; exact World.frozen?_alloc_at cs e _ _ rfl⟩
  · intro i x hx
    obtain ⟨h1, h2⟩ := hc i x hx
    refine ⟨by unfold Ctx.width; rw [hd]; exact h1, fun j c hj => ?_⟩
    obtain ⟨u, h3, h4⟩ := h2 j c hj
    refine ⟨u, ?_, h4⟩
    unfold Ctx.at Ctx.loc Ctx.width at_
    rw [hd]
    simp only [Nat.zero_add]
    rw [hcell]
    exact h3
  · intro _
    unfold Ctx.loc Ctx.room Ctx.width
    rw [hd]
    refine ⟨hbase, by simp, hlen, fun o (ho : o < room * width) => ?_⟩
    simp only [Nat.zero_add]
    rw [hcell]
    refine ⟨?_, World.frozen?_alloc_at cs e _ _ rfl⟩
    rw [Array.getElem?_eq_getElem (by omega)]
    rfl

theorem zero_spec {t : TypeId} {z : AV} (h : zeroA P t = some z) : ∃ zv i, z = ofVal zv ∧ P.info? t = some i ∧ i.zero = some zv := by
  unfold zeroA at h
  obtain ⟨zv, hzv, rfl⟩ := Option.map_eq_some_iff.1 h
  obtain ⟨it, hit, hzero⟩ := Option.bind_eq_some_iff.1 hzv
  exact ⟨zv, it, rfl, hit, hzero⟩
theorem run_zero {t : TypeId} {i : TypeInfo} {zv : Value} (h : P.info? t = some i) (hz : i.zero = some zv) : (zeroValue t).run P w = .ok zv w := by
  unfold zeroValue
  rw [run_bind' (run_typeInfo h)]
  simp only [hz]
  rfl
theorem run_newVar (t : TypeId) (v : Value) : (newVar t v).run P w = .ok ⟨w.heap.size, 0, none⟩ (w.alloc (.cells v.cells t)) := rfl

/-- What an operation comes to: its frame and world, the state that stands for them. -/
def Eff [Glob] (P : Program) (π : Nm) (C : Ctx) (nt : Nat) (o : Oper) (a : Act) (w : World) (st' : St) : Prop :=
  ∃ C' n u w', (execOp a.eval o).run P w = .ok n w' ∧ (n = .value u ∨ n = .skip ∧ u = undef) ∧ Agree (isLoc π) C C' ∧ Sim C' nt st' (a.put o.dst u) w'

theorem clean_men {q : Nm} (h : cleanS q st = true) (x : Operand) : menV (under q) (opA st.env x) = false := by
  unfold cleanS at h
  rw [Bool.and_eq_true] at h
  cases x with
  | tmp t => exact cleanE_get h.1 t
  | const v =>
    show menV _ (ofVal v) = false
    have one : ∀ u, menC (under q) (ofVal1 u) = false := fun u => by unfold ofVal1; split <;> rfl
    have oneW : ∀ u, menW (under q) (ofVal1 u) = false := fun u => by unfold ofVal1; split <;> rfl
    unfold ofVal
    split
    · rename_i cells
      cases cells.toList.all fun v => match v with | .agg _ | .tuple _ => false | _ => true with
      | true =>
        simp only [cond_true, menV, List.any_eq_false]
        intro c hc
        obtain ⟨u, _, rfl⟩ := List.mem_map.1 hc
        simp [one]
      | false => rfl
    · simp only [menV, List.any_eq_false]
      intro c hc
      obtain ⟨u, _, rfl⟩ := List.mem_map.1 hc
      simp [oneW]
    · exact menC_menV (one v)
  | global _ => rfl
  | func f => rfl

theorem box_new [Glob] {o : Oper} {d : Nat} {π : Nm} {x : AV} {u : Value} {t : TypeId} (hd : d < nt) (ho : o.dst = some d) (hs : Sim C nt st a w) (hx : VR C x u) (hok : okV x = true) (hm : menV (under (d :: π)) x = false)
    (hq : cleanS (d :: π) st = true) (hr : (execOp a.eval o).run P w = .ok (.value (.pointer (some ⟨w.heap.size, 0, none⟩))) (w.alloc (.cells u.cells t))) :
    Eff P π C nt o a w ⟨setE st.env d (.ptr (1 :: d :: π) 0 0), setH st.heap (1 :: d :: π) ⟨true, [], [x]⟩⟩ := by
  have D : Dat := ⟨true, (w.heap.size, 0), x.cells.length, 1, 1⟩
  have ha : Agree (under (d :: π)) C (C.set (1 :: d :: π) ⟨true, (w.heap.size, 0), x.cells.length, 1, 1⟩) := Ctx.set_agree C _ (under_new d π)
  have hc := okV_cells (hx.move ha hm) hok
  have hb : BlkR (C.set (1 :: d :: π) ⟨true, (w.heap.size, 0), x.cells.length, 1, 1⟩) (w.alloc (.cells u.cells t)) (1 :: d :: π) ⟨true, [], [x]⟩ := by
    refine newBlk (by rw [Ctx.set_dat]; rfl) hs.grown (fun h => by cases h) (fun _ => rfl) (by simp [maxLen]) (Nat.le_refl 1) (by rw [hc.size]; omega) ?_
    intro i y hy
    cases i with
    | succ i => simp at hy
    | zero =>
      simp only [List.getElem?_cons_zero, Option.some.injEq] at hy
      subst hy
      refine ⟨rfl, fun j c hj => ?_⟩
      have hlt : j < u.cells.size := by rw [← hc.size]; exact (List.getElem?_eq_some_iff.1 hj).1
      have hu : u.cells[j]? = some u.cells[j] := Array.getElem?_eq_getElem hlt
      refine ⟨u.cells[j], by simp, hc.one j _ hu, ?_⟩
      simp only [if_true]
      exact hc.get j c _ hj hu
  obtain ⟨h1, h2⟩ := hs.new (r := none) hq (under_new d π) (World.grownBy_alloc w _ none) (fun k h => by cases h) hb fun _ => lt_old hs
  refine ⟨_, _, _, _, hr, .inl rfl, h2.mono fun nm h => under_isLoc h, ?_⟩
  rw [ho]
  refine h1.put ?_ hd
  have : (⟨w.heap.size, 0, none⟩ : Addr) = (C.set (1 :: d :: π) ⟨true, (w.heap.size, 0), x.cells.length, 1, 1⟩).at (1 :: d :: π) 0 0 := by
    unfold Ctx.at Ctx.loc Ctx.width at_
    rw [Ctx.set_dat]
    simp
  rw [this]
  exact .ptr _ 0 0 (by unfold Ctx.real; rw [Ctx.set_dat]) (by unfold Ctx.len; rw [Ctx.set_dat]; exact Nat.one_pos)

theorem ofVal_men (q : Nm) (v : Value) : menV (under q) (ofVal v) = false := by
  have := clean_men (st := ⟨[], []⟩) (q := q) rfl (.const v)
  exact this

theorem alloc_eff [Glob] {o : Oper} {d : Nat} {π : Nm} {t : TypeId} {z : AV} (hd : d < nt) (ho : o.dst = some d) (hop : o.op = .alloc t) (hs : Sim C nt st a w) (hz : zeroA P t = some z) (hok : okV z = true)
    (hq : cleanS (d :: π) st = true) : Eff P π C nt o a w ⟨setE st.env d (.ptr (1 :: d :: π) 0 0), setH st.heap (1 :: d :: π) ⟨true, [], [z]⟩⟩ := by
  obtain ⟨zv, i, rfl, hi, hzero⟩ := zero_spec hz
  refine box_new (u := zv) (t := t) hd ho hs (ofVal_sound zv) hok (ofVal_men _ zv) hq ?_
  unfold execOp
  simp only [hop]
  refine run_v ?_
  unfold Instr.alloc
  rw [run_bind' (run_zero hi hzero)]
  exact run_bind' (run_newVar t zv)

theorem box_eff [Glob] {o : Oper} {d : Nat} {π : Nm} {t : TypeId} {x : Operand} (hd : d < nt) (ho : o.dst = some d) (hop : o.op = .box t x) (hs : Sim C nt st a w) (hok : okV (opA st.env x) = true)
    (hq : cleanS (d :: π) st = true) : Eff P π C nt o a w ⟨setE st.env d (.ptr (1 :: d :: π) 0 0), setH st.heap (1 :: d :: π) ⟨true, [], [opA st.env x]⟩⟩ := by
  refine box_new (u := a.eval x) (t := t) hd ho hs (opA_sound hs x) hok (clean_men hq x) hq ?_
  unfold execOp
  simp only [hop]
  refine run_v ?_
  unfold Instr.box
  exact run_bind' (run_newVar t _)
end
end Go.Proofs.VE
