/- Channels in one goroutine: make, len, a select of one case with a default. -/
import Derived.Test.YtegokapgmhoecaaJG
import Derived.Conc.LoneSelect
set_option linter.unusedSimpArgs false
set_option linter.unusedVariables false
set_option linter.unusedSectionVars false
set_option maxRecDepth 20000
namespace Go.J
open Go
/-- a channel with room for so many, that nobody closed, and what is in it -/
def Res.ch (b cap : Nat) (buf : List Value) : Res where
  p w s := (∃ s' r, w.heap[b]? = some (.chan cap buf.toArray false s' r false)) ∧ ∀ k, s k ↔ k = b
  loc := fun ⟨⟨s', r, h⟩, hs⟩ he => ⟨⟨s', r, by rw [he _ ((hs _).2 rfl)]; exact h⟩, hs⟩
  dom := fun ⟨⟨s', r, h⟩, hs⟩ hk => by
    have := (hs _).1 hk; subst this
    exact (Array.getElem?_eq_some_iff.1 h).1
section
variable {P : Program} {n : Nat} {w0 : World} {F : Fr} {m : Mem} {Rs : List Res} {Q : Exit → Act → World → Prop} {K : Act → World → Prop} {C : World → Prop}
theorem HW.ch {w : World} (h : HW w0 m Rs w) {b cap : Nat} {buf : List Value} {Rs' : List Res} (hp : Pick Rs (.ch b cap buf) Rs') : ∃ s' r, w.heap[b]? = some (.chan cap buf.toArray false s' r false) :=
  let ⟨_, h1, _⟩ := h.get hp
  h1
theorem pr_len_ch {x : Operand} {t e : TypeId} {dir : ChanDir} {b cap : Nat} {buf : List Value} {Rs' : List Res} (ht : P.underlying t = some (.chan dir e)) (hx : ev F x = some (.chan (some b))) (hp : Pick Rs (.ch b cap buf) Rs') :
    PR P n F (HW w0 m Rs) (.call ⟨.builtin .len, #[x], #[t]⟩) (.int .i64 (buf.length : Int)) := fun _ _ _ _ _ a w ha hC => by
  obtain ⟨s', r, hh⟩ := hC.ch hp
  simp [execOp, resolve, invoke, builtin, ha.ev hx, Builtin.len_, underlying, program, ht, Sem.run, goInt, getObj, hh]
def chanB (P : Program) (t : TypeId) : Bool := match P.underlying t with
  | some (.chan _ e) => match P.info? e with
    | some i => Nat.ble i.bytes 4096
    | none => false
  | _ => false
theorem chanB_spec {t : TypeId} (h : chanB P t = true) : ∃ d e i, P.underlying t = some (.chan d e) ∧ P.info? e = some i ∧ i.bytes ≤ 4096 := by
  unfold chanB at h
  split at h
  · rename_i d e he
    split at h
    · rename_i i hi
      exact ⟨d, e, i, he, hi, Nat.le_of_ble_eq_true h⟩
    · cases h
  · cases h
theorem run_makeChan {t e : TypeId} {dir : ChanDir} {i : TypeInfo} {k : Nat} (hu : P.underlying t = some (.chan dir e)) (hi : P.info? e = some i) (hb : i.bytes ≤ 4096) (hk : k ≤ 1000000) (w : World) :
    (Instr.makeChan t (.int .i64 (k : Int))).run P w = .ok (.chan (some w.heap.size)) { w with heap := w.heap.push (.chan k #[] false 0 0 false) } := by
  have h1 : ¬ ((k : Int) < 0) := by omega
  have h2 : ¬ ((k : Int) > IntKind.i64.max) := by
    have : IntKind.i64.max = 9223372036854775807 := rfl
    omega
  have h3 : ¬ ((i.bytes : Int) * (k : Int) > 2 ^ 48 - 112) := by
    have : (i.bytes : Int) * (k : Int) ≤ 4096 * 1000000 := Int.mul_le_mul (by omega) (by omega) (by omega) (by omega)
    have e : (2 : Int) ^ 48 - 112 = 281474976710544 := by decide
    omega
  have hti : (typeInfo e).run P w = .ok i w := by simp only [typeInfo, program, bind, Sem.bind, Sem.run, hi]; rfl
  have hru : (underlying t).run P w = .ok (.chan dir e) w := by simp only [underlying, program, bind, Sem.bind, Sem.run, hu]; rfl
  unfold Instr.makeChan
  simp only [Sem.run_bind]
  rw [show (asInt (.int .i64 (k : Int))).run P w = .ok (k : Int) w from rfl]
  simp only [Result.andThen]
  rw [hru]
  simp only [Result.andThen, Sem.run_bind]
  rw [hti]
  simp only [Result.andThen]
  rw [if_neg (fun h => h.elim h1 fun h => h.elim h2 h3)]
  rfl
theorem At.makeChan {ops : Array Oper} {rest : List Oper} {d : Nat} {t : TypeId} {x : Operand} {ty : TypeId} {pos : String} {aft : Array Edge} {k : Nat} (ht : chanB P t = true) (hx : ev F x = some (.int .i64 (k : Int))) (hk : k ≤ 1000000) (hd : Nat.blt d n = true)
    (h : ∀ b, At n w0 ((d, .chan (some b)) :: F) m (.ch b k [] :: Rs) (wpList P ops Q rest)) : At n w0 F m Rs (wpList P ops Q (⟨some d, .makeChan t x, ty, pos, aft, none⟩ :: rest)) := fun a w ha hw =>
  wpList_plain rfl fun K hK => by
    obtain ⟨dir, e, i, hu, hi, hb⟩ := chanB_spec ht
    unfold Oper.wp
    have : (execOp a.eval ⟨some d, .makeChan t x, ty, pos, aft, none⟩).run P w = .ok (.value (.chan (some w.heap.size))) { w with heap := w.heap.push (.chan k #[] false 0 0 false) } := by
      simp only [execOp, ha.ev hx, Sem.run_bind]
      rw [run_makeChan hu hi hb hk]
      rfl
    rw [this]
    refine hK _ _ (h _ _ _ (ha.put hd) (hw.add rfl rfl rfl (by simp) (fun k hk => by simp [Array.getElem?_push, Nat.ne_of_lt hk]) ⟨fun k => k = w.heap.size, ⟨⟨0, 0, by simp⟩, fun _ => Iff.rfl⟩, fun k hk => by simp_all⟩))
/-- a region whose first operation is one step of the machine -/
theorem wp_region_first {id : Nat} {o : Oper} {rest : List Oper} {a : Act} {w : World} {W : Value → World → Prop} (hg : o.guard = none)
    (hs : ∀ (b : Frame) (k : List Item) (cs : List Frame), ∃ v w', step P (lone (b.at a (.inRegion (o :: rest).toArray (0 :: List.range' 1 rest.length) :: k)) cs w) = .next (lone ((b.at a (.inRegion (o :: rest).toArray (0 :: List.range' 1 rest.length) :: k)).finish v) cs w') ∧ W v w')
    (h : ∀ v w', W v w' → wpList P (o :: rest).toArray Q rest (a.put o.dst v) w') : (Code.region id (o :: rest).toArray false).wp P Q a w := fun b k cs => by
  obtain ⟨v, w', hst, hW⟩ := hs b k cs
  have h' := h v w' hW
  rw [← wpOps_eq_wpList (ops := (o :: rest).toArray) rest 1 (fun j => by simp [Nat.add_comm 1 j])] at h'
  obtain ⟨e, a', w2, hq, harr⟩ := wp_ops _ _ _ h' b k cs
  rw [Frame.finish_at] at hst
  have e0 : (((o :: rest).toArray)[0]?).bind (·.dst) = o.dst := by simp
  rw [e0] at hst
  have e1 : List.range (o :: rest).toArray.size = 0 :: List.range' 1 rest.length := by
    rw [List.range_eq_range']; simp [List.range'_succ]
  refine ⟨e, a', w2, hq, .of_steps (.one step_region) (.of_steps (.one ?_) harr)⟩
  rw [e1]; exact hst
theorem stepG_sel {b : Frame} {a : Act} {k : List Item} {cs : List Frame} {w : World} {o : Oper} {rest : List Oper} {r : List Nat} {cases_ : Array CommCase} {blocking : Bool} (hg : o.guard = none)
    (hr : (execOp a.eval o).run P w = .ok (.comm cases_ blocking .select) w) :
    ∃ es, stepG P true (Conc.G (b.at a (.inRegion (o :: rest).toArray (0 :: r) :: k)) cs) w = .comm (Conc.G (b.at a (.inRegion (o :: rest).toArray (0 :: r) :: k)) cs) cases_ blocking .select w es := by
  have hg' := stepG_op (P := P) (b := b) (a := a) (k := k) (cs := cs) (w := w) (ops := (o :: rest).toArray) (i := 0) (rest := r) (o := o) (by simp) (by simp [Region.wanted, hg])
  have hbare : (stepG P true (Conc.G (b.at a (.inRegion (o :: rest).toArray (0 :: r) :: k)) cs) w).bare = .comm (Conc.G (b.at a (.inRegion (o :: rest).toArray (0 :: r) :: k)) cs) cases_ blocking .select w := by
    show (stepG P true { frame := b.at a (.inRegion (o :: rest).toArray (0 :: r) :: k), callers := cs, status := .running, dying := none } w).bare = _
    rw [hg']; simp [stepG.apply, hr, Conc.G]
  generalize hs : stepG P true (Conc.G (b.at a (.inRegion (o :: rest).toArray (0 :: r) :: k)) cs) w = s at hbare
  cases s <;> simp at hbare
  obtain ⟨rfl, rfl, rfl, rfl, rfl⟩ := hbare
  exact ⟨_, rfl⟩
/-- a channel's turn -/
theorem HW.chTurn {w : World} (h : HW w0 m Rs w) {b cap : Nat} {buf buf' : List Value} {Rs' : List Res} (hp : Repl Rs (.ch b cap buf) (.ch b cap buf') Rs') (s r : Nat) : HW w0 m Rs' (w.setChan b cap buf'.toArray false s r false) := by
  obtain ⟨T, hp1, _⟩ := hp.picks
  obtain ⟨s', r', hb⟩ := h.ch hp1
  refine h.upd (b := b) hp rfl rfl rfl (by simp [World.setChan]) (fun s hs => (hs.2 b).2 rfl) (fun k _ hk => ?_) (fun t ht => ⟨t, ⟨⟨s, r, ?_⟩, ht.2⟩, fun k hk => .inl hk⟩)
  · simp only [World.setChan]; rw [Array.getElem?_setIfInBounds_ne (Ne.symm hk)]
  · exact Conc.heap_setChan _ _ _ _ _ _ _ _ (Array.getElem?_eq_some_iff.1 hb).1
def zeroVB (P : Program) (t : TypeId) : Option Value := match P.info? t with
  | some i => i.zero
  | none => none
theorem run_sel_recv {a : Act} {w : World} {d : Option Tmp} {x : Operand} {e : TypeId} {ty : TypeId} {pos : String} {aft : Array Edge} {g : Option (Nat × Bool)} {b : Nat} {z : Value} (hx : a.eval x = .chan (some b)) (hz : zeroVB P e = some z) :
    (execOp a.eval ⟨d, .select #[⟨x, none, e⟩] false, ty, pos, aft, g⟩).run P w = .ok (.comm #[Conc.rcase b z] false .select) w := by
  unfold zeroVB at hz
  cases hi : P.info? e with
  | none => rw [hi] at hz; cases hz
  | some i =>
    rw [hi] at hz
    simp only [execOp, Array.mapM_eq_mapM_toList, List.mapM_cons, List.mapM_nil, hx, zeroValue, typeInfo, program, hi, hz, Conc.rcase, Sem.run, bind, Sem.bind, pure, Functor.map, Option.map_none]
    rfl
theorem run_sel_send {a : Act} {w : World} {d : Option Tmp} {x y : Operand} {e : TypeId} {ty : TypeId} {pos : String} {aft : Array Edge} {g : Option (Nat × Bool)} {b : Nat} {v z : Value} (hx : a.eval x = .chan (some b)) (hy : a.eval y = v) (hz : zeroVB P e = some z) :
    (execOp a.eval ⟨d, .select #[⟨x, some y, e⟩] false, ty, pos, aft, g⟩).run P w = .ok (.comm #[Conc.scase b v z] false .select) w := by
  unfold zeroVB at hz
  cases hi : P.info? e with
  | none => rw [hi] at hz; cases hz
  | some i =>
    rw [hi] at hz
    simp only [execOp, Array.mapM_eq_mapM_toList, List.mapM_cons, List.mapM_nil, hx, hy, zeroValue, typeInfo, program, hi, hz, Conc.scase, Sem.run, bind, Sem.bind, pure, Functor.map, Option.map_some]
    rfl
variable {id : Nat} {d : Nat} {x y : Operand} {e : TypeId} {ty : TypeId} {pos : String} {aft : Array Edge} {b cap : Nat} {z v : Value} {buf : List Value} {rest : List Oper} {Rs' : List Res}
/-- nothing is there: the default -/
theorem At.selRecv0 {l0 : List Oper} (hl : flat l0 = some (⟨some d, .select #[⟨x, none, e⟩] false, ty, pos, aft, none⟩ :: rest)) (hx : ev F x = some (.chan (some b))) (hz : zeroVB P e = some z) (hd : Nat.blt d n = true) (hp : Pick Rs (.ch b cap []) Rs')
    (h : At n w0 ((d, .tuple #[.int .i64 (-1), .bool false, z]) :: F) m Rs (wpList P (⟨some d, .select #[⟨x, none, e⟩] false, ty, pos, aft, none⟩ :: rest).toArray Q rest)) :
    At n w0 F m Rs ((Code.region id l0.toArray false).wp P Q) := fun a w ha hw => by
  rw [← flat_eq _ _ hl]
  obtain ⟨s, r, hc⟩ := hw.ch hp
  refine wp_region_first (W := fun v w' => v = .tuple #[.int .i64 (-1), .bool false, z] ∧ w' = w) rfl (fun b' k cs => ?_) fun v w' ⟨e1, e2⟩ => by subst e1 e2; exact h _ _ (ha.put hd) hw
  obtain ⟨es, hs⟩ := stepG_sel (P := P) (b := b') (k := k) (cs := cs) (rest := rest) (r := List.range' 1 rest.length) rfl (run_sel_recv (d := some d) (ty := ty) (pos := pos) (aft := aft) (g := none) (w := w) (ha.ev hx) hz)
  exact ⟨_, _, Conc.step_lone_select_default hs hc, rfl, rfl⟩
/-- the first of what is there -/
theorem At.selRecv1 {l0 : List Oper} (hl : flat l0 = some (⟨some d, .select #[⟨x, none, e⟩] false, ty, pos, aft, none⟩ :: rest)) (hx : ev F x = some (.chan (some b))) (hz : zeroVB P e = some z) (hd : Nat.blt d n = true) (hp : Repl Rs (.ch b cap (v :: buf)) (.ch b cap buf) Rs')
    (h : At n w0 ((d, .tuple #[.int .i64 0, .bool true, v]) :: F) m Rs' (wpList P (⟨some d, .select #[⟨x, none, e⟩] false, ty, pos, aft, none⟩ :: rest).toArray Q rest)) :
    At n w0 F m Rs ((Code.region id l0.toArray false).wp P Q) := fun a w ha hw => by
  rw [← flat_eq _ _ hl]
  obtain ⟨T, hp1, _⟩ := hp.picks
  obtain ⟨s, r, hc⟩ := hw.ch hp1
  refine wp_region_first (W := fun v' w' => v' = .tuple #[.int .i64 0, .bool true, v] ∧ w' = w.setChan b cap buf.toArray false s (r + 1) false) rfl (fun b' k cs => ?_) fun v' w' ⟨e1, e2⟩ => by subst e1 e2; exact h _ _ (ha.put hd) (hw.chTurn hp _ _)
  obtain ⟨es, hs⟩ := stepG_sel (P := P) (b := b') (k := k) (cs := cs) (rest := rest) (r := List.range' 1 rest.length) rfl (run_sel_recv (d := some d) (ty := ty) (pos := pos) (aft := aft) (g := none) (w := w) (ha.ev hx) hz)
  have := Conc.step_lone_select_recv_buf hs hc (by simp)
  refine ⟨_, _, this, by simp [goInt], ?_⟩
  congr 1
  apply Array.ext'; simp
/-- there is room -/
theorem At.selSend {l0 : List Oper} (hl : flat l0 = some (⟨some d, .select #[⟨x, some y, e⟩] false, ty, pos, aft, none⟩ :: rest)) (hx : ev F x = some (.chan (some b))) (hy : ev F y = some v) (hz : zeroVB P e = some z) (hd : Nat.blt d n = true) (hp : Repl Rs (.ch b cap buf) (.ch b cap (buf ++ [v])) Rs') (hr : buf.length < cap)
    (h : At n w0 ((d, .tuple #[.int .i64 0, .bool false]) :: F) m Rs' (wpList P (⟨some d, .select #[⟨x, some y, e⟩] false, ty, pos, aft, none⟩ :: rest).toArray Q rest)) :
    At n w0 F m Rs ((Code.region id l0.toArray false).wp P Q) := fun a w ha hw => by
  rw [← flat_eq _ _ hl]
  obtain ⟨T, hp1, _⟩ := hp.picks
  obtain ⟨s, r, hc⟩ := hw.ch hp1
  refine wp_region_first (W := fun v' w' => v' = .tuple #[.int .i64 0, .bool false] ∧ w' = w.setChan b cap (buf ++ [v]).toArray false (s + 1) r false) rfl (fun b' k cs => ?_) fun v' w' ⟨e1, e2⟩ => by subst e1 e2; exact h _ _ (ha.put hd) (hw.chTurn hp _ _)
  obtain ⟨es, hs⟩ := stepG_sel (P := P) (b := b') (k := k) (cs := cs) (rest := rest) (r := List.range' 1 rest.length) rfl (run_sel_send (d := some d) (ty := ty) (pos := pos) (aft := aft) (g := none) (w := w) (ha.ev hx) (ha.ev hy) hz)
  have := Conc.step_lone_select_send_room hs hc (by simpa using hr)
  exact ⟨_, _, this, by simp [goInt], by simp⟩
end
end Go.J
