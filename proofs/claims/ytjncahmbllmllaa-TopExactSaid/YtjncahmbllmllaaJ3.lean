/- The rules of memory: blocks that a function owns, loads, stores, new blocks, calls. -/
import Derived.Test.YtjncahmbllmllaaJ2
set_option linter.unusedSimpArgs false
set_option linter.unusedVariables false
set_option linter.unusedSectionVars false
set_option maxRecDepth 20000
namespace Go.J
open Go

/-! ### cells -/
def oneCell : Value → Bool
  | .agg _ | .tuple _ => false
  | _ => true

theorem World.cell_of {w : World} {b : Nat} {c : Array Value} {E : TypeId} {fz : Nat × Nat} (h : w.heap[b]? = some (.cells c E fz)) (o : Nat) : w.cell? ⟨b, o, none⟩ = c[o]? := by
  simp [World.cell?, h]

theorem Addr.add_eq (b o j : Nat) : (⟨b, o, none⟩ : Addr).add j = ⟨b, o + j, none⟩ := by
  unfold Addr.add
  split
  · rename_i h; subst h; rfl
  · rfl

theorem run_loadCellsFrom {P : Program} (w : World) (b o : Nat) : ∀ (k i : Nat) (acc : Array Value) (vs : List Value), vs.length = k → (∀ j, j < k → w.cell? ⟨b, o + (i + j), none⟩ = vs[j]?) →
    (loadCellsFrom ⟨b, o, none⟩ i k acc).run P w = .ok (acc ++ vs.toArray) w := by
  intro k
  induction k with
  | zero => intro i acc vs hl _; cases vs with
    | nil => simp [loadCellsFrom]
    | cons => cases hl
  | succ k ih =>
    intro i acc vs hl h
    cases vs with
    | nil => cases hl
    | cons v vs =>
      have h0 := h 0 (by omega)
      simp only [Nat.add_zero, List.getElem?_cons_zero] at h0
      have := ih (i + 1) (acc.push v) vs (by simpa using hl) (fun j hj => by
        have := h (j + 1) (by omega)
        simp only [List.getElem?_cons_succ] at this
        rw [← this, show i + 1 + j = i + (j + 1) by omega])
      unfold loadCellsFrom
      simp only [load, bind, Sem.bind, Sem.run, Addr.add_eq, h0]
      rw [show (loadCellsFrom ⟨b, o, none⟩ (i + 1) k (acc.push v)).run P w = _ from this]
      simp

theorem run_loadCells {P : Program} (w : World) (b o : Nat) (vs : List Value) (h : ∀ j, j < vs.length → w.cell? ⟨b, o + j, none⟩ = vs[j]?) : (loadCells ⟨b, o, none⟩ vs.length).run P w = .ok vs.toArray w := by
  unfold loadCells
  rw [run_loadCellsFrom w b o vs.length 0 #[] vs rfl (fun j hj => by rw [Nat.zero_add]; exact h j hj)]
  simp

def isAggB (P : Program) (t : TypeId) : Option Bool :=
  match P.underlying t with
  | some (.struct _) | some (.array _ _) => some true
  | some _ => some false
  | none => none
def sizeB (P : Program) (t : TypeId) : Option Nat := match P.info? t with
  | some i => some i.size
  | none => none

theorem run_isAgg {P : Program} {t : TypeId} {b : Bool} (h : isAggB P t = some b) (w : World) : (isAgg t).run P w = .ok b w := by
  unfold isAggB at h
  unfold isAgg
  cases hu : P.underlying t with
  | none => rw [hu] at h; cases h
  | some d =>
    rw [hu] at h
    have hr : (underlying t).run P w = .ok d w := by simp only [underlying, program, bind, Sem.bind, Sem.run, hu]; rfl
    simp only [Sem.run_bind]
    rw [hr]
    cases d <;> simp at h <;> subst h <;> rfl
theorem run_sizeOf {P : Program} {t : TypeId} {k : Nat} (h : sizeB P t = some k) (w : World) : (sizeOf t).run P w = .ok k w := by
  unfold sizeB at h
  unfold sizeOf typeInfo
  cases hi : P.info? t with
  | none => rw [hi] at h; cases h
  | some i =>
    rw [hi] at h
    cases h
    simp only [program, bind, Sem.bind, Sem.run, hi]; rfl

theorem run_loadVar1 {P : Program} {t : TypeId} {w : World} {b o : Nat} {v : Value} (ht : isAggB P t = some false) (hc : w.cell? ⟨b, o, none⟩ = some v) : (loadVar t ⟨b, o, none⟩).run P w = .ok v w := by
  unfold loadVar
  simp only [Sem.run_bind]
  rw [run_isAgg ht]
  simp [Result.andThen, load, Sem.run, hc]
theorem run_loadVarN {P : Program} {t : TypeId} {w : World} {b o : Nat} {vs : List Value} (ht : isAggB P t = some true) (hs : sizeB P t = some vs.length) (hc : ∀ j, j < vs.length → w.cell? ⟨b, o + j, none⟩ = vs[j]?) :
    (loadVar t ⟨b, o, none⟩).run P w = .ok (.agg vs.toArray) w := by
  unfold loadVar
  simp only [Sem.run_bind]
  rw [run_isAgg ht]
  simp only [Result.andThen, if_true, Sem.run_bind]
  rw [run_sizeOf hs]
  simp only []
  rw [run_loadCells w b o vs hc]
  rfl

/-- writes a list into a list -/
def putl : List Value → Nat → List Value → Option (List Value)
  | cs, 0, [] => some cs
  | [], 0, _ :: _ => none
  | _ :: cs, 0, v :: vs => match putl cs 0 vs with
    | some r => some (v :: r)
    | none => none
  | [], _ + 1, _ => none
  | c :: cs, o + 1, vs => match putl cs o vs with
    | some r => some (c :: r)
    | none => none
def nthl : List Value → Nat → Option Value
  | [], _ => none
  | c :: _, 0 => some c
  | _ :: cs, o + 1 => nthl cs o
def subl : List Value → Nat → Nat → Option (List Value)
  | _, 0, 0 => some []
  | [], 0, _ + 1 => none
  | c :: cs, 0, k + 1 => match subl cs 0 k with
    | some r => some (c :: r)
    | none => none
  | [], _ + 1, _ => none
  | _ :: cs, o + 1, k => subl cs o k

theorem nthl_eq : ∀ (cs : List Value) (o : Nat), nthl cs o = cs[o]?
  | [], _ => by simp [nthl]
  | _ :: _, 0 => rfl
  | _ :: cs, o + 1 => by rw [nthl, nthl_eq cs o]; rfl
theorem subl_length : ∀ (cs : List Value) (o k : Nat) (r : List Value), subl cs o k = some r → r.length = k
  | _, 0, 0, r, h => by cases r with
    | nil => rfl
    | cons => simp [subl] at h
  | [], 0, _ + 1, _, h => by simp [subl] at h
  | c :: cs, 0, k + 1, r, h => by
    simp only [subl] at h
    cases hh : subl cs 0 k with
    | none => rw [hh] at h; cases h
    | some r' => rw [hh] at h; cases h; simp [subl_length cs 0 k r' hh]
  | [], _ + 1, _, _, h => by simp [subl] at h
  | _ :: cs, o + 1, k, r, h => by simp only [subl] at h; exact subl_length cs o k r h
theorem subl_get : ∀ (cs : List Value) (o k : Nat) (r : List Value), subl cs o k = some r → ∀ j, j < k → cs[o + j]? = r[j]?
  | _, 0, 0, _, _, j, hj => by omega
  | [], 0, _ + 1, _, h, _, _ => by simp [subl] at h
  | c :: cs, 0, k + 1, r, h, j, hj => by
    simp only [subl] at h
    cases hh : subl cs 0 k with
    | none => rw [hh] at h; cases h
    | some r' =>
      rw [hh] at h; cases h
      cases j with
      | zero => rfl
      | succ j =>
        have := subl_get cs 0 k r' hh j (by omega)
        simpa [Nat.zero_add] using this
  | [], _ + 1, _, _, h, _, _ => by simp [subl] at h
  | _ :: cs, o + 1, k, r, h, j, hj => by
    simp only [subl] at h
    have := subl_get cs o k r h j hj
    rw [show o + 1 + j = (o + j) + 1 by omega]
    simpa using this

/-! ### resources: a block -/
def Res.blk (b : Nat) (E : TypeId) (cs : List Value) : Res where
  p w s := w.heap[b]? = some (.cells cs.toArray E (0, 0)) ∧ ∀ k, s k ↔ k = b
  loc := fun ⟨h, hs⟩ he => ⟨by rw [he _ ((hs _).2 rfl)]; exact h, hs⟩
  dom := fun ⟨h, hs⟩ hk => by
    have := (hs _).1 hk; subst this
    exact (Array.getElem?_eq_some_iff.1 h).1

inductive Repl : List Res → Res → Res → List Res → Prop
  | here {R R' : Res} {Rs : List Res} : Repl (R :: Rs) R R' (R' :: Rs)
  | there {X R R' : Res} {Rs Rs' : List Res} : Repl Rs R R' Rs' → Repl (X :: Rs) R R' (X :: Rs')
/-! one out of the first ten -/
section
variable {X0 X1 X2 X3 X4 X5 X6 X7 X8 X9 R R' : Res} {Rs : List Res}
theorem pk0 : Pick (R :: Rs) R (Rs) := .here
theorem pk1 : Pick (X0 :: R :: Rs) R (X0 :: Rs) := .there (.here)
theorem pk2 : Pick (X0 :: X1 :: R :: Rs) R (X0 :: X1 :: Rs) := .there (.there (.here))
theorem pk3 : Pick (X0 :: X1 :: X2 :: R :: Rs) R (X0 :: X1 :: X2 :: Rs) := .there (.there (.there (.here)))
theorem pk4 : Pick (X0 :: X1 :: X2 :: X3 :: R :: Rs) R (X0 :: X1 :: X2 :: X3 :: Rs) := .there (.there (.there (.there (.here))))
theorem pk5 : Pick (X0 :: X1 :: X2 :: X3 :: X4 :: R :: Rs) R (X0 :: X1 :: X2 :: X3 :: X4 :: Rs) := .there (.there (.there (.there (.there (.here)))))
theorem pk6 : Pick (X0 :: X1 :: X2 :: X3 :: X4 :: X5 :: R :: Rs) R (X0 :: X1 :: X2 :: X3 :: X4 :: X5 :: Rs) := .there (.there (.there (.there (.there (.there (.here))))))
theorem pk7 : Pick (X0 :: X1 :: X2 :: X3 :: X4 :: X5 :: X6 :: R :: Rs) R (X0 :: X1 :: X2 :: X3 :: X4 :: X5 :: X6 :: Rs) := .there (.there (.there (.there (.there (.there (.there (.here)))))))
theorem pk8 : Pick (X0 :: X1 :: X2 :: X3 :: X4 :: X5 :: X6 :: X7 :: R :: Rs) R (X0 :: X1 :: X2 :: X3 :: X4 :: X5 :: X6 :: X7 :: Rs) := .there (.there (.there (.there (.there (.there (.there (.there (.here))))))))
theorem pk9 : Pick (X0 :: X1 :: X2 :: X3 :: X4 :: X5 :: X6 :: X7 :: X8 :: R :: Rs) R (X0 :: X1 :: X2 :: X3 :: X4 :: X5 :: X6 :: X7 :: X8 :: Rs) := .there (.there (.there (.there (.there (.there (.there (.there (.there (.here)))))))))
theorem rp0 : Repl (R :: Rs) R R' (R' :: Rs) := .here
theorem rp1 : Repl (X0 :: R :: Rs) R R' (X0 :: R' :: Rs) := .there (.here)
theorem rp2 : Repl (X0 :: X1 :: R :: Rs) R R' (X0 :: X1 :: R' :: Rs) := .there (.there (.here))
theorem rp3 : Repl (X0 :: X1 :: X2 :: R :: Rs) R R' (X0 :: X1 :: X2 :: R' :: Rs) := .there (.there (.there (.here)))
theorem rp4 : Repl (X0 :: X1 :: X2 :: X3 :: R :: Rs) R R' (X0 :: X1 :: X2 :: X3 :: R' :: Rs) := .there (.there (.there (.there (.here))))
theorem rp5 : Repl (X0 :: X1 :: X2 :: X3 :: X4 :: R :: Rs) R R' (X0 :: X1 :: X2 :: X3 :: X4 :: R' :: Rs) := .there (.there (.there (.there (.there (.here)))))
theorem rp6 : Repl (X0 :: X1 :: X2 :: X3 :: X4 :: X5 :: R :: Rs) R R' (X0 :: X1 :: X2 :: X3 :: X4 :: X5 :: R' :: Rs) := .there (.there (.there (.there (.there (.there (.here))))))
theorem rp7 : Repl (X0 :: X1 :: X2 :: X3 :: X4 :: X5 :: X6 :: R :: Rs) R R' (X0 :: X1 :: X2 :: X3 :: X4 :: X5 :: X6 :: R' :: Rs) := .there (.there (.there (.there (.there (.there (.there (.here)))))))
theorem rp8 : Repl (X0 :: X1 :: X2 :: X3 :: X4 :: X5 :: X6 :: X7 :: R :: Rs) R R' (X0 :: X1 :: X2 :: X3 :: X4 :: X5 :: X6 :: X7 :: R' :: Rs) := .there (.there (.there (.there (.there (.there (.there (.there (.here))))))))
theorem rp9 : Repl (X0 :: X1 :: X2 :: X3 :: X4 :: X5 :: X6 :: X7 :: X8 :: R :: Rs) R R' (X0 :: X1 :: X2 :: X3 :: X4 :: X5 :: X6 :: X7 :: X8 :: R' :: Rs) := .there (.there (.there (.there (.there (.there (.there (.there (.there (.here)))))))))
end
theorem Repl.picks {Rs Rs' : List Res} {R R' : Res} (h : Repl Rs R R' Rs') : ∃ T, Pick Rs R T ∧ Pick Rs' R' T := by
  induction h with
  | here => exact ⟨_, .here, .here⟩
  | there _ ih => obtain ⟨T, h1, h2⟩ := ih; exact ⟨_, .there h1, .there h2⟩

section
variable {P : Program} {n : Nat} {w0 : World} {F : Fr} {m : Mem} {Rs : List Res} {Q : Exit → Act → World → Prop} {K : Act → World → Prop} {C : World → Prop}

theorem HW.blk {w : World} (h : HW w0 m Rs w) {b : Nat} {E : TypeId} {cs : List Value} {Rs' : List Res} (hp : Pick Rs (.blk b E cs) Rs') : w.heap[b]? = some (.cells cs.toArray E (0, 0)) :=
  let ⟨_, h1, _⟩ := h.get hp
  h1

/-- one block is written: the list turns at its place -/
theorem HW.upd {w : World} (h : HW w0 m Rs w) {b : Nat} {R R' : Res} {Rs' : List Res} (hp : Repl Rs R R' Rs') {w' : World}
    (hos : w'.os = w.os) (htape : w'.tape = w.tape) (hout : w'.output = w.output) (hsz : w.heap.size ≤ w'.heap.size)
    (hin : ∀ s, R.p w s → s b) (hold : ∀ k, k < w.heap.size → k ≠ b → w'.heap[k]? = w.heap[k]?) (hnew : ∀ s, R.p w s → ∃ s', R'.p w' s' ∧ ∀ k, s' k → s k ∨ w.heap.size ≤ k) : HW w0 m Rs' w' := by
  obtain ⟨T, h1, h2⟩ := hp.picks
  obtain ⟨s, hs, hm⟩ := (h.ent (Ent.of_pick h1)).res
  obtain ⟨s1, s2, hR, hT, hd, he⟩ := hs
  obtain ⟨s1', hR', hsub⟩ := hnew s1 hR
  have hT' : Sat T w' s2 := Sat.loc hT fun k hk => hold k (Sat.dom hT hk) (fun e => hd k ⟨by rw [e]; exact hin s1 hR, hk⟩)
  refine HW.ent (Rs := R' :: T) ⟨hos.trans h.os, htape.trans h.tape, hout.trans h.output, Nat.le_trans h.size hsz, fun k o hk => ?_, fun k => s1' k ∨ s2 k, ⟨s1', s2, hR', hT', ?_, fun _ => Iff.rfl⟩, ?_⟩ (Ent.to_pick h2)
  · have hk' := h.mem k o hk
    have hlt := (Array.getElem?_eq_some_iff.1 hk').1
    rw [hold k hlt (fun e => ?_)]
    · exact hk'
    · have := hm k ((he k).2 (.inl (by rw [e]; exact hin s1 hR)))
      rw [this] at hk; cases hk
  · rintro k ⟨x, y⟩
    rcases hsub k x with x | x
    · exact hd k ⟨x, y⟩
    · have := Sat.dom hT y; omega
  · rintro k (x | x)
    · rcases hsub k x with x | x
      · exact hm k ((he k).2 (.inl x))
      · cases hk : m k with
        | none => rfl
        | some o =>
          have := (Array.getElem?_eq_some_iff.1 (h.mem k o hk)).1
          omega
    · exact hm k ((he k).2 (.inr x))

/-- a new resource, all of it in new blocks -/
theorem HW.add {w : World} (h : HW w0 m Rs w) {R : Res} {w' : World}
    (hos : w'.os = w.os) (htape : w'.tape = w.tape) (hout : w'.output = w.output) (hsz : w.heap.size ≤ w'.heap.size)
    (hold : ∀ k, k < w.heap.size → w'.heap[k]? = w.heap[k]?) (hnew : ∃ s', R.p w' s' ∧ ∀ k, s' k → w.heap.size ≤ k) : HW w0 m (R :: Rs) w' := by
  obtain ⟨s, hs, hm⟩ := h.res
  obtain ⟨s', hR, hge⟩ := hnew
  refine ⟨hos.trans h.os, htape.trans h.tape, hout.trans h.output, Nat.le_trans h.size hsz, fun k o hk => ?_, fun k => s' k ∨ s k, ⟨s', s, hR, Sat.loc hs fun k hk => hold k (Sat.dom hs hk), ?_, fun _ => Iff.rfl⟩, ?_⟩
  · have hk' := h.mem k o hk
    rw [hold k (Array.getElem?_eq_some_iff.1 hk').1]; exact hk'
  · rintro k ⟨x, y⟩
    have := Sat.dom hs y
    have := hge k x
    omega
  · rintro k (x | x)
    · cases hk : m k with
      | none => rfl
      | some o =>
        have := (Array.getElem?_eq_some_iff.1 (h.mem k o hk)).1
        have := hge k x
        omega
    · exact hm k x

theorem HW.alloc {w : World} (h : HW w0 m Rs w) (E : TypeId) (cs : List Value) : HW w0 m (.blk w.heap.size E cs :: Rs) { w with heap := w.heap.push (.cells cs.toArray E (0, 0)) } :=
  h.add rfl rfl rfl (by simp) (fun k hk => by simp [Array.getElem?_push, Nat.ne_of_lt hk]) ⟨fun k => k = w.heap.size, ⟨by simp, fun _ => Iff.rfl⟩, fun k hk => by simp_all⟩

/-- an owned block becomes memory that stays as it is -/
theorem At.freeze {b : Nat} {E : TypeId} {cs : List Value} {Rs' : List Res} (hp : Pick Rs (.blk b E cs) Rs')
    (h : ∀ m' : Mem, m.le m' → m' b = some (.cells cs.toArray E (0, 0)) → At n w0 F m' Rs' K) : At n w0 F m Rs K := fun a w ha hw => by
  obtain ⟨s, ⟨s1, s2, ⟨h1, hs1⟩, h2, hd, he⟩, hm⟩ := (hw.ent (Ent.of_pick hp)).res
  have hmb : m b = none := hm b ((he b).2 (.inl ((hs1 b).2 rfl)))
  refine h (fun k => if k = b then some (.cells cs.toArray E (0, 0)) else m k) (fun k o hk => ?_) (if_pos rfl) a w ha
    ⟨hw.os, hw.tape, hw.output, hw.size, fun k o hk => ?_, s2, h2, fun k hk => ?_⟩
  · show (if k = b then _ else _) = _
    rw [if_neg (fun e => by subst e; rw [hmb] at hk; cases hk)]; exact hk
  · by_cases e : k = b
    · subst e
      rw [if_pos rfl] at hk; cases hk; exact h1
    · rw [if_neg e] at hk; exact hw.mem k o hk
  · show (if k = b then _ else _) = _
    rw [if_neg (fun e => hd k ⟨(hs1 k).2 e, hk⟩)]
    exact hm k ((he k).2 (.inr hk))

/-! ### loads -/
theorem pr_load1 {x : Operand} {t : TypeId} {b o : Nat} {v : Value} (ht : isAggB P t = some false) (hx : ev F x = some (.pointer (some ⟨b, o, none⟩))) (hc : ∀ w, C w → w.cell? ⟨b, o, none⟩ = some v) : PR P n F C (.load t x) v := fun _ _ _ _ _ a w ha hC => by
  simp only [execOp, ha.ev hx, Instr.loadAt, Instr.sureAddr, Sem.run_bind]
  simp only [pure, Sem.run, Result.andThen]
  rw [run_loadVar1 ht (hc w hC)]
theorem pr_loadN {x : Operand} {t : TypeId} {b o : Nat} {vs : List Value} (ht : isAggB P t = some true) (hx : ev F x = some (.pointer (some ⟨b, o, none⟩))) (hs : sizeB P t = some vs.length) (hc : ∀ w, C w → ∀ j, j < vs.length → w.cell? ⟨b, o + j, none⟩ = vs[j]?) : PR P n F C (.load t x) (.agg vs.toArray) := fun _ _ _ _ _ a w ha hC => by
  simp only [execOp, ha.ev hx, Instr.loadAt, Instr.sureAddr, Sem.run_bind]
  simp only [pure, Sem.run, Result.andThen]
  rw [run_loadVarN ht hs (hc w hC)]

theorem pr_load_blk1 {x : Operand} {t : TypeId} {b o : Nat} {E : TypeId} {cs : List Value} {Rs' : List Res} {v : Value} (ht : isAggB P t = some false) (hx : ev F x = some (.pointer (some ⟨b, o, none⟩)))
    (hp : Pick Rs (.blk b E cs) Rs') (hv : nthl cs o = some v) : PR P n F (HW w0 m Rs) (.load t x) v :=
  pr_load1 ht hx fun w hC => by rw [World.cell_of (hC.blk hp)]; rw [nthl_eq] at hv; simpa using hv
theorem pr_load_blkN {x : Operand} {t : TypeId} {b o : Nat} {E : TypeId} {cs : List Value} {Rs' : List Res} {k : Nat} {vs : List Value} (ht : isAggB P t = some true) (hx : ev F x = some (.pointer (some ⟨b, o, none⟩)))
    (hs : sizeB P t = some k) (hp : Pick Rs (.blk b E cs) Rs') (hv : subl cs o k = some vs) : PR P n F (HW w0 m Rs) (.load t x) (.agg vs.toArray) :=
  have hl := subl_length cs o k vs hv
  pr_loadN ht hx (by rw [hl]; exact hs) fun w hC j hj => by
    rw [World.cell_of (hC.blk hp)]
    rw [← subl_get cs o k vs hv j (by omega)]
    simp
theorem pr_load_mem1 {x : Operand} {t : TypeId} {b o : Nat} {E : TypeId} {fz : Nat × Nat} {cs : List Value} {v : Value} (ht : isAggB P t = some false) (hx : ev F x = some (.pointer (some ⟨b, o, none⟩)))
    (hp : m b = some (.cells cs.toArray E fz)) (hv : nthl cs o = some v) : PR P n F (HW w0 m Rs) (.load t x) v :=
  pr_load1 ht hx fun w hC => by rw [World.cell_of (hC.mem _ _ hp)]; rw [nthl_eq] at hv; simpa using hv
theorem pr_load_memN {x : Operand} {t : TypeId} {b o : Nat} {E : TypeId} {fz : Nat × Nat} {cs : List Value} {k : Nat} {vs : List Value} (ht : isAggB P t = some true) (hx : ev F x = some (.pointer (some ⟨b, o, none⟩)))
    (hs : sizeB P t = some k) (hp : m b = some (.cells cs.toArray E fz)) (hv : subl cs o k = some vs) : PR P n F (HW w0 m Rs) (.load t x) (.agg vs.toArray) :=
  have hl := subl_length cs o k vs hv
  pr_loadN ht hx (by rw [hl]; exact hs) fun w hC j hj => by
    rw [World.cell_of (hC.mem _ _ hp)]
    rw [← subl_get cs o k vs hv j (by omega)]
    simp

/-! ### fields -/
def litN : Nat → Option Nat
  | 0 => some 0
  | 1 => some 1
  | 2 => some 2
  | 3 => some 3
  | 4 => some 4
  | 5 => some 5
  | 6 => some 6
  | 7 => some 7
  | 8 => some 8
  | 9 => some 9
  | 10 => some 10
  | 11 => some 11
  | 12 => some 12
  | 13 => some 13
  | 14 => some 14
  | 15 => some 15
  | 16 => some 16
  | 17 => some 17
  | 18 => some 18
  | 19 => some 19
  | 20 => some 20
  | 21 => some 21
  | 22 => some 22
  | 23 => some 23
  | 24 => some 24
  | 25 => some 25
  | 26 => some 26
  | 27 => some 27
  | 28 => some 28
  | 29 => some 29
  | 30 => some 30
  | 31 => some 31
  | 32 => some 32
  | 33 => some 33
  | 34 => some 34
  | 35 => some 35
  | 36 => some 36
  | 37 => some 37
  | 38 => some 38
  | 39 => some 39
  | 40 => some 40
  | 41 => some 41
  | 42 => some 42
  | 43 => some 43
  | 44 => some 44
  | 45 => some 45
  | 46 => some 46
  | 47 => some 47
  | 48 => some 48
  | 49 => some 49
  | 50 => some 50
  | 51 => some 51
  | 52 => some 52
  | 53 => some 53
  | 54 => some 54
  | 55 => some 55
  | 56 => some 56
  | 57 => some 57
  | 58 => some 58
  | 59 => some 59
  | 60 => some 60
  | 61 => some 61
  | 62 => some 62
  | 63 => some 63
  | n => some n
theorem litN_eq (n : Nat) : litN n = some n := by unfold litN; split <;> rfl
def fieldB (P : Program) (s : TypeId) (f : Nat) : Option Nat :=
  match P.underlying s with
  | some (.struct fs) => match fs[f]? with
    | some fd => match P.info? fd.type with
      | some i => match i.size with
        | 0 => none
        | _ + 1 => litN fd.offset
      | none => none
    | none => none
  | _ => none
theorem run_fieldAt {P : Program} {s : TypeId} {f off : Nat} (h : fieldB P s f = some off) (a : Addr) (w : World) : (Instr.fieldAt s (.pointer (some a)) f).run P w = .ok (.pointer (some (a.add off))) w := by
  unfold fieldB at h
  unfold Instr.fieldAt
  cases hu : P.underlying s with
  | none => rw [hu] at h; cases h
  | some d =>
    rw [hu] at h
    have hr : (underlying s).run P w = .ok d w := by simp only [underlying, program, bind, Sem.bind, Sem.run, hu]; rfl
    cases d <;> simp at h
    rename_i fs
    simp only [Sem.run_bind]
    rw [hr]
    simp only [Result.andThen]
    cases hf : fs[f]? with
    | none => rw [hf] at h; cases h
    | some fd =>
      rw [hf] at h
      simp only at h ⊢
      cases hi : P.info? fd.type with
      | none => rw [hi] at h; cases h
      | some i =>
        rw [hi] at h
        simp only at h
        have hsz : (sizeOf fd.type).run P w = .ok i.size w := run_sizeOf (by simp [sizeB, hi]) w
        cases hz : i.size with
        | zero => rw [hz] at h; cases h
        | succ q =>
          rw [hz] at h hsz
          simp only [litN_eq] at h
          cases h
          simp only [Instr.sureAddr, fieldPlace, pure, Sem.run_bind, Sem.run, Result.andThen]
          rw [hsz]
          simp
theorem pr_fieldAddr {x : Operand} {s : TypeId} {f off b o : Nat} (hx : ev F x = some (.pointer (some ⟨b, o, none⟩))) (hf : fieldB P s f = some off) : PR P n F C (.fieldAddr s x f) (.pointer (some ⟨b, o + off, none⟩)) := fun _ _ _ _ _ a w ha _ => by
  simp only [execOp, ha.ev hx, Sem.run_bind]
  rw [run_fieldAt hf, Addr.add_eq]
  rfl
theorem pr_fieldAddrL {x : Operand} {s : TypeId} {f off b o r : Nat} (hx : ev F x = some (.pointer (some ⟨b, o, none⟩))) (hf : fieldB P s f = some off) (hr : litN (o + off) = some r) : PR P n F C (.fieldAddr s x f) (.pointer (some ⟨b, r, none⟩)) := by
  rw [litN_eq] at hr; cases hr
  exact pr_fieldAddr hx hf
theorem pr_fieldAddr0 {x : Operand} {s : TypeId} {f off b : Nat} (hx : ev F x = some (.pointer (some ⟨b, 0, none⟩))) (hf : fieldB P s f = some off) : PR P n F C (.fieldAddr s x f) (.pointer (some ⟨b, off, none⟩)) := by
  have := pr_fieldAddr (C := C) (n := n) hx hf
  rwa [Nat.zero_add] at this

/-! ### stores, new variables -/
def cellsB : Value → Option (List Value)
  | .agg cs => flat cs.toList
  | v => some [v]
theorem cellsB_eq {v : Value} {vs : List Value} (h : cellsB v = some vs) : v.cells = vs.toArray := by
  cases v <;> simp only [cellsB] at h
  case agg cs => rw [flat_eq _ _ h]; simp [Value.cells]
  all_goals (cases h; rfl)

theorem run_storeCells {P : Program} {b : Nat} {E : TypeId} : ∀ (vs : List Value) (i o : Nat) (cs r : List Value) (w : World), w.heap[b]? = some (.cells cs.toArray E (0, 0)) → vs.all oneCell = true → putl cs (o + i) vs = some r →
    ∃ w', (storeCells ⟨b, o, none⟩ vs i).run P w = .ok () w' ∧ w'.heap[b]? = some (.cells r.toArray E (0, 0)) ∧ (∀ k, k ≠ b → w'.heap[k]? = w.heap[k]?) ∧ w'.heap.size = w.heap.size ∧ w'.os = w.os ∧ w'.tape = w.tape ∧ w'.output = w.output := by
  intro vs
  induction vs with
  | nil =>
    intro i o cs r w hb _ hp
    have : r = cs := by
      clear hb
      generalize o + i = k at hp
      induction k generalizing cs r with
      | zero => cases cs <;> simp [putl] at hp <;> first | exact hp | exact hp.symm
      | succ k ih =>
        cases cs with
        | nil => simp [putl] at hp
        | cons c cs =>
          simp only [putl] at hp
          cases hh : putl cs k [] with
          | none => rw [hh] at hp; cases hp
          | some r' => rw [hh] at hp; cases hp; rw [ih cs r' hh]
    subst this
    exact ⟨w, rfl, hb, fun _ _ => rfl, rfl, rfl, rfl, rfl⟩
  | cons v vs ih =>
    intro i o cs r w hb h1 hp
    simp only [List.all_cons, Bool.and_eq_true] at h1
    have key : ∀ (k : Nat) (cs r : List Value), putl cs k (v :: vs) = some r → k < cs.length ∧ putl (cs.set k v) (k + 1) vs = some r := by
      intro k
      induction k with
      | zero =>
        intro cs r hp
        cases cs with
        | nil => simp [putl] at hp
        | cons c cs =>
          simp only [putl] at hp
          cases hh : putl cs 0 vs with
          | none => rw [hh] at hp; cases hp
          | some r' => rw [hh] at hp; cases hp; exact ⟨by simp, by simp [putl, hh]⟩
      | succ k ih =>
        intro cs r hp
        cases cs with
        | nil => simp [putl] at hp
        | cons c cs =>
          simp only [putl] at hp
          cases hh : putl cs k (v :: vs) with
          | none => rw [hh] at hp; cases hp
          | some r' =>
            rw [hh] at hp; cases hp
            have := ih cs r' hh
            exact ⟨by simp; omega, by simp [putl, this.2]⟩
    obtain ⟨hlt, hp'⟩ := key _ cs r hp
    have hb' : (w.setCell ⟨b, o + i, none⟩ v).heap[b]? = some (.cells (cs.set (o + i) v).toArray E (0, 0)) := by
      simp only [World.setCell, Array.getElem?_modify, if_true, hb, Option.map_some]
      simp
    obtain ⟨w', hr, h2, h3, h4, h5, h6, h7⟩ := ih (i + 1) o _ r _ hb' h1.2 (by rw [← Nat.add_assoc]; exact hp')
    refine ⟨w', ?_, h2, fun k hk => ?_, ?_, h5, h6, h7⟩
    · unfold storeCells
      have hcell : w.cell? ⟨b, o + i, none⟩ = some cs[o + i] := by rw [World.cell_of hb]; simp [hlt]
      have hfz : w.frozen? ⟨b, o + i, none⟩ = false := by simp [World.frozen?, hb]
      simp only [store, bind, Sem.bind, Addr.add_eq]
      cases v <;> simp [oneCell] at h1 <;> simp only [Sem.run, hcell, hfz] <;> simpa using hr
    · rw [h3 k hk]
      simp only [World.setCell, Array.getElem?_modify]
      rw [if_neg (Ne.symm hk)]
    · rw [h4]; simp [World.setCell]

theorem At.store {ops : Array Oper} {rest : List Oper} {t : TypeId} {x y : Operand} {ty : TypeId} {pos : String} {aft : Array Edge} {b o : Nat} {v : Value} {vs cs r : List Value} {E : TypeId} {Rs' : List Res} {k : Nat}
    (hx : ev F x = some (.pointer (some ⟨b, o, none⟩))) (hy : ev F y = some v) (hv : cellsB v = some vs) (hs : sizeB P t = some k) (hk : vs.length = k) (h1 : vs.all oneCell = true)
    (hr : ∃ cs', cs' = cs ∧ putl cs' o vs = some r) (hp : Repl Rs (.blk b E cs) (.blk b E r) Rs')
    (h : At n w0 F m Rs' (wpList P ops Q rest)) : At n w0 F m Rs (wpList P ops Q (⟨none, .store t x y, ty, pos, aft, none⟩ :: rest)) := fun a w ha hw =>
  wpList_plain rfl fun K hK => by
    obtain ⟨cs', e, hr⟩ := hr
    subst e
    obtain ⟨T, hp1, _⟩ := hp.picks
    have hb := hw.blk hp1
    have hvc : v.cells.toList = vs := by
      rw [cellsB_eq hv]
    obtain ⟨w', hrun, h2, h3, h4, h5, h6, h7⟩ := run_storeCells (P := P) vs 0 o cs' r w hb h1 hr
    have hrun' : (execOp a.eval ⟨none, .store t x y, ty, pos, aft, none⟩).run P w = .ok .skip w' := by
      simp only [execOp, ha.ev hx, ha.ev hy, Instr.storeAt, Instr.sureAddr, storeVar, pure, Sem.run_bind, Sem.run, Result.andThen]
      rw [run_sizeOf hs]
      have : v.cells.size = k := by rw [← hk, ← hvc]; simp
      simp only [this, ne_eq, not_true, if_false]
      rw [hvc, hrun]
    unfold Oper.wp
    rw [hrun']
    exact hK _ _ (h _ _ ha (hw.upd hp h5 h6 h7 (by omega) (fun s hs => (hs.2 b).2 rfl) (fun k _ hk => h3 k hk) (fun s hs => ⟨s, ⟨h2, hs.2⟩, fun k hk => .inl hk⟩)))

def zeroB (P : Program) (t : TypeId) : Option (List Value) := match P.info? t with
  | some i => match i.zero with
    | some z => cellsB z
    | none => none
  | none => none

theorem At.alloc {ops : Array Oper} {rest : List Oper} {d : Nat} {t : TypeId} {ty : TypeId} {pos : String} {aft : Array Edge} {zs : List Value} (hz : zeroB P t = some zs) (hd : Nat.blt d n = true)
    (h : ∀ b, At n w0 ((d, .pointer (some ⟨b, 0, none⟩)) :: F) m (.blk b t zs :: Rs) (wpList P ops Q rest)) : At n w0 F m Rs (wpList P ops Q (⟨some d, .alloc t, ty, pos, aft, none⟩ :: rest)) := fun a w ha hw =>
  wpList_plain rfl fun K hK => by
    have hz' : ∃ i z, P.info? t = some i ∧ i.zero = some z ∧ z.cells = zs.toArray := by
      unfold zeroB at hz
      cases hi : P.info? t with
      | none => rw [hi] at hz; cases hz
      | some i =>
        rw [hi] at hz
        simp only at hz
        cases hzz : i.zero with
        | none => rw [hzz] at hz; cases hz
        | some z =>
          rw [hzz] at hz
          exact ⟨i, z, rfl, hzz, cellsB_eq hz⟩
    obtain ⟨i, z, hi, hzz, hc⟩ := hz'
    unfold Oper.wp
    have : (execOp a.eval ⟨some d, .alloc t, ty, pos, aft, none⟩).run P w = .ok (.value (.pointer (some ⟨w.heap.size, 0, none⟩))) { w with heap := w.heap.push (.cells zs.toArray t (0, 0)) } := by
      simp only [execOp, Instr.alloc, zeroValue, typeInfo, program, newVar, newRow, newObj, hi, hzz, hc, Sem.run, bind, Sem.bind, pure]
    rw [this]
    exact hK _ _ (h _ _ _ (ha.put hd) (hw.alloc t zs))
theorem At.box {ops : Array Oper} {rest : List Oper} {d : Nat} {t : TypeId} {x : Operand} {ty : TypeId} {pos : String} {aft : Array Edge} {v : Value} {zs : List Value} (hx : ev F x = some v) (hz : cellsB v = some zs) (hd : Nat.blt d n = true)
    (h : ∀ b, At n w0 ((d, .pointer (some ⟨b, 0, none⟩)) :: F) m (.blk b t zs :: Rs) (wpList P ops Q rest)) : At n w0 F m Rs (wpList P ops Q (⟨some d, .box t x, ty, pos, aft, none⟩ :: rest)) := fun a w ha hw =>
  wpList_plain rfl fun K hK => by
    have hc : v.cells = zs.toArray := cellsB_eq hz
    unfold Oper.wp
    have : (execOp a.eval ⟨some d, .box t x, ty, pos, aft, none⟩).run P w = .ok (.value (.pointer (some ⟨w.heap.size, 0, none⟩))) { w with heap := w.heap.push (.cells zs.toArray t (0, 0)) } := by
      simp only [execOp, ha.ev hx, Instr.box, newVar, newRow, newObj, hc, Sem.run, bind, Sem.bind, pure]
    rw [this]
    exact hK _ _ (h _ _ _ (ha.put hd) (hw.alloc t zs))

/-! ### calls -/
def evs (F : Fr) : List Operand → Option (List Value)
  | [] => some []
  | x :: xs => match ev F x with
    | some v => match evs F xs with
      | some vs => some (v :: vs)
      | none => none
    | none => none
theorem evs_map {a : Act} (ha : HF n F a) : ∀ (xs : List Operand) (vs : List Value), evs F xs = some vs → xs.map a.eval = vs
  | [], vs, h => by cases h; rfl
  | x :: xs, vs, h => by
    simp only [evs] at h
    cases hx : ev F x with
    | none => rw [hx] at h; cases h
    | some v =>
      rw [hx] at h
      simp only at h
      cases hxs : evs F xs with
      | none => rw [hxs] at h; cases h
      | some us =>
        rw [hxs] at h; cases h
        simp [ha.ev hx, evs_map ha xs us hxs]

/-- the callee is a Go function that the text names -/
def goFn (P : Program) (f : FuncId) : Bool := match P.funcs[f]? with
  | some fn => fn.body.isSome && !(fn.name == "runtime.NumGoroutine")
  | none => false
theorem run_callFunc {f : FuncId} (hg : goFn P f = true) (args : Array Value) (w : World) : (callFunc f args).run P w = .ok (.enter f args) w := by
  unfold goFn at hg
  cases hf : P.funcs[f]? with
  | none => rw [hf] at hg; cases hg
  | some fn =>
    rw [hf] at hg
    simp only [Bool.and_eq_true, Bool.not_eq_true'] at hg
    unfold callFunc
    simp only [program, bind, Sem.bind, Sem.run, hf, hg.2]
    have : fn.body.isNone = false := by
      cases hb : fn.body with
      | none => rw [hb] at hg; simp at hg
      | some c => rfl
    simp [this, pure]

theorem At.call {ops : Array Oper} {rest : List Oper} {d : Option Nat} {f : FuncId} {xs : List Operand} {ts : Array TypeId} {ty : TypeId} {pos : String} {aft : Array Edge} {vs : List Value} {A Rest : List Res} {R : Value → Mem → List Res → Prop}
    (hg : goFn P f = true) (hx : evs F xs = some vs) (hd : d.all (Nat.blt · n) = true) (hc : Ct P f vs.toArray m A R) (hA : Ent Rs (A ++ Rest))
    (h : ∀ v m' B, m.le m' → R v m' B → At n w0 (d.elim F (fun d => (d, v) :: F)) m' (B ++ Rest) (wpList P ops Q rest)) :
    At n w0 F m Rs (wpList P ops Q (⟨d, .call ⟨.value (.func f), xs.toArray, ts⟩, ty, pos, aft, none⟩ :: rest)) := fun a w ha hw =>
  wpList_plain rfl fun K hK => by
    unfold Oper.wp
    have : (execOp a.eval ⟨d, .call ⟨.value (.func f), xs.toArray, ts⟩, ty, pos, aft, none⟩).run P w = .ok (.enter f vs.toArray) w := by
      rw [execOp_call_go]
      have : (#[] ++ xs.toArray.map a.eval ++ #[] : Array Value) = vs.toArray := by simp [evs_map ha xs vs hx]
      rw [this, run_callFunc hg]
    rw [this]
    refine (hc w0 Rest w (hw.ent hA)).mono ?_
    rintro e w' ⟨v, m', B, rfl, hm, hR, hw'⟩
    refine hK _ _ (h v m' B hm hR _ _ ?_ hw')
    cases d with
    | none => exact ha
    | some d => exact ha.put (by simpa using hd)
/-- A call that yields a value and leaves all as it is. -/
def Pu (P : Program) (f : FuncId) (args : Array Value) (V : Value) : Prop := ∀ m, Ct P f args m [] (fun v m' B => v = V ∧ m' = m ∧ B = [])

theorem Pu.intro {f : FuncId} {args : Array Value} {V : Value} (h : ∀ m, Ct P f args m [] (fun v m' B => v = V ∧ m' = m ∧ B = [])) : Pu P f args V := h
theorem Pu.calls {f : FuncId} {args : Array Value} {V : Value} (h : Pu P f args V) {w : World} (hw : HW w0 m Rs w) : Calls P f args w fun e w' => e = .returned V ∧ HW w0 m Rs w' :=
  (h m w0 Rs w hw).mono fun _ _ ⟨v, m', B, he, _, ⟨hv, hm', hB⟩, hw'⟩ => by subst hv hm' hB; exact ⟨he, hw'⟩

theorem At.callp {ops : Array Oper} {rest : List Oper} {d : Nat} {f : FuncId} {xs : List Operand} {ts : Array TypeId} {ty : TypeId} {pos : String} {aft : Array Edge} {vs : List Value} {V : Value}
    (hg : goFn P f = true) (hx : evs F xs = some vs) (hd : Nat.blt d n = true) (hc : Pu P f vs.toArray V)
    (h : At n w0 ((d, V) :: F) m Rs (wpList P ops Q rest)) :
    At n w0 F m Rs (wpList P ops Q (⟨some d, .call ⟨.value (.func f), xs.toArray, ts⟩, ty, pos, aft, none⟩ :: rest)) :=
  At.call (A := []) (Rest := Rs) hg hx (by simpa using hd) (hc m) (Ent.refl _) fun v m' B _ ⟨hv, hm', hB⟩ => by subst hv hm' hB; exact h

/-- guards, case by case -/
theorem At.guard_nt {ops : Array Oper} {rest : List Oper} {d : Nat} {op : Op} {ty : TypeId} {pos : String} {aft : Array Edge} {j : Nat} {t : Nat}
    (hj : (ops[j]?).bind (·.dst) = some t) (ht : look t F = some (.bool false)) (hd : Nat.blt d n = true) (h : At n w0 ((d, undef) :: F) m Rs (wpList P ops Q rest)) :
    At n w0 F m Rs (wpList P ops Q (⟨some d, op, ty, pos, aft, some (j, true)⟩ :: rest)) := At.guard_n hj ht (by simp) hd h
theorem At.guard_nf {ops : Array Oper} {rest : List Oper} {d : Nat} {op : Op} {ty : TypeId} {pos : String} {aft : Array Edge} {j : Nat} {t : Nat}
    (hj : (ops[j]?).bind (·.dst) = some t) (ht : look t F = some (.bool true)) (hd : Nat.blt d n = true) (h : At n w0 ((d, undef) :: F) m Rs (wpList P ops Q rest)) :
    At n w0 F m Rs (wpList P ops Q (⟨some d, op, ty, pos, aft, some (j, false)⟩ :: rest)) := At.guard_n hj ht (by simp) hd h
theorem At.guard_nu {ops : Array Oper} {rest : List Oper} {d : Nat} {op : Op} {ty : TypeId} {pos : String} {aft : Array Edge} {j : Nat} {want : Bool} {t : Nat}
    (hj : (ops[j]?).bind (·.dst) = some t) (ht : look t F = some undef) (hd : Nat.blt d n = true) (h : At n w0 ((d, undef) :: F) m Rs (wpList P ops Q rest)) :
    At n w0 F m Rs (wpList P ops Q (⟨some d, op, ty, pos, aft, some (j, want)⟩ :: rest)) := At.guard_n hj ht (by simp [undef]) hd h
theorem At.guard_s {ops : Array Oper} {rest : List Oper} {d : Option Nat} {op : Op} {ty : TypeId} {pos : String} {aft : Array Edge} {j : Nat} {want : Bool} {t : Nat} {b : Bool}
    (hj : (ops[j]?).bind (·.dst) = some t) (ht : look t F = some (.bool b))
    (h1 : b = true → At n w0 ((t, .bool true) :: F) m Rs (wpList P ops Q (⟨d, op, ty, pos, aft, some (j, want)⟩ :: rest)))
    (h2 : b = false → At n w0 ((t, .bool false) :: F) m Rs (wpList P ops Q (⟨d, op, ty, pos, aft, some (j, want)⟩ :: rest))) :
    At n w0 F m Rs (wpList P ops Q (⟨d, op, ty, pos, aft, some (j, want)⟩ :: rest)) := by
  have _ := hj
  exact At.bsplit ht h1 h2
end
end Go.J
