/- Part 6 of what the law's proof needs: rules of the walk, contracts of functions, plain laws. No condition. -/
import Derived.Test.YtijgnbedilipdaaTdEZ5
import Derived.RangeFuncRecord
import Derived.OrdersIn
import Derived.Laws.IdiomCopy
import Derived.Lib.Overlaps
import Derived.Test.YtijgnbedilipdaaRows
import Derived.Laws.AppendOwn
import Derived.Below
import Derived.Shelf.Strings.Repeat
import Derived.Test.YtijgnbedilipdaaProg
set_option linter.unusedSimpArgs false
set_option linter.unusedVariables false
set_option linter.unusedSectionVars false
set_option maxRecDepth 20000
namespace Go.J
open Go
/-- every function may be called; the frame is a round's, or an activation's -/
abbrev FW (ro : Option Nat) : Fence := { Fence.wide with round := ro }
def sh (D : List Deferred) (a : Act) : Act := { a with defers := a.defers ++ D }
theorem sh_put (D : List Deferred) (a : Act) (d : Option Tmp) (v : Value) : sh D (a.put d v) = (sh D a).put d v := by cases d <;> rfl
theorem sh_nil (a : Act) : sh [] a = a := by unfold sh; rw [List.append_nil]
def QS (D : List Deferred) (Q : Exit → Act → World → Prop) : Exit → Act → World → Prop := fun e a w => ∃ a0, a = sh D a0 ∧ Q e a0 w
def CW (ro : Option Nat) (D : List Deferred) (P : Program) (c : Code) (Q : Exit → Act → World → Prop) (a : Act) (w : World) : Prop := c.wpIn (FW ro) 0 P (QS D Q) (sh D a) w
def LW (ro : Option Nat) (D : List Deferred) (P : Program) (ops : Array Oper) (Q : Exit → Act → World → Prop) (l : List Oper) (a : Act) (w : World) : Prop := wpListIn (FW ro) 0 P ops (QS D Q) l (sh D a) w
def plainOp (o : Oper) : Bool := match o.op with | .defer _ => false | _ => true
/-- it lets no lack of room out -/
def NL (Q : Exit → Act → World → Prop) : Prop := ¬ LetsOut Q
section
variable {P : Program} {ro : Option Nat} {D : List Deferred} {Q Q' : Exit → Act → World → Prop}
theorem NL.then {K : Act → World → Prop} (h : NL Q) : NL (Exit.then K Q) := h
theorem NL.inb {id : Nat} (h : NL Q) : NL (Exit.inBlock id Q) := h
theorem NL.post {fn : Func} {m0 : Mem} {Rest : List Res} {w0 : World} {R : Value → Mem → List Res → Prop} : NL (bodyPost P fn (fun e w' => ∃ v m' B, e = .returned v ∧ m0.le m' ∧ R v m' B ∧ HW w0 m' (B ++ Rest) w')) := fun ⟨_, _, _, _, _, h, _⟩ => by cases h
theorem NL.postM {F : Fence} {n : Nat} {fn : Func} {m0 : Mem} {Rest : List Res} {w0 : World} {R : Value → Mem → List Res → Prop} {D : List Deferred} : NL (fun e a w => bodyPostM F n P fn (fun e w' => ∃ v m' B, e = .returned v ∧ m0.le m' ∧ R v m' B ∧ HW w0 m' (B ++ Rest) w') e (sh D a) w) := fun ⟨_, _, _, _, _, h, _⟩ => by cases h
theorem NL.round {l : Nat} {R : Ending → World → Prop} : NL (roundPost P l R) := fun ⟨_, _, h⟩ => h
theorem NL.no : NL (fun _ _ _ => False) := fun ⟨_, _, h⟩ => h
theorem znl {Q : Exit → Act → World → Prop} (h : NL Q := by (with_reducible (repeat (first | exact NL.post | exact NL.postM | exact NL.round | exact NL.no | apply NL.then | apply NL.inb)))) : NL Q := h
theorem calls_fw {n : Nat} {f : FuncId} {args : Array Value} {w : World} {R : Ending → World → Prop} (h : Calls P f args w R) : CallsIn (FW ro) n P f args w R := (callsIn_wide.2 h : CallsIn Fence.wide n P f args w R)
theorem calls_of_fw {n : Nat} {f : FuncId} {args : Array Value} {w : World} {R : Ending → World → Prop} (h : CallsIn (FW ro) n P f args w R) : Calls P f args w R := callsIn_wide.1 (h : CallsIn Fence.wide n P f args w R)
theorem rows_fw {n : Nat} {row : String} {args : Array Value} {w : World} {R : Value → World → Prop} (h : Rows P row args w R) : RowsIn (FW ro) n P row args w R := fun c cs _ =>
  let ⟨v, w', r, s⟩ := h c cs; ⟨v, w', r, (stepsIn_wide.2 s : StepsIn (Machine.fenced P Fence.wide) P _ _)⟩
theorem op_shift {o : Oper} {a : Act} {w : World} {K K' : Act → World → Prop} (ho : plainOp o = true) (hK : ∀ a w, K a w → K' (sh D a) w) (hp : ∀ ch a w, Q (.panic ch) a w → Q' (.panic ch) (sh D a) w) (hl : NL Q) (h : o.wp P a w K Q) :
    o.wpIn (FW ro) 0 P (sh D a) w K' Q' := by
  have hK' : ∀ a d v w, K (a.put d v) w → K' ((sh D a).put d v) w := fun a d v w h => by rw [← sh_put]; exact hK _ _ h
  refine ⟨fun _ _ => trivial, ?_⟩
  rw [Oper.semAt_eq _ _ _ (fun c hc => by simp [plainOp, hc] at ho)]
  unfold Oper.wp at h
  have e : (sh D a).eval = a.eval := rfl
  rw [e]
  generalize (execOp a.eval o).run P w = r at h ⊢
  have hd : (FW ro).depth.isSome = true → 1 ≤ 0 := fun h => by cases h
  cases r with
  | ok x w' =>
    cases x <;> simp only [Oper.upon, Oper.uponIn] at h ⊢ <;>
      first
        | exact hK' _ _ _ _ h
        | exact h.elim
        | exact hK' { a with defers := _ :: a.defers } _ _ _ h
        | exact ⟨hd, calls_fw (h.mono fun e w'' he => by cases e <;> first | exact hK' _ _ _ _ he | exact hp _ _ _ he | exact (hl he).elim)⟩
        | exact ⟨hd, rows_fw (h.mono fun _ _ he => hK' _ _ _ _ he)⟩
  | halt x w' => cases x <;> simp only [Oper.upon, Oper.uponIn] at h ⊢ <;> first | exact hp _ _ _ h | exact h.elim
/-- what is walked in an activation that has deferred nothing, walked in any other frame -/
theorem list_shift {ops : Array Oper} {l2 : List Oper} {Q1 : Exit → Act → World → Prop} (hl : NL Q1) (hn : ∀ a w, Q1 .normal a w → LW ro D P ops Q l2 a w) (hp : ∀ ch a w, Q1 (.panic ch) a w → Q (.panic ch) a w) :
    ∀ (l1 : List Oper) (a : Act) (w : World), l1.all plainOp = true → wpList P ops Q1 l1 a w → LW ro D P ops Q (l1 ++ l2) a w
  | [], a, w, _, h => hn a w h
  | o :: l1, a, w, ha, h => by
    simp only [List.all_cons, Bool.and_eq_true] at ha
    have hy : yielded ops (sh D a).tmps = yielded ops a.tmps := rfl
    unfold LW
    rw [List.cons_append]
    unfold wpListIn
    unfold wpList at h
    rw [hy]
    by_cases hw : Region.wanted o (yielded ops a.tmps) = true
    · rw [if_pos hw] at h ⊢
      exact op_shift (Q' := QS D Q) ha.1 (fun a w h => list_shift hl hn hp l1 a w ha.2 h) (fun ch a w h => ⟨a, rfl, hp ch a w h⟩) hl (h.resolve_right fun h => hl h.2)
    · rw [if_neg hw] at h ⊢
      refine ⟨fun _ _ => trivial, ?_⟩
      rw [← sh_put]
      exact list_shift hl hn hp l1 _ w ha.2 h
theorem any_shift {ops : Array Oper} {md : Region.Mode} {Q1 : Exit → Act → World → Prop} (hl : NL Q1) (hn : ∀ a w, Q1 .normal a w → Q .normal a w) (hp : ∀ ch a w, Q1 (.panic ch) a w → Q (.panic ch) a w) (ho : ops.toList.all plainOp = true) :
    ∀ (f : Nat) (s : Array Bool) (a : Act) (w : World), wpAny P md ops Q1 f s a w → wpAnyIn (FW ro) 0 P md ops (QS D Q) f s (sh D a) w
  | 0, _, a, w, h => ⟨h.1, a, rfl, hn a w h.2⟩
  | f + 1, s, a, w, h => ⟨fun e => ⟨a, rfl, hn a w (h.1 e)⟩, fun i hi => by
    have h2 := h.2 i hi
    unfold wpOp at h2
    unfold wpOpIn
    cases hoi : ops[i]? with
    | none => simp only [hoi] at h2 ⊢; exact any_shift hl hn hp ho f _ a w h2
    | some o =>
      simp only [hoi] at h2 ⊢
      have hy : yielded ops (sh D a).tmps = yielded ops a.tmps := rfl
      have hpo : plainOp o = true := List.all_eq_true.1 ho o (by
        have := Array.getElem?_eq_some_iff.1 hoi
        obtain ⟨hlt, e⟩ := this
        rw [← e]; simp)
      rw [hy]
      by_cases hw : Region.wanted o (yielded ops a.tmps) = true
      · rw [if_pos hw] at h2 ⊢
        exact op_shift (Q' := QS D Q) hpo (fun a w h => any_shift hl hn hp ho f _ a w h) (fun ch a w h => ⟨a, rfl, hp ch a w h⟩) hl (h2.resolve_right fun h => hl h.2)
      · rw [if_neg hw] at h2 ⊢
        refine ⟨fun _ _ => trivial, ?_⟩
        rw [← sh_put]
        exact any_shift hl hn hp ho f _ _ w h2⟩
end
section
variable {P : Program} {n : Nat} {w0 : World} {F : Fr} {m : Mem} {Rs : List Res} {Q : Exit → Act → World → Prop} {K : Act → World → Prop} {C : World → Prop} {ro : Option Nat} {D : List Deferred}
/-! ### code -/
theorem At.c_seq {x y : Code} (h : At n w0 F m Rs (CW ro D P x (Exit.then (CW ro D P y Q) Q))) : At n w0 F m Rs (CW ro D P (.seq x y) Q) := fun a w ha hw =>
  wpIn_seq (wpIn_mono (h a w ha hw) fun e a w ⟨a0, e0, q⟩ => by subst e0; cases e <;> first | exact q | exact ⟨a0, rfl, q⟩)
theorem At.c_skip (h : At n w0 F m Rs (Q .normal)) : At n w0 F m Rs (CW ro D P .skip Q) := fun a w ha hw => wpIn_skip ⟨a, rfl, h a w ha hw⟩
theorem At.c_ret (h : At n w0 F m Rs (Q .ret)) : At n w0 F m Rs (CW ro D P .ret Q) := fun a w ha hw => wpIn_ret ⟨a, rfl, h a w ha hw⟩
theorem At.c_exit {id : Nat} (h : At n w0 F m Rs (Q (.exit id))) : At n w0 F m Rs (CW ro D P (.exit id) Q) := fun a w ha hw => wpIn_exit ⟨a, rfl, h a w ha hw⟩
theorem At.c_block {id : Nat} {c : Code} (h : At n w0 F m Rs (CW ro D P c (Exit.inBlock id Q))) : At n w0 F m Rs (CW ro D P (.block id c) Q) := fun a w ha hw =>
  wpIn_block (wpIn_mono (h a w ha hw) fun e a w ⟨a0, e0, q⟩ => by
    subst e0
    cases e <;> first | exact ⟨a0, rfl, q⟩ | skip
    simp only [Exit.inBlock] at q ⊢
    split at q <;> rename_i h0
    · rw [if_pos h0]; exact ⟨a0, rfl, q⟩
    · rw [if_neg h0]; exact ⟨a0, rfl, q⟩)
theorem At.c_cond {c : Operand} {x y : Code} {b : Bool} (hc : ev F c = some (.bool b)) (ht : b = true → At n w0 F m Rs (CW ro D P x Q)) (hf : b = false → At n w0 F m Rs (CW ro D P y Q)) :
    At n w0 F m Rs (CW ro D P (.cond c x y) Q) := fun a w ha hw => wpIn_cond_split (show (sh D a).eval c = _ from ha.ev hc) (fun e => ht e a w ha hw) (fun e => hf e a w ha hw)
theorem At.c_loop {c : Code} {σ : Type} (Fx : σ → Fr) (mx : σ → Mem) (Rx : σ → List Res) (I : σ → Prop) (μ : σ → Nat) (s0 : σ) (h0 : I s0) (hF : Subs (Fx s0) F) (hm : (mx s0).le m) (hR : Ent Rs (Rx s0))
    (round : ∀ s, I s → At n w0 (Fx s) (mx s) (Rx s) (CW ro D P c (Exit.then (fun a w => ∃ s', (I s' ∧ μ s' < μ s) ∧ HF n (Fx s') a ∧ HW w0 (mx s') (Rx s') w) Q))) :
    At n w0 F m Rs (CW ro D P (.loop c) Q) := by
  intro a w ha hw
  intro b k cs hro hb hr
  have key : ∀ N s a w, μ s = N → I s → HF n (Fx s) a → HW w0 (mx s) (Rx s) w →
      ∃ e a' w', QS D Q e a' w' ∧ ArrivesIn (Machine.fenced P (FW ro)) P (lone (b.atR (sh D a) (.code c :: .inLoop c :: k)) cs w) b k cs e a' w' := by
    intro N
    induction N using Nat.strongRecOn with
    | _ N ih =>
      intro s a w hN hI ha hw
      obtain ⟨e, a1, w1, ⟨a0, e0, hq⟩, harr⟩ := round s hI a w ha hw b (.inLoop c :: k) cs hro hb hr
      subst e0
      cases e with
      | normal =>
        obtain ⟨s', ⟨hI', hlt⟩, h1, h2⟩ := hq
        obtain ⟨e, a2, w2, hq2, harr2⟩ := ih (μ s') (hN ▸ hlt) s' a0 w1 rfl hI' h1 h2
        exact ⟨e, a2, w2, hq2, .of_steps (StepsIn.trans harr (.one (fenced_calm hb hr rfl) stepR_inLoop)) harr2⟩
      | exit id => exact ⟨_, _, w1, ⟨a0, rfl, hq⟩, .pass (x := .inLoop c) rfl (fun _ _ => .inl (by simp)) harr⟩
      | goto l => exact ⟨_, _, w1, ⟨a0, rfl, hq⟩, .pass (x := .inLoop c) rfl (fun _ _ => .inl (by simp)) harr⟩
      | ret => exact ⟨_, _, w1, ⟨a0, rfl, hq⟩, .pass (x := .inLoop c) rfl (fun _ _ => .inl (by simp)) harr⟩
      | panic ch => exact ⟨_, _, w1, ⟨a0, rfl, hq⟩, .pass (x := .inLoop c) rfl (fun _ _ => .inl (by simp)) harr⟩
      | outgrown => exact ⟨_, _, w1, ⟨a0, rfl, hq⟩, .pass (x := .inLoop c) rfl (fun _ _ => .inl (by simp)) harr⟩
  obtain ⟨e, a', w', hq, harr⟩ := key _ s0 a w rfl h0 (ha.weaken hF) ((hw.ent hR).weak hm)
  exact ⟨e, a', w', hq, .of_steps (.one (fenced_calm hb hr rfl) stepR_loop) harr⟩
theorem At.c_loopk {c : Code} {σ : Type} {F0 : Fr} (L : List Nat) (upd : σ → Fr → Fr) (mx : σ → Mem) (Rx : σ → List Res) (I : σ → Prop) (μ : σ → Nat) (s0 : σ) (e0 : keepL L F = some F0) (h0 : I s0) (hF : Subs (upd s0 F0) F) (hm : (mx s0).le m) (hR : Ent Rs (Rx s0))
    (round : ∀ s, I s → At n w0 (upd s F0) (mx s) (Rx s) (CW ro D P c (Exit.then (fun a w => ∃ s', (I s' ∧ μ s' < μ s) ∧ HF n (upd s' F0) a ∧ HW w0 (mx s') (Rx s') w) Q))) :
    At n w0 F m Rs (CW ro D P (.loop c) Q) := by
  have _ := e0
  exact At.c_loop (fun s => upd s F0) mx Rx I μ s0 h0 hF hm hR round
/-! ### regions -/
theorem At.c_region {id : Nat} {l0 l : List Oper} (hl : NL Q) (e : flat l0 = some l) (ho : l.all plainOp = true) (h : At n w0 F m Rs (wpList P l.toArray Q l)) : At n w0 F m Rs (CW ro D P (.region id l0.toArray false) Q) := fun a w ha hw => by
  have := flat_eq l0 l e; subst this
  refine wpIn_region_lit ?_
  have := list_shift (ro := ro) (D := D) (l2 := []) hl (fun a w h => ⟨a, rfl, h⟩) (fun _ _ _ h => h) _ a w ho (h a w ha hw)
  rwa [List.append_nil] at this
/-- the same, walked as it is up to one of its operations -/
theorem At.c_regionY {id : Nat} {l0 l l1 l2 : List Oper} (k : Nat) (hl : NL Q) (e : flat l0 = some l) (e1 : flat (l.take k) = some l1) (e2 : flat (l.drop k) = some l2) (ho : l1.all plainOp = true) (h : At n w0 F m Rs (wpList P l.toArray (Exit.then (LW ro D P l.toArray Q l2) Q) l1)) :
    At n w0 F m Rs (CW ro D P (.region id l0.toArray false) Q) := fun a w ha hw => by
  have := flat_eq l0 l e; subst this
  have := flat_eq _ _ e1
  have := flat_eq _ _ e2
  subst_vars
  refine wpIn_region_lit ?_
  have := list_shift (ro := ro) (D := D) (l2 := l.drop k) (Q := Q) hl.then (fun a w h => h) (fun _ _ _ h => h) _ a w ho (h a w ha hw)
  rwa [List.take_append_drop] at this
theorem At.c_on {ops : Array Oper} {l : List Oper} (hl : NL Q) (ho : l.all plainOp = true) (h : At n w0 F m Rs (wpList P ops Q l)) : At n w0 F m Rs (LW ro D P ops Q l) := fun a w ha hw => by
  have := list_shift (ro := ro) (D := D) (l2 := []) hl (fun a w h => ⟨a, rfl, h⟩) (fun _ _ _ h => h) _ a w ho (h a w ha hw)
  rwa [List.append_nil] at this
theorem At.c_mixed {id : Nat} {l0 l : List Oper} (X : List Res) (N : Nat) (p : Plan) {Base : List Res} (hX : Take X Rs Base) (e : flat l0 = some l) (ho : l.all plainOp = true) (hN : Nat.beq l.length N = true) (hm : P.follows .mixedOrders = true) (hB : mixB l p = true)
    (h : AtM P n w0 F m Base X (Q .normal) l N (Array.replicate l.length false) p) : At n w0 F m Rs (CW ro D P (.region id l0.toArray true) Q) := fun a w ha hw => by
  have := flat_eq l0 l e; subst this
  simp only [mixB, Bool.and_eq_true] at hB
  have hN' := Nat.eq_of_beq_eq_true hN
  subst hN'
  have hG := h hB.1 hB.2 (Closed.empty _ _) a ha
  refine wpIn_region_any hm ?_
  exact any_shift (Q := Q) (Q1 := Q0 (Q .normal)) (fun ⟨_, _, h⟩ => h) (fun _ _ h => h) (fun _ _ _ h => h.elim) ho _ _ a _ (GM.any (P := P) l.length m Base X _ a { w with drawn := w.drawn + 1 } ((hw.ent hX.eqv.ent).drawn _) hG)
/-! ### one object of the heap -/
theorem Ent.swap3 (X A R : List Res) : Ent (X ++ (A ++ R)) (A ++ (X ++ R)) := fun w s h => by
  obtain ⟨s1, s2, h1, h2, hd, he⟩ := Sat_append.1 h
  obtain ⟨s3, s4, h3, h4, hd', he'⟩ := Sat_append.1 h2
  refine ⟨s, Sat_append.2 ⟨s3, fun k => s1 k ∨ s4 k, h3, Sat_append.2 ⟨s1, s4, h1, h4, fun k ⟨x, y⟩ => hd k ⟨x, (he' k).2 (.inr y)⟩, fun _ => Iff.rfl⟩, ?_, fun k => ?_⟩, fun _ x => x⟩
  · rintro k ⟨x, y | y⟩
    · exact hd k ⟨y, (he' k).2 (.inl x)⟩
    · exact hd' k ⟨x, y⟩
  · rw [he, he']
    exact ⟨fun h => h.elim (.inr ∘ .inl) (fun h => h.elim .inl (.inr ∘ .inr)), fun h => h.elim (.inr ∘ .inl) (fun h => h.elim .inl (.inr ∘ .inr))⟩
def Res.obj (b : Nat) (o : Obj) : Res where
  p w s := w.heap[b]? = some o ∧ ∀ k, s k ↔ k = b
  loc := fun ⟨h, hs⟩ he => ⟨by rw [he _ ((hs _).2 rfl)]; exact h, hs⟩
  dom := fun ⟨h, hs⟩ hk => by
    have := (hs _).1 hk; subst this
    exact (Array.getElem?_eq_some_iff.1 h).1
theorem HW.obj {w : World} {b : Nat} {o : Obj} (h : HW w0 m (.obj b o :: Rs) w) : w.heap[b]? = some o := by
  obtain ⟨s, ⟨s1, s2, ⟨h1, _⟩, _⟩, _⟩ := h.res
  exact h1
theorem HW.newobj {w : World} (h : HW w0 m Rs w) (o : Obj) : HW w0 m (.obj w.heap.size o :: Rs) (w.alloc o) :=
  h.add rfl rfl rfl (by rw [World.size_alloc]; omega) (fun k hk => by show (w.heap.push o)[k]? = _; simp [Array.getElem?_push, Nat.ne_of_lt hk]) ⟨fun k => k = w.heap.size, ⟨World.alloc_heap_new w o, fun _ => Iff.rfl⟩, fun k hk => by simp_all⟩ (Nat.le_refl _)
theorem HW.putObj {w : World} {b : Nat} {o : Obj} (h : HW w0 m (.obj b o :: Rs) w) (o' : Obj) : HW w0 m (.obj b o' :: Rs) (w.putObj b o') := by
  obtain ⟨s, ⟨s1, s2, ⟨h1, hs1⟩, h2, hd, he⟩, hm⟩ := h.res
  have hlt : b < w.heap.size := (Array.getElem?_eq_some_iff.1 h1).1
  have hmb : m b = none := hm b ((he b).2 (.inl ((hs1 b).2 rfl)))
  refine ⟨h.os, h.tape, h.output, by rw [World.putObj_size]; exact h.size, h.dr, fun k o hk => ?_, s, ⟨s1, s2, ⟨World.putObj_heap_same hlt, hs1⟩, Sat.loc h2 fun k hk => World.putObj_heap_other fun e => hd k ⟨(hs1 k).2 e, hk⟩, hd, he⟩, hm⟩
  rw [World.putObj_heap_other (fun e => by subst e; rw [hmb] at hk; cases hk)]
  exact h.mem k o hk
/-! ### the loop -/
abbrev lrec (B : Nat) (f : FuncId) (tm : Array Value) (ps : Array Tmp) (asg body : Code) (st : LoopState) (pe : Option Code) : Obj := .loop { state := st, pending := pe, fn := f, tmps := tm, params := ps, assign := asg, body := body, defers := B }
abbrev mk (B : Nat) : Deferred := { target := .collected B, args := #[] }
theorem At.tail {c : Code} (h : At n w0 F m Rs (CW none D P c (fun e a w => Q e (sh D a) w))) : At n w0 F m Rs (fun a w => c.wp P Q (sh D a) w) := fun a w ha hw =>
  wpIn_wide.1 (wpIn_mono (h a w ha hw : c.wpIn Fence.wide 0 P _ _ w) fun e a w ⟨a0, e0, q⟩ => by subst e0; exact q)
/-- a loop over a function that leaves by no jump -/
theorem At.rangeFunc {g : Operand} {ps : Array Tmp} {asg body : Code} {gf : FuncId} {caps : List Value} {A Rest : List Res} {S : Mem → List Res → Prop}
    (hg : ev F g = some (.func (.func gf) #[] caps.toArray)) (hgo : goFn P gf = true) (hA : Take A Rs Rest)
    (hc : ∀ l B f tm, HF n F { tmps := tm, defers := [] } → Ct P gf (.func (.yield l) #[] #[] :: caps).toArray m (.obj l (lrec B f tm ps asg body .ready none) :: .obj B (.deferred (some [])) :: A)
      (fun _ m' X => ∃ A', X = .obj l (lrec B f tm ps asg body .ready none) :: .obj B (.deferred (some [])) :: A' ∧ S m' A'))
    (hn : ∀ B m' A', m.le m' → S m' A' → At n w0 F m' (A' ++ (.obj B (.deferred (some [])) :: Rest)) (fun a w => Q .normal (sh [mk B] a) w)) :
    At n w0 F m Rs ((Code.rangeFunc g ps asg body).wp P Q) := by
  intro a w ha hw
  refine wpIn_wide.1 (wpIn_rangeFunc (n := 0) ?_)
  intro fn _
  have h1 := (hw.ent hA.eqv.ent).newobj (.deferred (some []))
  have h2 := h1.newobj (lrec w.heap.size fn a.tmps ps asg body .ready none)
  rw [World.size_alloc] at h2
  have hev := ha.ev hg
  have hrun := run_enterLoop_outer (P := P) (w := w) fn a.tmps ps asg body
  generalize (w.alloc (.deferred (some []))).alloc (lrec w.heap.size fn a.tmps ps asg body .ready none) = W at h2 hrun
  refine ⟨w.heap.size + 1, [mk w.heap.size], W, { target := .fn (.func gf) caps.toArray, args := #[.func (.yield (w.heap.size + 1)) #[] #[]] }, W, gf, (.func (.yield (w.heap.size + 1)) #[] #[] :: caps).toArray, W, hrun, ?_, fun _ _ => trivial, ?_, (fun h => by cases h), ?_⟩
  · simp only [resolve, hev]
    simp [go_sem]
  · have e : (#[.func (.yield (w.heap.size + 1)) #[] #[]] ++ caps.toArray : Array Value) = (.func (.yield (w.heap.size + 1)) #[] #[] :: caps).toArray := by simp
    simp only [invoke]
    rw [e, run_callFunc hgo]
  · have hf : HF n F { tmps := a.tmps, defers := [] } := ⟨rfl, ha.siz, ha.val⟩
    refine calls_fw (ro := none) ((hc (w.heap.size + 1) w.heap.size fn a.tmps hf w0 Rest _ h2).mono ?_)
    rintro e w' ⟨v, m', X, rfl, hm, ⟨A', rfl, hS⟩, hw'⟩
    refine ⟨none, _, run_endLoop hw'.obj (by simp), ?_⟩
    have h3 := (hw'.putObj (.loop { state := .exhausted, pending := none, fn := fn, tmps := a.tmps, params := ps, assign := asg, body := body, defers := w.heap.size })).ent (Ent.drop _ _)
    replace h3 := h3.ent (Ent.swap3 [_] A' Rest)
    have := hn w.heap.size m' A' hm hS a _ ha h3
    unfold sh at this
    dsimp only at this ⊢
    rw [ha.dfr] at this ⊢
    exact this
/-! ### what calls yield -/
/-- a call of yield's contract -/
def YC (P : Program) (l : Nat) (vs : List Value) (m : Mem) (A : List Res) (R : Value → Mem → List Res → Prop) : Prop :=
  ∀ w0 Rest w, HW w0 m (A ++ Rest) w → ∃ f tm asg body, (Instr.yield l vs.toArray).run P w = .ok (.round l f tm asg body) w ∧
    RoundIn (FW none) 0 P l f tm asg body w fun e w' => ∃ v m' B, e = .returned v ∧ m.le m' ∧ R v m' B ∧ HW w0 m' (B ++ Rest) w'
theorem At.c_yield {ops : Array Oper} {rest : List Oper} {d l : Nat} {x : Operand} {xs : List Operand} {ts : Array TypeId} {ty : TypeId} {pos : String} {aft : Array Edge} {vs : List Value} {A Rest : List Res} {R : Value → Mem → List Res → Prop}
    (hf : ev F x = some (.func (.yield l) #[] #[])) (hx : evs F xs = some vs) (hd : Nat.blt d n = true) (hc : YC P l vs m A R) (hA : Take A Rs Rest)
    (h : ∀ v m' B, m.le m' → R v m' B → At n w0 ((d, v) :: F) m' (B ++ Rest) (LW none D P ops Q rest)) :
    At n w0 F m Rs (LW none D P ops Q (⟨some d, .call ⟨.value x, xs.toArray, ts⟩, ty, pos, aft, none⟩ :: rest)) := fun a w ha hw => by
  obtain ⟨f, tm, asg, body, hy, hR⟩ := hc w0 Rest w (hw.ent hA.eqv.ent)
  refine wpListIn_plain rfl fun K hK => ⟨fun _ _ => trivial, ?_⟩
  rw [Oper.semAt_eq _ _ _ (fun c hc => by cases hc)]
  have hev : (sh D a).eval x = _ := ha.ev hf
  have hxs : xs.toArray.map (sh D a).eval = vs.toArray := by
    have : xs.toArray.map a.eval = vs.toArray := by simp [evs_map ha xs vs hx]
    exact this
  have : (execOp (sh D a).eval ⟨some d, .call ⟨.value x, xs.toArray, ts⟩, ty, pos, aft, none⟩).run P w = .ok (.round l f tm asg body) w := by
    have e0 : (Deferred.ofValue (.func (.yield l) #[] #[]) vs.toArray).run P w = .ok { target := .fn (.yield l) #[], args := vs.toArray } w := by
      simp [Deferred.ofValue, Sem.run_pure]
    simp only [execOp, resolve, hev, hxs, Sem.run_bind, e0, Result.andThen, invoke]
    simpa using hy
  rw [this]
  refine ⟨(fun h => by cases h), hR.mono ?_⟩
  rintro e w' ⟨v, m', B, rfl, hm, hRv, hw'⟩
  refine hK _ _ ?_
  rw [← sh_put]
  exact h v m' B hm hRv _ _ (ha.put hd) hw'
/-- a round begins -/
def BK (P : Program) (l : Nat) (body : Code) (R : Ending → World → Prop) (a : Act) (w : World) : Prop := ∃ w2, (Instr.beginRound l).run P w = .ok () w2 ∧ CW (some l) [] P body (roundPost P l R) a w2
theorem At.begin {l B : Nat} {f : FuncId} {tm : Array Value} {ps : Array Tmp} {asg body c : Code} {R : Ending → World → Prop} {Rs' : List Res} (hp : Pick Rs (.obj l (lrec B f tm ps asg body .ready none)) Rs')
    (h : At n w0 F m (.obj l (lrec B f tm ps asg body .busy none) :: Rs') (CW (some l) [] P c (roundPost P l R))) : At n w0 F m Rs (BK P l c R) := fun a w ha hw => by
  have hw1 := hw.ent (Ent.of_pick hp)
  exact ⟨_, run_beginRound hw1.obj rfl, h a _ ha (hw1.putObj _)⟩
theorem At.endr {l B : Nat} {f : FuncId} {tm : Array Value} {ps : Array Tmp} {asg body : Code} {R : Value → Mem → List Res → Prop} {m0 : Mem} {Rest Rs' X : List Res} (hp : Pick Rs (.obj l (lrec B f tm ps asg body .busy none)) Rs') (hm : m0.le m)
    (hB : Ent (.obj l (lrec B f tm ps asg body .ready none) :: Rs') (X ++ Rest)) (hR : R (.bool true) m X) :
    At n w0 F m Rs (roundPost P l (fun e w' => ∃ v m' X, e = .returned v ∧ m0.le m' ∧ R v m' X ∧ HW w0 m' (X ++ Rest) w') .normal) := fun a w ha hw => by
  have hw1 := hw.ent (Ent.of_pick hp)
  exact ⟨_, _, run_endRound none hw1.obj, _, m, X, rfl, hm, hR, (hw1.putObj _).ent hB⟩
/-- one round of a loop with one variable -/
theorem YC.intro {l B t : Nat} {f : FuncId} {tm : Array Value} {asg body : Code} {v : Value} {A : List Res} {R : Value → Mem → List Res → Prop} (hf : HF n F { tmps := tm, defers := [] }) (ht : Nat.blt t n = true)
    (h : ∀ w0 Rest, At n w0 ((t, v) :: F) m (.obj l (lrec B f tm #[t] asg body .ready none) :: (A ++ Rest)) (CW (some l) [] P asg (Exit.then (BK P l body (fun e w' => ∃ v m' B, e = .returned v ∧ m.le m' ∧ R v m' B ∧ HW w0 m' (B ++ Rest) w')) (fun _ _ _ => False)))) :
    YC P l [v] m (.obj l (lrec B f tm #[t] asg body .ready none) :: A) R := fun w0 Rest w hw => by
  refine ⟨f, tm.setIfInBounds t v, asg, body, (run_yield hw.obj rfl).trans (by simp), roundIn_of_wpIn trivial ?_⟩
  have h1 := h w0 Rest { tmps := tm.setIfInBounds t v, defers := [] } w (hf.put (v := v) ht) hw
  have h1' := wpIn_mono h1 (Q' := Exit.then (fun a₁ w₁ => ∃ w₂, (Instr.beginRound l).run P w₁ = .ok () w₂ ∧ body.wpIn ((FW none).inRound l) 0 P (roundPost P l (fun e w' => ∃ v m' B, e = .returned v ∧ m.le m' ∧ R v m' B ∧ HW w0 m' (B ++ Rest) w')) a₁ w₂) (fun _ _ _ => False)) fun e a w ⟨a0, e0, q⟩ => by
    subst e0
    cases e <;> first | exact q | skip
    obtain ⟨w2, hb, hq⟩ := q
    refine ⟨w2, hb, ?_⟩
    refine wpIn_mono hq fun e a w ⟨a0, e0, q⟩ => ?_
    subst e0
    rw [sh_nil]; exact q
  rw [sh_nil] at h1'
  exact h1'
/-! ### the function -/
theorem Ct.frm {f : FuncId} {args : Array Value} {A : List Res} (X : List Res) {R : Value → Mem → List Res → Prop} (h : Ct P f args m A R) : Ct P f args m (X ++ A) (fun v m' Y => ∃ B, Y = X ++ B ∧ R v m' B) := fun w0 Rest w hw =>
  (h w0 (X ++ Rest) w (hw.ent (by rw [List.append_assoc]; exact Ent.swap3 X A Rest))).mono fun _ _ ⟨v, m', B, he, hm, hR, hw'⟩ => ⟨v, m', X ++ B, he, hm, ⟨B, rfl, hR⟩, hw'.ent (by rw [List.append_assoc]; exact Ent.swap3 B X Rest)⟩
theorem Ct.enterVC {f : FuncId} {fn : Func} {c : Code} {vs : List Value} {A : List Res} {R : Value → Mem → List Res → Prop} {N : Nat} {F0 : Fr} (hF : enumF 0 vs = some F0)
    (hf : P.funcs[f]? = some fn) (hb : fn.body = some c) (hn : fn.ntmps = N) (hargs : Nat.ble vs.length N = true)
    (h : ∀ w0 Rest, At N w0 F0 m (A ++ Rest) (CW none [] P c (bodyPost P fn (fun e w' => ∃ v m' B, e = .returned v ∧ m.le m' ∧ R v m' B ∧ HW w0 m' (B ++ Rest) w')))) : Ct P f vs.toArray m A R := by
  refine Ct.enterV hF hf hb hn hargs fun w0 Rest a w ha hw => ?_
  have := h w0 Rest a w ha hw
  unfold CW at this
  rw [sh_nil] at this
  refine wpIn_wide.1 (wpIn_mono (this : c.wpIn Fence.wide 0 P _ a w) ?_)
  rintro e a w ⟨a0, rfl, q⟩
  rw [sh_nil]; exact q
theorem Ct.enterVM {f : FuncId} {fn : Func} {c : Code} {vs : List Value} {A : List Res} {R : Value → Mem → List Res → Prop} {N : Nat} {F0 : Fr} (hF : enumF 0 vs = some F0)
    (hf : P.funcs[f]? = some fn) (hb : fn.body = some c) (hn : fn.ntmps = N) (hargs : Nat.ble vs.length N = true)
    (h : ∀ w0 Rest, At N w0 F0 m (A ++ Rest) (c.wp P (bodyPostM Fence.wide 0 P fn (fun e w' => ∃ v m' B, e = .returned v ∧ m.le m' ∧ R v m' B ∧ HW w0 m' (B ++ Rest) w')))) : Ct P f vs.toArray m A R := by
  intro w0 Rest w hw
  refine callsIn_wide.1 (callsIn_of_wp_marks (n := 0) hf hb trivial (wpIn_wide.2 (h w0 Rest _ w ⟨rfl, ?_, ?_⟩ hw)))
  · have := Nat.le_of_ble_eq_true hargs
    simp [hn]; omega
  · intro t v ht
    have := (enumF_look vs 0 F0 hF t v ht).2
    rw [Nat.sub_zero] at this
    obtain ⟨hlt, e⟩ := List.getElem?_eq_some_iff.1 this
    simp [Array.getD_eq_getD_getElem?, Array.getElem?_append, hlt, e]
theorem At.retM {fn : Func} {R : Value → Mem → List Res → Prop} {m0 : Mem} {Rest X : List Res} {rs : List ResultVar} {vs : List Value} {B : Nat} {Rs' : List Res} (hp : Pick Rs (.obj B (.deferred (some []))) Rs') (hr : fn.results = rs.toArray) (hrs : RVs P n F (HW w0 m Rs') rs vs) (hm : m0.le m) (hB : Keep X Rs' Rest) (hR : R (retv vs) m X) :
    At n w0 F m Rs (fun a w => bodyPostM Fence.wide 0 P fn (fun e w' => ∃ v m' B, e = .returned v ∧ m0.le m' ∧ R v m' B ∧ HW w0 m' (B ++ Rest) w') .ret (sh [mk B] a) w) := fun a w ha hw => by
  have hw1 := hw.ent (Ent.of_pick hp)
  have hw2 := (hw1.putObj (.deferred none)).ent (Ent.drop _ _)
  have hq := At.retV (P := P) (w0 := w0) (F := F) (m := m) (n := n) (R := R) hr hrs hm hB hR { tmps := a.tmps, defers := [] } _ ⟨rfl, ha.siz, ha.val⟩ hw2
  show LeavesInM _ _ P fn a.tmps _ (a.defers ++ [mk B]) .returning w
  rw [ha.dfr]
  exact ⟨by simp, .inl ⟨B, _, rfl, run_takeDeferred hw1.obj, hq.2⟩⟩
theorem At.retM0 {fn : Func} {R : Value → Mem → List Res → Prop} {m0 : Mem} {Rest X : List Res} {rs : List ResultVar} {vs : List Value} (hr : fn.results = rs.toArray) (hrs : RVs P n F (HW w0 m Rs) rs vs) (hm : m0.le m) (hB : Keep X Rs Rest) (hR : R (retv vs) m X) :
    At n w0 F m Rs (bodyPostM Fence.wide 0 P fn (fun e w' => ∃ v m' B, e = .returned v ∧ m0.le m' ∧ R v m' B ∧ HW w0 m' (B ++ Rest) w') .ret) := fun a w ha hw => by
  have hq := At.retV (P := P) (w0 := w0) (F := F) (m := m) (n := n) (R := R) hr hrs hm hB hR a w ha hw
  show LeavesInM _ _ P fn a.tmps _ a.defers .returning w
  rw [ha.dfr]
  exact hq.2
end
end Go.J
set_option maxHeartbeats 4000000
namespace Go.Proofs.Ytijgnbedilipdaa
open Go Go.J
attribute [local irreducible] At AtQ AtM AtM1 PR Ct Pu Rd Res.blk Res.own Res.ex Res.obj RVs RV CW LW YC BK bodyPostM
namespace Dk
abbrev tB : FuncId := 75
abbrev bS (b : Nat) (p : Option Addr) (n c : Nat) : Res := .blk b 42 [.slice p n c]
theorem bwd {m : Mem} (p : Option Addr) (n c : Nat) : Ct Try.prog 64 #[.slice p n c] m [] (fun v m' B => m = m' ∧ ∃ b, v = .func (.func tB) #[] #[ptr b] ∧ B = [bS b p n c]) := by
  refine Ct.enterV (by rfl) Try.func64 rfl Try.ntmps64 rfl (fun w0 Rest => ?_)
  (repeat' (first | refine zss ?_ | refine zs0 ?_ | ((with_reducible apply At.box (d := 1)); exact rfl; exact rfl; exact rfl; intro b1) | (refine zsp ?_ ?_ <;> (intro hc; (try simp only [zhcs, reduceCtorEq] at hc); (try (exfalso; first | contradiction | omega | exact absurd rfl hc | exact absurd (by decide) hc))))))
  all_goals ((with_reducible apply At.retB1 (B := [bS _ p n c])); exact rfl; exact rfl; exact zml; exact zkp; exact ⟨rfl, _, rfl, rfl⟩)
theorem bwd1 {m : Mem} (l b : Nat) (p : Option Addr) (c : Nat) : Ct Try.prog tB #[.func (.yield l) #[] #[], ptr b] m [bS b p 0 c] (fun v m' B => m = m' ∧ B = [bS b p 0 c]) := by
  refine Ct.enterV (by rfl) Try.func75 rfl Try.ntmps75 rfl (fun w0 Rest => ?_)
  (repeat' (first | refine zss ?_ | refine zs0 ?_ | (refine zsp ?_ ?_ <;> (intro hc; (try simp only [zhcs, reduceCtorEq] at hc); (try (exfalso; first | contradiction | omega | exact absurd rfl hc | exact absurd (by decide) hc))))))
  (refine At.loopk (σ := Unit) [0, 1] (fun s F0 => (3, .int .i64 (-1)) :: F0) (fun s => m) (fun s => bS b p 0 c :: Rest) (fun s => True) (fun s => 0) () (by rfl) ?_ zsubs zml zente ?_)
  · trivial
  rintro ⟨⟩ -
  (repeat' (first | refine zss ?_ | refine zs0 ?_ | (refine zsp ?_ ?_ <;> (intro hc; (try simp only [zhcs, reduceCtorEq] at hc); (try (exfalso; first | contradiction | omega | exact absurd rfl hc | exact absurd (by decide) hc))))))
  all_goals ((first | (with_reducible apply At.retB0 (B := [bS b p 0 c])) | (with_reducible apply At.retR0 (B := [bS b p 0 c]))); exact rfl; exact zml; exact zkp; exact ⟨rfl, rfl⟩)
theorem read {m : Mem} (b : Nat) (D : Dsk) (i : Nat) (hi : i < D.safe.length) (hd : D.down = false) (hp : D.pend = []) (hl : D.safe.length ≤ 1000000000) : Ct Try.prog 37 #[ptr b, .int .i64 (i : Int)] m [R b D] (fun v m' B => v = .tuple #[.string (str D.safe[i]!), .int .i64 0] ∧ m = m' ∧ B = [R b D]) := R.open fun s => by
  rw [List.append_nil]
  obtain ⟨p, c, q, d⟩ := s
  obtain ⟨S, Pd, arm, down⟩ := D
  dsimp only at hi hd hp hl ⊢
  subst hd hp
  refine Ct.conv (R := fun v m' B => v = .tuple #[.string (str S[i]!), .int .i64 0] ∧ m = m' ∧ B = rr b p c q d ⟨S, [], arm, false⟩) ?_ fun v m' B _ ⟨h1, h2, h3⟩ => ⟨_, ⟨h1, h2, rfl⟩, fun Rest => by subst h3; exact R.close p c q d Rest⟩
  have k1 := fun (m' : Mem) (h : m.le m') => has0 (m := m') b ⟨S, [], arm, false⟩ i p c q d
  rw [show decide (has ⟨S, [], arm, false⟩ (i : Int)) = true from decide_eq_true ⟨by omega, by dsimp only; omega⟩] at k1
  have k2 := fun (m' : Mem) => bwd (m := m') q 0 d
  dsimp only [rr] at k1 k2 ⊢
  refine Ct.enterVM (by rfl) Try.func37 rfl Try.ntmps37 rfl (fun w0 Rest => ?_)
  (repeat' (first | refine zss ?_ | refine zsO ?_ | ((with_reducible first | apply AtM1.cr | apply AtQ.cr | apply At.cr); exact rfl; exact rfl; exact fun _ hmm => k1 _ hmm; exact ztk; kernel_rfl) | ((with_reducible first | apply At.c1 | apply At.c0); exact rfl; exact rfl; exact k2 _; exact ztk; kernel_rfl; rintro v' m' B' hm' ⟨rfl, b2, rfl, rfl⟩; skip; (try (have hq0 : hm' = Mem.le_refl _ := rfl; clear hq0 hm'))) | ((with_reducible apply At.box (d := 3)); exact rfl; exact rfl; exact rfl; intro b3) | ((with_reducible apply At.alloc (d := 4)); exact rfl; exact rfl; intro b4) | ((with_reducible apply At.alloc (d := 5)); exact rfl; exact rfl; intro b5) | ((with_reducible apply At.alloc (d := 7)); exact rfl; exact rfl; intro b7) | (refine zsp ?_ ?_ <;> (intro hc; (try simp only [zhcs, reduceCtorEq] at hc); (try (exfalso; first | omega | contradiction | omega | exact absurd rfl hc | exact absurd (by decide) hc))))))
  refine At.rangeFunc (A := [bS b2 q 0 d]) (S := fun m' A' => m' = m ∧ A' = [bS b2 q 0 d]) rfl (by kernel_rfl) ztk (fun l B f tm _ => ?_) ?_
  · refine (Ct.frm [.obj l _, .obj B _] (bwd1 l b2 q d)).mono fun v m' X _ ⟨Y, h1, h2, h3⟩ => ⟨_, by rw [h1, h3]; rfl, h2.symm, rfl⟩
  rintro B m' A' - ⟨rfl, rfl⟩
  refine At.tail ?_
  (repeat' (first | ((with_reducible apply At.c_mixed (id := 9) [ ] 9 (.q 0 (.q 1 (.q 2 (.q 3 (.q 4 (.q 5 (.q 6 (.x 7 (.x 8 .done)))))))))); (repeat' (first | exact Take.nil | ((with_reducible apply Take.cons); (focus ((repeat constructor); done))))); exact rfl; kernel_rfl; kernel_rfl; kernel_rfl; kernel_rfl) | refine zsx ?_ | refine zss ?_ | ((with_reducible apply AtM.bo); exact rfl; exact rfl; exact rfl) | refine zsO ?_ | refine zxO ?_ | (with_reducible first | apply At.c_seq | apply At.c_skip | apply At.c_ret | apply At.c_exit | apply At.c_block) | ((with_reducible apply At.c_region); exact znl; exact rfl; kernel_rfl) | ((with_reducible apply At.c_cond); exact rfl; all_goals (intro hc; (try simp only [zhcs, reduceCtorEq] at hc); (try (exfalso; first | contradiction | omega | exact absurd rfl hc | exact absurd (by decide) hc)))) | ((with_reducible apply At.box (d := 3)); exact rfl; exact rfl; exact rfl; intro b3) | ((with_reducible apply At.alloc (d := 4)); exact rfl; exact rfl; intro b4) | ((with_reducible apply At.alloc (d := 5)); exact rfl; exact rfl; intro b5) | ((with_reducible apply At.alloc (d := 7)); exact rfl; exact rfl; intro b7) | (refine zsp ?_ ?_ <;> (intro hc; (try simp only [zhcs, reduceCtorEq] at hc); (try (exfalso; first | omega | contradiction | omega | exact absurd rfl hc | exact absurd (by decide) hc))))))
  all_goals ((with_reducible apply At.retM (X := rr b p c q d ⟨S, [], arm, false⟩)); exact (by repeat constructor); exact rfl; (repeat' (first | exact RVs.nil | (with_reducible apply RVs.cons) | exact rv_tmp (by rfl) | exact rv_cellN (by rfl) (by repeat constructor) (by rfl) (by rfl) (by rfl) | exact rv_cell1 (by rfl) (by repeat constructor) (by rfl) (by rfl))); exact zml; exact zkp; exact ⟨rfl, rfl, rfl⟩)
end Dk
end Go.Proofs.Ytijgnbedilipdaa
namespace Go.J
open Go
def Hld (cs : List Value) (o : Nat) (vs : List Value) : Prop := ∀ j, j < vs.length → cs[o + j]? = vs[j]?
def put (cs : List Value) (a : Nat) (vs : List Value) : List Value := cs.take a ++ vs ++ cs.drop (a + vs.length)
theorem put_len {cs vs : List Value} {a : Nat} (h : a + vs.length ≤ cs.length) : (put cs a vs).length = cs.length := by
  unfold put; simp only [List.length_append, List.length_take, List.length_drop]; omega
theorem put_get {cs vs : List Value} {a : Nat} (h : a + vs.length ≤ cs.length) (k : Nat) : (put cs a vs)[k]? = if a ≤ k ∧ k < a + vs.length then vs[k - a]? else cs[k]? := by
  unfold put
  have e1 : (cs.take a).length = a := by rw [List.length_take]; omega
  by_cases h1 : k < a
  · rw [if_neg (by omega), List.append_assoc, List.getElem?_append_left (by omega), List.getElem?_take, if_pos h1]
  · by_cases h2 : k < a + vs.length
    · rw [if_pos ⟨by omega, h2⟩, List.append_assoc, List.getElem?_append_right (by omega), e1, List.getElem?_append_left (by omega)]
    · rw [if_neg (by omega), List.getElem?_append_right (by rw [List.length_append, e1]; omega), List.length_append, e1, List.getElem?_drop]
      congr 1; omega
theorem Hld.put_in {cs vs : List Value} {a : Nat} (h : a + vs.length ≤ cs.length) : Hld (put cs a vs) a vs := fun j hj => by
  rw [put_get h, if_pos ⟨by omega, by omega⟩]; congr 1; omega
theorem Hld.put_out {cs vs us : List Value} {a o : Nat} (h : a + vs.length ≤ cs.length) (hh : Hld cs o us) (hd : o + us.length ≤ a ∨ a + vs.length ≤ o) : Hld (put cs a vs) o us := fun j hj => by
  rw [put_get h, if_neg (by omega)]; exact hh j hj
theorem Hld.app {cs us vs : List Value} {o : Nat} (h1 : Hld cs o us) (h2 : Hld cs (o + us.length) vs) : Hld cs o (us ++ vs) := fun j hj => by
  rw [List.length_append] at hj
  by_cases h : j < us.length
  · rw [List.getElem?_append_left h]; exact h1 j h
  · rw [List.getElem?_append_right (by omega), ← h2 (j - us.length) (by omega)]; congr 1; omega
theorem Hld.left {cs us vs : List Value} {o : Nat} (h : Hld cs o (us ++ vs)) : Hld cs o us := fun j hj => by
  rw [h j (by rw [List.length_append]; omega), List.getElem?_append_left hj]
theorem Hld.right {cs us vs : List Value} {o : Nat} (h : Hld cs o (us ++ vs)) : Hld cs (o + us.length) vs := fun j hj => by
  rw [Nat.add_assoc, h (us.length + j) (by rw [List.length_append]; omega), List.getElem?_append_right (by omega)]; congr 1; omega
section
variable {P : Program} {n : Nat} {w0 : World} {F : Fr} {m : Mem} {Rs Rs' R1 R2 : List Res} {Q : Exit → Act → World → Prop} {K : Act → World → Prop} {C : World → Prop} {α : Type} [Inhabited α] {f : α → List Value} {sz : Nat}
variable {E E2 : TypeId} {p : Option Addr} {c : Nat} {l : List α} {g g2 a o dl dc sl sc : Nat} {cs cs2 : List Value}
theorem At.own_row (hp : Pick Rs (.own f sz E p c l) Rs') (h0 : p = none → c = 0 → l = [] → At n w0 F m Rs K)
    (h1 : ∀ g o cs, p = some ⟨g, o, none⟩ → l.length ≤ c → c ≤ maxLen → o + c * sz ≤ cs.length → Hld cs o (l.flatMap f) → At n w0 F m (.blk g E cs :: Rs') K) (hf : Fl f sz) : At n w0 F m Rs K := fun a w ha hw => by
  obtain ⟨s, ⟨e1, e2, e3, _⟩ | ⟨g, o, cur, rfl, h2, h3, h4, h5, h6, h7⟩⟩ := hw.get hp
  · exact h0 e1 e2 e3 a w ha hw
  · refine h1 g o cur.toList rfl h3 h4 (by rw [Array.length_toList]; exact h5) (fun j hj => ?_) a w ha (hw.turn hp fun s' hs' => ?_)
    · rw [Array.getElem?_toList]; exact h6 j (by rw [flatMap_length hf.len] at hj; exact hj)
    · rcases hs' with ⟨e1, _⟩ | ⟨g', o', cur', e1, _, _, _, _, _, g7⟩
      · cases e1
      · injection e1 with e1; injection e1 with e1 _ _; subst e1
        refine ⟨fun k => k = g, ⟨?_, fun _ => Iff.rfl⟩, rfl, rfl, rfl, Nat.le_refl _, fun _ _ _ => rfl, fun k hk => .inl ((g7 k).2 hk)⟩
        rw [Array.toArray_toList]; exact h2
theorem own_close (hf : Fl f sz) (h1 : l.length ≤ c) (h2 : c ≤ maxLen) (h3 : o + c * sz ≤ cs.length) (h4 : Hld cs o (l.flatMap f)) : Ent (.blk g E cs :: Rs) (.own f sz E (some ⟨g, o, none⟩) c l :: Rs) := fun w s ⟨s1, s2, ⟨e1, e2⟩, g2, g3, g4⟩ =>
  ⟨s, ⟨s1, s2, .inr ⟨g, o, cs.toArray, rfl, e1, h1, h2, by rw [List.size_toArray]; exact h3, fun j hj => by rw [List.getElem?_toArray]; exact h4 j (by rw [flatMap_length hf.len]; exact hj), e2⟩, g2, g3, g4⟩, fun _ x => x⟩
theorem At.own_end (hf : Fl f sz) (h1 : l.length ≤ c) (h2 : c ≤ maxLen) (h3 : o + c * sz ≤ cs.length) (h4 : Hld cs o (l.flatMap f)) (hp : Pick Rs (.blk g E cs) Rs') (h : At n w0 F m (.own f sz E (some ⟨g, o, none⟩) c l :: Rs') K) : At n w0 F m Rs K :=
  At.ent ((Ent.of_pick hp).trans (own_close hf h1 h2 h3 h4)) h
theorem blk_cells (hp : Pick Rs (.blk g E cs) Rs') {vs : List Value} (hh : Hld cs a vs) (w : World) (hw : HW w0 m Rs w) (j : Nat) (hj : j < vs.length) : w.cell? ⟨g, a + j, none⟩ = vs[j]? := by
  rw [World.cell_of (hw.blk hp), List.getElem?_toArray]; exact hh j hj
theorem rdb_cellsV {q : Option Addr} {l2 : List α} {c2 g2 a2 : Nat} (h : Rdb C f sz q c2 l2) (hq : q = some ⟨g2, a2, none⟩) {vs : List Value} (hv : vs = l2.flatMap f) (w : World) (hw : C w) (j : Nat) (hj : j < vs.length) : w.cell? ⟨g2, a2 + j, none⟩ = vs[j]? := by
  subst hv
  exact rdb_cells h hw g2 a2 hq j (by rw [flatMap_length h.fl.len] at hj; exact hj)
/-- cells are written in place -/
theorem HW.putB {w : World} (hw : HW w0 m Rs w) (hp : Pick Rs (.blk g E cs) Rs') {vs : List Value} (hfit : a + vs.length ≤ cs.length) (h1 : ∀ v ∈ vs, v.oneCell' = true) :
    ∃ w', (storeCells ⟨g, a, none⟩ vs 0).run P w = .ok () w' ∧ HW w0 m (.blk g E (put cs a vs) :: Rs') w' := by
  have hb := hw.blk hp
  have hst := run_storeCells_at P g a E vs 0 cs.toArray w hb (by simpa using hfit) h1
  simp only [Nat.add_zero] at hst
  refine ⟨_, hst, hw.turn hp fun s hs => ⟨s, ⟨setRow_heap w g cs.toArray _ E _ hb, hs.2⟩, rfl, rfl, rfl, by simp, fun k _ hk => setRow_other w g k _ (fun e => hk ((hs.2 k).2 e)), fun k hk => .inl hk⟩⟩
theorem At.copyB {ops : Array Oper} {rest : List Oper} {d : Nat} {x y : Operand} {t tx ty : TypeId} {pos : String} {aft : Array Edge} {a2 k : Nat} (vs : List Value)
    (hx : ev F x = some (.slice (some ⟨g, a, none⟩) dl dc)) (hy : ev F y = some (.slice (some ⟨g2, a2, none⟩) sl sc)) (ht : P.underlying t = some (.slice E2)) (hs : sizeB P E2 = some sz)
    (hk : Nat.min sl dl = k) (hv : k * sz = vs.length) (hr : ∀ w, HW w0 m Rs w → ∀ j, j < vs.length → w.cell? ⟨g2, a2 + j, none⟩ = vs[j]?) (h1 : ∀ v ∈ vs, v.oneCell' = true)
    (hp : Pick Rs (.blk g E cs) Rs') (hfit : a + vs.length ≤ cs.length) (hd : Nat.blt d n = true)
    (h : At n w0 ((d, .int .i64 (k : Int)) :: F) m (.blk g E (put cs a vs) :: Rs') (wpList P ops Q rest)) :
    At n w0 F m Rs (wpList P ops Q (⟨some d, .call ⟨.builtin .copy, #[x, y], #[t, tx]⟩, ty, pos, aft, none⟩ :: rest)) := fun ac w ha hw =>
  wpList_plain rfl fun K hK => by
    obtain ⟨w', hst, hw'⟩ := hw.putB (P := P) hp hfit h1
    have hl := run_loadCells (P := P) w g2 a2 vs (hr w hw)
    have hrun : (execOp ac.eval ⟨some d, .call ⟨.builtin .copy, #[x, y], #[t, tx]⟩, ty, pos, aft, none⟩).run P w = .ok (.value (.int .i64 (k : Int))) w' := by
      rw [BigFrame.execOp_builtin]
      have hu : ∀ w, (underlying t).run P w = .ok (.slice E2) w := fun w => by simp only [underlying, program, bind, Sem.bind, Sem.run, ht]; rfl
      have h0 : (Builtin.copy_ #[t, tx] ty #[.slice (some ⟨g, a, none⟩) dl dc, .slice (some ⟨g2, a2, none⟩) sl sc]).run P w = .ok (goInt k) w' := by
        unfold Builtin.copy_
        simp only [Sem.run_bind, hu, Result.andThen, Builtin.lenOf, Builtin.firstCells, List.getElem?_toArray, List.getElem?_cons_zero, List.getElem?_cons_succ, Sem.run_pure, run_sizeOf hs, hk, hv, hl, hst]
      simp [BigFrame.builtin_copy, ha.ev hx, ha.ev hy, h0, goInt]
    unfold Oper.wp
    rw [hrun]
    exact hK _ _ (h _ _ (ha.put hd) hw')
/-- append where there is room, at cells -/
theorem At.appendB {ops : Array Oper} {rest : List Oper} {d : Nat} {x y : Operand} {t tx ty : TypeId} {pos : String} {aft : Array Edge} {i k : Nat} {q : Option Addr} (vs : List Value)
    (hx : ev F x = some (.slice (some ⟨g, o, none⟩) i c)) (hy : ev F y = some (.slice q k sc)) (ht : P.underlying t = some (.slice E2)) (htx : P.underlying tx = some (.slice E2)) (hs : sizeB P E2 = some sz)
    (hv : k * sz = vs.length) (hr : 0 < k → ∃ g2 a2, q = some ⟨g2, a2, none⟩ ∧ ∀ w, HW w0 m Rs w → ∀ j, j < vs.length → w.cell? ⟨g2, a2 + j, none⟩ = vs[j]?) (h1 : ∀ v ∈ vs, v.oneCell' = true) (hroom : i + k ≤ c)
    (hp : Pick Rs (.blk g E cs) Rs') (hfit : o + i * sz + vs.length ≤ cs.length) (hd : Nat.blt d n = true)
    (h : At n w0 ((d, .slice (some ⟨g, o, none⟩) (i + k) c) :: F) m (.blk g E (put cs (o + i * sz) vs) :: Rs') (wpList P ops Q rest)) :
    At n w0 F m Rs (wpList P ops Q (⟨some d, .call ⟨.builtin .append, #[x, y], #[t, tx]⟩, ty, pos, aft, none⟩ :: rest)) := fun ac w ha hw =>
  wpList_plain rfl fun K hK => by
    obtain ⟨w', hst, hw'⟩ := hw.putB (P := P) hp hfit h1
    have hu : ∀ w, (underlying t).run P w = .ok (.slice E2) w := fun w => by simp only [underlying, program, bind, Sem.bind, Sem.run, ht]; rfl
    have hux : ∀ w, (underlying tx).run P w = .ok (.slice E2) w := fun w => by simp only [underlying, program, bind, Sem.bind, Sem.run, htx]; rfl
    have hc : (Builtin.firstCells sz k (.slice q k sc)).run P w = .ok vs.toArray w := by
      rcases Nat.eq_zero_or_pos k with hk | hk
      · have hvs : vs = [] := List.eq_nil_of_length_eq_zero (by rw [← hv, hk, Nat.zero_mul])
        subst hvs hk
        cases q with
        | none => rfl
        | some b =>
          show (loadCells b (0 * sz)).run P w = _
          rw [Nat.zero_mul]
          exact run_loadCells_list w b [] (fun j v h => by cases h)
      · obtain ⟨g2, a2, rfl, hr2⟩ := hr hk
        show (loadCells ⟨g2, a2, none⟩ (k * sz)).run P w = _
        rw [hv]
        exact run_loadCells w g2 a2 vs (hr2 w hw)
    have hrun : (execOp ac.eval ⟨some d, .call ⟨.builtin .append, #[x, y], #[t, tx]⟩, ty, pos, aft, none⟩).run P w = .ok (.value (.slice (some ⟨g, o, none⟩) (i + k) c)) w' := by
      rw [BigFrame.execOp_builtin]
      have h0 : (Builtin.append_ #[t, tx] ty #[.slice (some ⟨g, o, none⟩) i c, .slice q k sc]).run P w = .ok (.slice (some ⟨g, o, none⟩) (i + k) c) w' := by
        simp [Builtin.append_, hu, hux, run_sizeOf hs, Builtin.lenOf, hroom, hc, Addr.add_eq, hst]
      simp [BigFrame.builtin_append, ha.ev hx, ha.ev hy, h0]
    unfold Oper.wp
    rw [hrun]
    exact hK _ _ (h _ _ (ha.put hd) hw')
/-- clear, at cells -/
theorem At.clearB {ops : Array Oper} {rest : List Oper} {d : Option Nat} {x : Operand} {t ty : TypeId} {pos : String} {aft : Array Edge} {k : Nat}
    (hx : ev F x = some (.slice (some ⟨g, a, none⟩) k c)) (ht : P.underlying t = some (.slice E2)) (he : elemB P E2 sz = true) (hz1 : zeroOneB P E2 = true)
    (hp : Pick Rs (.blk g E cs) Rs') (hfit : a + k * sz ≤ cs.length) (hd : d = none)
    (h : ∀ vs, vs.length = k * sz → At n w0 F m (.blk g E (put cs a vs) :: Rs') (wpList P ops Q rest)) :
    At n w0 F m Rs (wpList P ops Q (⟨d, .call ⟨.builtin .clear, #[x], #[t]⟩, ty, pos, aft, none⟩ :: rest)) := fun ac w ha hw =>
  wpList_plain rfl fun K hK => by
    subst hd
    obtain ⟨i, z, hi, hz, hsz, hbt, hzs⟩ := elemB_spec he
    have hone : z.cells.toList.all oneCell = true := by
      unfold zeroOneB at hz1; rw [hi] at hz1; simp only [hz] at hz1; exact hz1
    have hlen : (Builtin.zeroCells z.cells k).toList.length = k * sz := by rw [Array.length_toList, size_zeroCells, hzs]
    obtain ⟨w', hst, hw'⟩ := hw.putB (P := P) (vs := (Builtin.zeroCells z.cells k).toList) hp (by rw [hlen]; exact hfit) (zeroCells_one hone _)
    have hzv : ∀ w, (zeroValue E2).run P w = .ok z w := fun w => by simp [zeroValue, typeInfo, hi, hz]
    have hu : ∀ w, (underlying t).run P w = .ok (.slice E2) w := fun w => by simp only [underlying, program, bind, Sem.bind, Sem.run, ht]; rfl
    have hrun : (execOp ac.eval ⟨none, .call ⟨.builtin .clear, #[x], #[t]⟩, ty, pos, aft, none⟩).run P w = .ok (.value (.tuple #[])) w' := by
      rw [BigFrame.execOp_builtin]
      have h0 : (Builtin.clear_ #[t] ty #[.slice (some ⟨g, a, none⟩) k c]).run P w = .ok (.tuple #[]) w' := by
        cases k with
        | zero =>
          have : (Builtin.zeroCells z.cells 0).toList = [] := List.eq_nil_of_length_eq_zero (by rw [hlen, Nat.zero_mul])
          rw [this] at hst
          simp only [storeCells, pure, Sem.run] at hst
          cases hst
          simp [Builtin.clear_, hu]
        | succ k => simp [Builtin.clear_, hu, hzv, hst]
      simp [BigFrame.builtin_clear, ha.ev hx, h0]
    unfold Oper.wp
    rw [hrun]
    exact hK _ _ (h _ hlen _ _ ha hw')
/-- append of so many zeros, where there is no room -/
theorem At.appendZ {ops : Array Oper} {rest : List Oper} {d : Nat} {x y : Operand} {t tn ty : TypeId} {pos : String} {aft : Array Edge} {i k : Nat} {kn : IntKind} (z : α)
    (hx : ev F x = some (.slice p i c)) (hy : ev F y = some (.int .i64 (k : Int))) (h1 : Rdb (HW w0 m Rs) f sz p c l) (hi : i = l.length) (ht : P.underlying t = some (.slice E)) (htn : P.underlying tn = some (.int kn)) (he : elemB P E sz = true) (hz : zeroL P E = some (f z))
    (hgrow : c < l.length + k) (h0 : 0 < k) (hsm : l.length + k ≤ 34359738368) (hd : Nat.blt d n = true)
    (h : ∀ p' c', At n w0 ((d, .slice p' (l ++ List.replicate k z).length c') :: F) m (.own f sz E p' c' (l ++ List.replicate k z) :: Rs) (wpList P ops Q rest)) :
    At n w0 F m Rs (wpList P ops Q (⟨some d, .call ⟨.builtin .append, #[x, y], #[t, tn]⟩, ty, pos, aft, none⟩ :: rest)) := fun ac w ha hw =>
  wpList_plain rfl fun K hK => by
    subst hi
    have hf := h1.fl
    obtain ⟨i, zv, hi, hzv, hsz, hbt, hzs⟩ := elemB_spec he
    obtain ⟨i', z', hi', hz', hzc⟩ := zeroL_spec hz
    rw [hi] at hi'; cases hi'
    rw [hzv] at hz'; cases hz'
    have hby : (l.length + k) * i.bytes ≤ 140737488355328 := Nat.le_trans (Nat.mul_le_mul hsm hbt) (by omega)
    have h63 : l.length + k ≤ maxLen := by simp only [maxLen]; omega
    have s1 := rdb_src (P := P) h1 hw ht
    have hl1 := flatMap_length hf.len l
    have hold : (Builtin.firstCells i.size l.length (.slice p l.length c)).run P w.drew = .ok (l.flatMap f).toArray w.drew := by rw [hsz]; exact s1.cellsD
    have hge := grownCap_ge w (l.length + k) c E
    have hcm : grownCap w (l.length + k) c E ≤ maxLen := grownCap_le_maxLen w (l.length + k) c E h63
    have hlz : (f z).length = sz := hf.len z
    have hcp : Builtin.zeroCells zv.cells k = (copies k (f z)).toArray := by
      have := copies_arr zv.cells (f z) hzc k
      rw [hlz] at this
      unfold Builtin.zeroCells
      rw [← this, hzs]
    have hfm : (l ++ List.replicate k z).flatMap f = l.flatMap f ++ copies k (f z) := by rw [List.flatMap_append, flatMap_replicate]
    have hr : (Builtin.append_ #[t, tn] ty #[.slice p l.length c, .int .i64 (k : Int)]).run P w = .ok (.slice (some ⟨w.heap.size, 0, none⟩) (l.length + k) (grownCap w (l.length + k) c E))
        (w.drew.alloc (.cells ((l.flatMap f ++ copies k (f z)).toArray ++ Builtin.zeroCells zv.cells (grownCap w (l.length + k) c E - (l.length + k))) E)) := by
      have hwk : IntKind.i64.wrap (k : Int) = k := by rw [IntKind.wrap_i64]; omega
      have hneg : ¬ ((k : Int) < 0) := by omega
      have hkb : k * i.bytes ≤ 281474976710656 := Nat.le_trans (Nat.mul_le_mul (show k ≤ 34359738368 by omega) hbt) (by omega)
      have h48 : ¬ (281474976710656 < (k : Int) * (i.bytes : Int)) := by rw [← Int.natCast_mul]; omega
      have hn : ¬ (l.length + k ≤ c) := by omega
      have h63' : ¬ (9223372036854775807 < (l.length : Int) + (k : Int)) := by omega
      have hb63 : ¬ (281474976710656 < Builtin.nextslicecap (l.length + k) c * i.bytes) := by have := growslice_fits hgrow hby; omega
      have hk0 : ¬ k = 0 := by omega
      have hs0 : ¬ (k * i.size = 0) := Nat.mul_ne_zero hk0 (by have := hf.pos; omega)
      rw [show (l.flatMap f ++ copies k (f z)).toArray = (l.flatMap f).toArray ++ (copies k (f z)).toArray by simp, ← hcp]
      simp [Builtin.append_, run_underlying ht, run_underlying htn, sizeOf, typeInfo, zeroValue, hi, hzv, asInt, asIntOf, hwk, hneg, h48, hn, h63', hb63, hk0, hs0, Question.forced, hold, newRow, grownCap]
    unfold Oper.wp
    have hrun : ∀ v w', (Builtin.append_ #[t, tn] ty #[.slice p l.length c, .int .i64 (k : Int)]).run P w = .ok v w' → (execOp ac.eval ⟨some d, .call ⟨.builtin .append, #[x, y], #[t, tn]⟩, ty, pos, aft, none⟩).run P w = .ok (.value v) w' := fun v w' hr => by
      rw [BigFrame.execOp_builtin]
      simp [BigFrame.builtin_append, ha.ev hx, ha.ev hy, hr]
    rw [hrun _ _ hr]
    have hll : (l ++ List.replicate k z).length = l.length + k := by simp
    rw [← hll] at hge hcm ⊢
    refine hK _ _ (h _ _ _ _ (ha.put hd) (hw.add rfl rfl rfl (by simp) (fun j hj => heap_alloc_old w.drew _ hj) ⟨fun j => j = w.heap.size, .inr ⟨w.heap.size, 0, _, rfl, heap_alloc_new w.drew _, hge, hcm, ?_, fun j hj => ?_, fun _ => Iff.rfl⟩, fun j hj => by omega⟩))
    · rw [← hfm]
      simp only [Array.size_append, List.size_toArray, size_zeroCells, hzs, flatMap_length hf.len, ← Nat.add_mul]
      rw [Nat.add_sub_cancel' hge, Nat.zero_add]
      exact Nat.le_refl _
    · rw [Nat.zero_add, ← hfm, Array.getElem?_append_left (by simp only [List.size_toArray, flatMap_length hf.len]; exact hj)]
      simp
theorem pr_cap_sl {x : Operand} {t e : TypeId} {ln : Nat} (ht : P.underlying t = some (.slice e)) (hx : ev F x = some (.slice p ln c)) : PR P n F C (.call ⟨.builtin .cap, #[x], #[t]⟩) (.int .i64 (c : Int)) := fun _ _ _ _ _ a w ha _ => by
  simp [execOp, resolve, invoke, builtin, ha.ev hx, Builtin.cap_, underlying, program, ht, Sem.run, goInt]
/-- a part whose end is told with its room -/
theorem run_slice4 {t e : TypeId} (ht : P.underlying t = some (.slice e)) (hs : sizeB P e = some sz) (p : Option Addr) (l c lo hi mx : Nat) (h1 : lo ≤ hi) (h2 : hi ≤ mx) (h3 : mx ≤ c) (k k' k2 : IntKind) (w : World) :
    (Instr.sliceAt t (.slice p l c) (some (.int k (lo : Int))) (some (.int k' (hi : Int))) (some (.int k2 (mx : Int)))).run P w = .ok (.slice (subp p mx lo sz) (hi - lo) (mx - lo)) w := by
  have hr : ∀ w, (underlying t).run P w = .ok (.slice e) w := fun w => by simp only [underlying, program, bind, Sem.bind, Sem.run, ht]; rfl
  unfold Instr.sliceAt
  simp only [Sem.run_bind, hr, Result.andThen]
  unfold Instr.slice
  simp only [Sem.run_bind, hr, Result.andThen]
  have hb : (Instr.sliceBounds true l c (some (.int k (lo : Int))) (some (.int k' (hi : Int))) (some (.int k2 (mx : Int)))).run P w = .ok (lo, hi, mx) w := by
    unfold Instr.sliceBounds Instr.sliceBound
    simp [asIntOf, pure, Sem.run, bind, Sem.bind, h1, h2, h3]
  rw [hb]
  simp only [run_sizeOf hs, pure, Sem.run, subp]
theorem pr_slice4 {x y z u : Operand} {t e : TypeId} {ln lo hi mx : Nat} {k k' k2 : IntKind} (hx : ev F x = some (.slice p ln c)) (hy : ev F y = some (.int k (lo : Int))) (hz : ev F z = some (.int k' (hi : Int))) (hu : ev F u = some (.int k2 (mx : Int))) (ht : P.underlying t = some (.slice e)) (hs : sizeB P e = some sz) (h1 : lo ≤ hi) (h2 : hi ≤ mx) (h3 : mx ≤ c) :
    PR P n F C (.slice t x (some y) (some z) (some u)) (.slice (subp p mx lo sz) (hi - lo) (mx - lo)) := fun _ _ _ _ _ a w ha hC => by
  simp only [execOp, ha.ev hx, Sem.run_bind, Option.map_some, ha.ev hy, ha.ev hz, ha.ev hu]
  rw [run_slice4 ht hs p ln c lo hi mx h1 h2 h3]
  rfl
/-- parts of a row that is there -/
theorem pr_slice_bl {x y : Operand} {t e : TypeId} {ln lo : Nat} {k : IntKind} (hx : ev F x = some (.slice (some ⟨g, o, none⟩) ln c)) (hy : ev F y = some (.int k (lo : Int))) (ht : P.underlying t = some (.slice e)) (hs : sizeB P e = some sz) (h1 : lo ≤ ln) (h2 : ln ≤ c) (hlt : lo < c) :
    PR P n F C (.slice t x (some y) none none) (.slice (some ⟨g, o + lo * sz, none⟩) (ln - lo) (c - lo)) := by
  have := pr_slice_l (P := P) (n := n) (C := C) hx hy ht hs h1 h2
  rwa [show subp (some ⟨g, o, none⟩) c lo sz = some ⟨g, o + lo * sz, none⟩ by unfold subp; rw [if_neg (by omega)]; simp [Addr.add_eq]] at this
theorem pr_slice_bh {x y : Operand} {t e : TypeId} {ln hi : Nat} {k : IntKind} (hx : ev F x = some (.slice p ln c)) (hy : ev F y = some (.int k (hi : Int))) (ht : P.underlying t = some (.slice e)) (hs : sizeB P e = some sz) (h2 : hi ≤ c) :
    PR P n F C (.slice t x none (some y) none) (.slice p hi c) := by
  have := pr_slice_h (P := P) (n := n) (C := C) hx hy ht hs h2
  rwa [subp0, Nat.sub_zero, Nat.sub_zero] at this
theorem pr_slice_blh {x y z : Operand} {t e : TypeId} {ln lo hi : Nat} {k k' : IntKind} (hx : ev F x = some (.slice (some ⟨g, o, none⟩) ln c)) (hy : ev F y = some (.int k (lo : Int))) (hz : ev F z = some (.int k' (hi : Int))) (ht : P.underlying t = some (.slice e)) (hs : sizeB P e = some sz) (h1 : lo ≤ hi) (h2 : hi ≤ c) (hlt : lo < c) :
    PR P n F C (.slice t x (some y) (some z) none) (.slice (some ⟨g, o + lo * sz, none⟩) (hi - lo) (c - lo)) := by
  have := pr_slice_lh (P := P) (n := n) (C := C) hx hy hz ht hs h1 h2
  rwa [show subp (some ⟨g, o, none⟩) c lo sz = some ⟨g, o + lo * sz, none⟩ by unfold subp; rw [if_neg (by omega)]; simp [Addr.add_eq]] at this
theorem subp_lt {lo : Nat} (h : lo < c) : subp (some ⟨g, o, none⟩) c lo sz = some ⟨g, o + lo * sz, none⟩ := by unfold subp; rw [if_neg (by omega)]; simp [Addr.add_eq]
/-- a row that is there, read as a slice -/
theorem blk_rdbF (hp : Pick Rs (.blk g E cs) Rs') (hf : Fl f sz) (hh : Hld cs o (l.flatMap f)) (hc : l.length ≤ c) : Rdb (HW w0 m Rs) f sz (some ⟨g, o, none⟩) c l :=
  ⟨hf, fun _ _ _ => ⟨_, _, rfl⟩, fun _ _ => hc, fun w hw i j hi hj => by
    show w.cell? ⟨g, o + (i * sz + j), none⟩ = _
    have hb : (i + 1) * sz ≤ l.length * sz := Nat.mul_le_mul_right _ hi
    rw [Nat.add_mul] at hb
    rw [World.cell_of (hw.blk hp), List.getElem?_toArray, hh _ (by rw [flatMap_length hf.len]; omega), flatMap_get hf.len l i j hi hj]⟩
theorem Hld.split {i : Nat} (hf : Fl f sz) (hh : Hld cs o (l.flatMap f)) (hi : i ≤ l.length) : Hld cs o ((l.take i).flatMap f) ∧ Hld cs (o + i * sz) ((l.drop i).flatMap f) := by
  have e : l.flatMap f = (l.take i).flatMap f ++ (l.drop i).flatMap f := by rw [← List.flatMap_append, List.take_append_drop]
  rw [e] at hh
  refine ⟨hh.left, ?_⟩
  have := hh.right
  rwa [flatMap_length hf.len, List.length_take, Nat.min_eq_left hi] at this
/-- .. whose cells are known at once -/
theorem At.appendZB {ops : Array Oper} {rest : List Oper} {d : Nat} {x y : Operand} {t tn ty : TypeId} {pos : String} {aft : Array Edge} {i k : Nat} {kn : IntKind} (z : α)
    (hx : ev F x = some (.slice p i c)) (hy : ev F y = some (.int .i64 (k : Int))) (h1 : Rdb (HW w0 m Rs) f sz p c l) (hi : i = l.length) (ht : P.underlying t = some (.slice E)) (htn : P.underlying tn = some (.int kn)) (he : elemB P E sz = true) (hz : zeroL P E = some (f z))
    (hgrow : c < l.length + k) (h0 : 0 < k) (hsm : l.length + k ≤ 34359738368) (hd : Nat.blt d n = true)
    (h : ∀ g o c' cs, l.length + k ≤ c' → c' ≤ maxLen → o + c' * sz ≤ cs.length → Hld cs o ((l ++ List.replicate k z).flatMap f) → At n w0 ((d, .slice (some ⟨g, o, none⟩) (l.length + k) c') :: F) m (.blk g E cs :: Rs) (wpList P ops Q rest)) :
    At n w0 F m Rs (wpList P ops Q (⟨some d, .call ⟨.builtin .append, #[x, y], #[t, tn]⟩, ty, pos, aft, none⟩ :: rest)) := by
  refine At.appendZ z hx hy h1 hi ht htn he hz hgrow h0 hsm hd fun p' c' => ?_
  have hll : (l ++ List.replicate k z).length = l.length + k := by simp
  refine At.own_row pk0 (fun _ _ e => absurd (congrArg List.length e) (by rw [hll]; simp; omega)) (fun g o cs e h2 h3 h4 h5 => ?_) h1.fl
  subst e
  rw [hll] at h2 ⊢
  exact h g o c' cs h2 h3 h4 h5
theorem Pick.skip {X Y : Res} {A B T : List Res} (hp : Pick A X B) (hp2 : Pick B Y T) : ∃ T', Pick A Y T' := by
  induction hp generalizing T with
  | here => exact ⟨_, .there hp2⟩
  | @there X' R A B _ ih =>
    cases hp2 with
    | here => exact ⟨_, .here⟩
    | there h => obtain ⟨T', hT⟩ := ih h; exact ⟨_, .there hT⟩
theorem At.blk_ne (hp : Pick Rs (.blk g E cs) R1) (hp2 : Pick R1 (.blk g2 E2 cs2) R2) (h : g ≠ g2 → At n w0 F m Rs K) : At n w0 F m Rs K := fun a w ha hw => by
  refine h (fun e => ?_) a w ha hw
  obtain ⟨s, ⟨s1, s2, h1, h2, hd, he⟩, _⟩ := (hw.ent (Ent.of_pick hp)).res
  obtain ⟨s3, s4, h3, _, _, he2⟩ := (Sat.pick hp2).1 h2
  exact hd g ⟨(h1.2 g).2 rfl, (he2 g).2 (.inl ((h3.2 g).2 e))⟩
theorem pr_overlaps {id : FuncId} {fn : Func} {x y : Operand} {t r : TypeId} {ts : Array TypeId} {b : Nat} (hf : P.funcs[id]? = some fn) (hname : (fn.name == "runtime.NumGoroutine") = false) (hb : fn.body.isNone = true) (hn : Extern.findNext fn = none) (he : Extern.find fn = some (Extern.SlicesOverlaps.overlaps #[t, t] #[r]))
    (hx : ev F x = some (.slice (some ⟨g, a, none⟩) sl sc)) (hy : ev F y = some (.slice (some ⟨g2, b, none⟩) dl dc)) (ht : P.underlying t = some (.slice E)) (hs : sizeB P E = some sz) (hp : Pick Rs (.blk g E cs) R1) (hp2 : Pick R1 (.blk g2 E2 cs2) R2) (hne : g ≠ g2) (h0 : 0 < cs2.length) :
    PR P n F (HW w0 m Rs) (.call ⟨.value (.func id), #[x, y], ts⟩) (.bool false) := fun _ _ _ _ _ ac w ha hw => by
  rw [execOp_call_go]
  have h1 := hw.blk hp
  obtain ⟨R3, hp3⟩ := hp.skip hp2
  have h2 := hw.blk hp3
  have : (#[] ++ (#[x, y] : Array Operand).map ac.eval ++ #[] : Array Value) = #[.slice (some ⟨g, a, none⟩) sl sc, .slice (some ⟨g2, b, none⟩) dl dc] := by simp [ha.ev hx, ha.ev hy]
  rw [this, run_callFunc_extern hf hname hb hn he]
  have hfz : ∀ o', w.frozen? ⟨g, o', none⟩ = false := fun o' => by simp [World.frozen?, h1]
  rw [Lib.run_overlaps_apart w t r E ht sz (fun w => run_sizeOf hs w) ⟨g, a, none⟩ ⟨g2, b, none⟩ sl sc dl dc hne E E2 cs.length cs2.length (by simp [World.shape?, h1]) (by simp [World.shape?, h2]) (by omega) (hfz _) (hfz _)]
  rfl
end
end Go.J
namespace Go.J
open Go Go.RowKit
variable {P : Program} {m : Mem}
theorem Pu.of_same {f : FuncId} {args : Array Value} {V : Value} (h : ∀ w, Calls P f args w fun e w' => e = .returned V ∧ w' = w) : Pu P f args V :=
  fun m w0 Rest w hw => (h w).mono fun e w' ⟨he, hw'⟩ => ⟨V, m, [], he, Mem.le_refl m, ⟨rfl, rfl, rfl⟩, hw' ▸ hw⟩
/-- nothing that was there has turned -/
theorem Pu.of_below {f : FuncId} {args : Array Value} {V : Value} (hd : ∀ w w' : World, drB w ≤ w'.drawn) (h : ∀ w, Calls P f args w fun e w' => e = .returned V ∧ Below w.heap.size w w') : Pu P f args V := fun m w0 Rest w hw => (h w).mono fun e w' ⟨he, hb⟩ => by
  obtain ⟨s, hs, hm⟩ := hw.res
  refine ⟨V, m, [], he, Mem.le_refl m, ⟨rfl, rfl, rfl⟩, hb.os.trans hw.os, hb.tape.trans hw.tape, hb.output.trans hw.output, Nat.le_trans hw.size hb.size, hd _ _, fun k o hk => ?_, s, Sat.loc hs (fun k hk => hb.block k (Sat.dom hs hk)), hm⟩
  have h0 := hw.mem k o hk
  rw [hb.block k (Array.getElem?_eq_some_iff.1 h0).1]
  exact h0
/-- what comes back is a new list that the caller owns -/
theorem Ct.of_row {α : Type} {f : FuncId} {args : Array Value} {fl : α → List Value} {E : TypeId} {L : List α} (hf : Fl fl 1)
    (h : ∀ w : World, (∀ k o, m k = some o → w.heap[k]? = some o) → Calls P f args w fun e w' => ∃ v', e = .returned v' ∧ w'.ownsRow w.heap.size E 1 v' L.length (L.flatMap fl) ∧ Below w.heap.size w w' ∧ w.drawn ≤ w'.drawn) :
    Ct P f args m [] (fun v m' B => ∃ p c, v = .slice p L.length c ∧ m = m' ∧ B = [.own fl 1 E p c L]) := by
  intro w0 Rest w hw
  refine (h w hw.mem).mono ?_
  rintro e w' ⟨v', rfl, ⟨hl, hv⟩, hb, hdr⟩
  obtain ⟨s, hs, hm⟩ := hw.res
  have hs' : Sat Rest w' s := Sat.loc hs (fun k hk => hb.block k (hs.dom hk))
  have hmem : ∀ k o, m k = some o → w'.heap[k]? = some o := fun k o hk => by
    have h0 := hw.mem k o hk
    rw [hb.block k (Array.getElem?_eq_some_iff.1 h0).1]; exact h0
  rcases hv with ⟨rfl, hn⟩ | ⟨g, cap, cur, rfl, hg, hcell, hn, hcap, hsz, htake⟩
  · have hL : L = [] := List.length_eq_zero_iff.1 hn
    subst hL
    exact ⟨_, m, [_], rfl, Mem.le_refl m, ⟨none, 0, rfl, rfl, rfl⟩, hb.os.trans hw.os, hb.tape.trans hw.tape, hb.output.trans hw.output, Nat.le_trans hw.size hb.size, Nat.le_trans hw.dr hdr, hmem,
      s, ⟨fun _ => False, s, .inl ⟨rfl, rfl, rfl, fun _ h => h⟩, hs', fun k ⟨x, _⟩ => x, fun k => ⟨.inr, fun x => x.elim (fun y => y.elim) id⟩⟩, hm⟩
  · refine ⟨_, m, [_], rfl, Mem.le_refl m, ⟨some ⟨g, 0, none⟩, cap, rfl, rfl, rfl⟩, hb.os.trans hw.os, hb.tape.trans hw.tape, hb.output.trans hw.output, Nat.le_trans hw.size hb.size, Nat.le_trans hw.dr hdr, hmem,
      fun k => k = g ∨ s k, ⟨fun k => k = g, s, .inr ⟨g, 0, cur, rfl, hcell, hn, hcap, by omega, fun j hj => ?_, fun k => Iff.rfl⟩, hs', fun k ⟨x, y⟩ => ?_, fun k => Iff.rfl⟩, ?_⟩
    · rw [← htake, Nat.zero_add, List.getElem?_take, if_pos hj, Array.getElem?_toList]
    · have := hs.dom y
      have hk : k = g := x
      omega
    · rintro k (rfl | hk)
      · cases hk : m k with
        | none => rfl
        | some o =>
          have h0 := (Array.getElem?_eq_some_iff.1 (hw.mem k o hk)).1
          omega
      · exact hm k hk
end Go.J
namespace Go.Proofs.Ytijgnbedilipdaa
open Go Go.Shelf
set_option maxRecDepth 100000
def laysn105_ren : Go.Shelf.Ren := ⟨fun | 105 => 25 | 212 => 48 | 99 => 49 | 165 => 50 | 166 => 51 | 170 => 52 | 169 => 53 | 263 => 67 | 264 => 68 | 206 => 69 | 240 => 70 | 241 => 71 | 276 => 76 | 277 => 77 | n => n, fun | 9 => 9 | 3 => 3 | 4 => 4 | 20 => 20 | 0 => 0 | 46 => 94 | 109 => 95 | 5 => 5 | 72 => 100 | 76 => 103 | 51 => 124 | 146 => 125 | 53 => 48 | 148 => 127 | 70 => 98 | 37 => 91 | 75 => 102 | 127 => 129 | 164 => 135 | 80 => 105 | n => n, fun | n => n⟩
theorem laysn105 : Go.Proofs.Lays.n105 Try.prog laysn105_ren := {
  mixed := by kernel_rfl
  f99 := Try.func49.trans (congrArg some (by kernel_rfl))
  f105 := Try.func25.trans (congrArg some (by kernel_rfl))
  f165 := Try.func50.trans (congrArg some (by kernel_rfl))
  f166 := Try.func51.trans (congrArg some (by kernel_rfl))
  f169 := Try.func53.trans (congrArg some (by kernel_rfl))
  f170 := Try.func52.trans (congrArg some (by kernel_rfl))
  f206 := Try.func69.trans (congrArg some (by kernel_rfl))
  f212 := Try.func48.trans (congrArg some (by kernel_rfl))
  f240 := Try.func70.trans (congrArg some (by kernel_rfl))
  f241 := Try.func71.trans (congrArg some (by kernel_rfl))
  f263 := Try.func67.trans (congrArg some (by kernel_rfl))
  f264 := Try.func68.trans (congrArg some (by kernel_rfl))
  f276 := Try.func76.trans (congrArg some (by kernel_rfl))
  f277 := Try.func77.trans (congrArg some (by kernel_rfl))
  t0 := Try.underlying0
  a0 := Try.isAgg0
  z0 := Try.sizeOf0
  v0 := Try.zeroValue0
  t3 := Try.underlying3
  a3 := Try.isAgg3
  z3 := Try.sizeOf3
  v3 := Try.zeroValue3
  t4 := Try.underlying4
  a4 := Try.isAgg4
  z4 := Try.sizeOf4
  v4 := Try.zeroValue4
  t5 := Try.underlying5
  a5 := Try.isAgg5
  z5 := Try.sizeOf5
  v5 := Try.zeroValue5
  t9 := Try.underlying9
  a9 := Try.isAgg9
  z9 := Try.sizeOf9
  v9 := Try.zeroValue9
  t20 := Try.underlying20
  a20 := Try.isAgg20
  z20 := Try.sizeOf20
  v20 := Try.zeroValue20
  t37 := Try.underlying91
  a37 := Try.isAgg91
  z37 := Try.sizeOf91
  v37 := Try.zeroValue91
  t46 := Try.underlying94
  a46 := Try.isAgg94
  z46 := Try.sizeOf94
  v46 := Try.zeroValue94
  t51 := Try.underlying124
  a51 := Try.isAgg124
  z51 := Try.sizeOf124
  v51 := Try.zeroValue124
  t53 := Try.underlying48
  a53 := Try.isAgg48
  z53 := Try.sizeOf48
  v53 := Try.zeroValue48
  t70 := Try.underlying98
  a70 := Try.isAgg98
  z70 := Try.sizeOf98
  v70 := Try.zeroValue98
  t72 := Try.underlying100
  a72 := Try.isAgg100
  z72 := Try.sizeOf100
  v72 := Try.zeroValue100
  t75 := Try.underlying102
  a75 := Try.isAgg102
  z75 := Try.sizeOf102
  v75 := Try.zeroValue102
  t76 := Try.underlying103
  a76 := Try.isAgg103
  z76 := Try.sizeOf103
  v76 := Try.zeroValue103
  t109 := Try.underlying95
  a109 := Try.isAgg95
  z109 := Try.sizeOf95
  v109 := Try.zeroValue95
  t127 := Try.underlying129
  a127 := Try.isAgg129
  z127 := Try.sizeOf129
  v127 := Try.zeroValue129
  t146 := Try.underlying125
  a146 := Try.isAgg125
  z146 := Try.sizeOf125
  v146 := Try.zeroValue125
  t148 := Try.underlying127
  a148 := Try.isAgg127
  z148 := Try.sizeOf127
  v148 := Try.zeroValue127
  t164 := Try.underlying135
  a164 := Try.isAgg135
  z164 := Try.sizeOf135
  v164 := Try.zeroValue135 }
theorem repX : Builder.Extra Try.prog laysn105_ren where
  sizeBuilder := by kernel_rfl
  liesBuilder := by kernel_rfl
  t5 := Try.underlying5
  a5 := Try.isAgg5
  z5 := Try.sizeOf5
  v5 := Try.zeroValue5
  infoByte := by kernel_rfl
  cellsByte := by kernel_rfl
  sizeByte := by kernel_rfl
  neB5 := by decide
end Go.Proofs.Ytijgnbedilipdaa
namespace Go.Proofs.Ytijgnbedilipdaa
open Go Go.J Go.Shelf
attribute [local irreducible] At AtQ AtM AtM1 PR Ct Pu Rd Res.blk Res.own Res.ex RVs RV
namespace Dk
theorem repT (s : List UInt8) (c : Nat) (hc : s.length * c ≤ 140737488355328) (hc' : c ≤ 9223372036854775807) : Pu Try.prog 25 #[.string (str s), .int .i64 (c : Int)] (.string (str (Lib.repeatL s c))) :=
  Pu.of_below (fun _ _ => Nat.zero_le _) fun w => (Any.strings_Repeat laysn105 repX (str s) c w hc' (by rw [str_size]; exact hc)).mono fun e w' ⟨he, hb⟩ => ⟨by rw [he]; simp [str], hb⟩
theorem mulU (n : Nat) (hn : n ≤ 1000000000) : Pu Try.prog 48 #[.int .u64 1, .int .u64 (n : Int)] (.tuple #[.int .u64 0, .int .u64 (n : Int)]) := by
  have := Pu.of_same fun w => Any.bits_Mul { laysn105 with } 1 n (by decide) (by omega) w
  rw [Nat.one_mul, Nat.div_eq_of_lt (by omega), Nat.mod_eq_of_lt (by omega)] at this
  exact this
theorem rep_hld {cs : List Value} {v : Value} {j k : Nat} (h : Hld cs 0 (List.replicate j v)) (hk : j + k ≤ cs.length) : Hld (Go.J.put cs (0 + j * 1) (List.replicate k v)) 0 (List.replicate (j + k) v) := by
  have hl : 0 + j * 1 + (List.replicate k v).length ≤ cs.length := by rw [List.length_replicate]; omega
  rw [← List.replicate_append_replicate]
  refine Hld.app (Hld.put_out hl h (.inl (by rw [List.length_replicate]; omega))) ?_
  have := Hld.put_in hl
  rw [List.length_replicate]
  rwa [show 0 + j * 1 = 0 + j by omega] at this ⊢
theorem repl_flat (t : List UInt8) : ∀ n, (List.replicate n t).flatMap Ls.fS = List.replicate n (.string (str t))
  | 0 => rfl
  | n + 1 => by rw [List.replicate_succ, List.flatMap_cons, repl_flat t n]; rfl
structure RS where
  (cs : List Value) (j : Nat)
theorem repS {m : Mem} (p : Option Addr) (c : Nat) (t : List UInt8) (n : Nat) (h1 : 1 ≤ n) (hn : n ≤ 1000000) (sl0 : Sl m Ls.fS 1 p c [t]) :
    Ct Try.prog 24 #[.slice p 1 c, .int .i64 (n : Int)] m [] (fun v m' B => m = m' ∧ ∃ b, v = .slice (some ⟨b, 0, none⟩) n n ∧ B = [.own Ls.fS 1 9 (some ⟨b, 0, none⟩) n (List.replicate n t)]) := by
  have k1 := mulU n (by omega)
  have hr0 := fun (w0 : World) (Rs : List Res) (q : Option Addr) (g a : Nat) (e : p = some ⟨g, a, none⟩) => rdb_cellsV (C := HW w0 m Rs) sl0.rdb e rfl
  obtain ⟨g0, a0, rfl⟩ : ∃ g a, p = some ⟨g, a, none⟩ := by
    have hle := sl0.le
    rw [List.length_singleton] at hle
    cases p with
    | none => have := sl0.nil rfl; omega
    | some a =>
      obtain ⟨g, o, sp⟩ := a
      have := (sl0.some _ rfl (by omega)).1
      dsimp only at this
      exact ⟨g, o, by rw [this]⟩
  have hone : ∀ v ∈ [t].flatMap Ls.fS, v.oneCell' = true := fun v hv => by
    rcases List.mem_singleton.1 (hv : v ∈ [Value.string (str t)]) with rfl; rfl
  refine Ct.enterV (by rfl) Try.func24 rfl Try.ntmps24 rfl (fun w0 Rest => ?_)
  (repeat' (first | refine zss ?_ | refine zsM ?_ | ((with_reducible first | apply AtM1.callp | apply AtQ.callp | apply At.callp); kernel_rfl; exact rfl; exact rfl; exact k1) | (((with_reducible apply At.makeN (f := Ls.fS) (([] : List UInt8))); exact inferInstance; (iterate 5 exact rfl); exact zlq; exact rfl; exact zom; exact rfl; intro b7); refine At.own_row (hp := pk0) (f := Ls.fS) (sz := 1) (E := 9) (p := some ⟨b7, 0, none⟩) (c := n) (l := List.replicate n []) (fun e _ _ => by cases e) (fun g o cs e hlc hcm hcs hh => ?_) inferInstance; injection e with e; injection e with e1 e2 _; subst e1 e2) | ((with_reducible apply At.copyB (sz := 1) ([t].flatMap Ls.fS)); exact rfl; exact rfl; exact rfl; exact rfl; (show min 1 n = 1; omega); exact rfl; exact hr0 _ _ none g0 a0 rfl; exact hone; exact pk0; (show 0 + 1 ≤ cs.length; omega); exact rfl) | (refine zsp ?_ ?_ <;> (intro hc; (try simp only [zhcs, reduceCtorEq] at hc); (try (exfalso; first | (first | omega | exact absurd rfl hc) | contradiction | omega | exact absurd rfl hc | exact absurd (by decide) hc))))))
  all_goals have hh1 : Hld (Go.J.put cs 0 ([t].flatMap Ls.fS)) 0 (List.replicate 1 (.string (str t))) := Hld.put_in (by show 0 + 1 ≤ cs.length; omega)
  all_goals have hl1 : (Go.J.put cs 0 ([t].flatMap Ls.fS)).length = cs.length := Go.J.put_len (by show 0 + 1 ≤ cs.length; omega)
  all_goals generalize Go.J.put cs 0 ([t].flatMap Ls.fS) = cs1 at hh1 hl1 ⊢
  (refine At.loopk (σ := RS) [7] (fun s F0 => (8, .int .i64 (s.j : Int)) :: F0) (fun s => m) (fun s => .blk b7 9 s.cs :: Rest) (fun s => 1 ≤ s.j ∧ s.j ≤ n ∧ s.cs.length = cs.length ∧ Hld s.cs 0 (List.replicate s.j (.string (str t)))) (fun s => n - s.j) ⟨cs1, 1⟩ (by rfl) ?_ zsubs zml zente ?_)
  · exact ⟨Nat.le_refl _, h1, hl1, hh1⟩
  rintro ⟨cs2, j⟩ ⟨hj1, hjn, hl2, hh2⟩
  dsimp only at hj1 hjn hl2 hh2 ⊢
  by_cases h : j < n
  · obtain ⟨k, hk⟩ : ∃ k, min j (n - j) = k := ⟨_, rfl⟩
    have hm : k ≤ j ∧ k ≤ n - j ∧ 1 ≤ k := by omega
    have hr := fun (w0 : World) (Rs : List Res) (hp : Pick (.blk b7 9 cs2 :: Rs) (.blk b7 9 cs2) Rs) => blk_cells (w0 := w0) (m := m) (a := 0) hp (vs := List.replicate (k) (.string (str t))) (fun i hi => by
      rw [hh2 i (by rw [List.length_replicate] at hi ⊢; omega), List.getElem?_replicate, List.getElem?_replicate]
      rw [List.length_replicate] at hi
      rw [if_pos (by omega), if_pos hi])
    have hrep := rep_hld (cs := cs2) (k := k) hh2 (by omega)
    have hlen : (Go.J.put cs2 (0 + j * 1) (List.replicate (k) (.string (str t)))).length = cs.length := (Go.J.put_len (by rw [List.length_replicate]; omega)).trans hl2
    (repeat' (first | ((with_reducible apply At.mixed (id := 9) 10 (.q 0 (.q 1 (.q 2 (.q 3 (.q 4 (.q 5 (.q 6 (.x 7 (.q 8 (.q 9 .done))))))))))); exact rfl; kernel_rfl; kernel_rfl; kernel_rfl) | refine zsx ?_ | refine zss ?_ | ((with_reducible apply AtM.bo); exact rfl; exact rfl; exact rfl) | ((first | (with_reducible first | apply At.val | apply AtQ.val) | ((with_reducible first | apply AtM1.valz | apply AtM1.val); exact rfl) | ((with_reducible apply AtM1.val); exact rfl)); (first | exact pr_slice_bl (sz := 1) (by rfl) (by rfl) (by rfl) (by rfl) (by omega) (by omega) (by omega) | exact pr_slice_bh (sz := 1) (by rfl) (by rfl) (by rfl) (by rfl) (by omega)); exact rfl) | refine zs0 ?_ | refine zx0 ?_ | ((with_reducible apply At.copyB (sz := 1) (List.replicate (k) (.string (str t)))); exact rfl; exact rfl; exact rfl; exact rfl; exact hk; (rw [List.length_replicate, Nat.mul_one]); exact hr _ _ pk0; (intro v hv; rw [List.eq_of_mem_replicate hv]; rfl); exact pk0; (rw [List.length_replicate]; omega); exact rfl) | (refine zsp ?_ ?_ <;> (intro hc; (try simp only [zhcs, reduceCtorEq] at hc); (try (exfalso; first | (first | omega | exact absurd rfl hc) | contradiction | omega | exact absurd rfl hc | exact absurd (by decide) hc))))))
    all_goals ((with_reducible refine At.reachk ((⟨Go.J.put cs2 (0 + j * 1) (List.replicate (k) (.string (str t))), j + k⟩ : RS)) ?_ ?_ ?_ ?_); exact zsubs; exact zml; exact zente; exact ⟨⟨by dsimp only; omega, by dsimp only; omega, hlen, hrep⟩, by dsimp only; omega⟩)
  · obtain rfl : j = n := by omega
    refine At.own_end (f := Ls.fS) (sz := 1) (l := List.replicate j t) (c := j) (o := 0) (g := b7) inferInstance (by rw [List.length_replicate]; omega) hcm (by omega) (by rw [repl_flat]; exact hh2) pk0 ?_
    (repeat' (first | refine zss ?_ | refine zs0 ?_ | (refine zsp ?_ ?_ <;> (intro hc; (try simp only [zhcs, reduceCtorEq] at hc); (try (exfalso; first | (first | omega | exact absurd rfl hc) | contradiction | omega | exact absurd rfl hc | exact absurd (by decide) hc))))))
    all_goals ((with_reducible apply At.retB1 (B := [.own Ls.fS 1 9 (some ⟨b7, 0, none⟩) j (List.replicate j t)])); exact rfl; exact rfl; exact zml; exact zkp; exact ⟨rfl, b7, rfl, rfl⟩)
theorem rep_eq (a : UInt8) : ∀ c, Lib.repeatL [a] c = List.replicate c a
  | 0 => rfl
  | c + 1 => by rw [Lib.repeatL, rep_eq a c]; rfl
def zs : List UInt8 := List.replicate 512 0
def mkD (n : Nat) : Dsk := ⟨List.replicate n zs, [], 0, false⟩
theorem new_ {m : Mem} (n : Nat) (h1 : 1 ≤ n) (hn : n ≤ 1000000) : Ct Try.prog 8 #[.int .i64 (n : Int)] m [] (fun v m' B => ∃ b, v = .tuple #[ptr b, .int .i64 0] ∧ B = [R b (mkD n)]) := by
  refine Ct.conv (R := fun v m' B => ∃ b p c, v = .tuple #[ptr b, .int .i64 0] ∧ B = rr b p c none 0 (mkD n)) ?_ fun v m' B _ ⟨b, p, c, h1, h3⟩ => ⟨_, ⟨b, h1, rfl⟩, fun Rest => by subst h3; exact R.close p c none 0 Rest⟩
  have k1 : Pu Try.prog 25 #[.string (str [0]), .int .i64 512] (.string (str zs)) := by
    have := repT [0] 512 (by decide) (by decide)
    rwa [rep_eq] at this
  have k2 := fun (m' : Mem) (p : Option Addr) (c : Nat) (sl : Sl m' Ls.fS 1 p c [zs]) => repS (m := m') p c zs n h1 hn sl
  refine Ct.enterV (by rfl) Try.func8 rfl Try.ntmps8 rfl (fun w0 Rest => ?_)
  (repeat' (first | refine zss ?_ | refine zsM ?_ | ((with_reducible first | apply AtM1.callp | apply AtQ.callp | apply At.callp); kernel_rfl; exact rfl; exact rfl; exact k1) | ((with_reducible apply At.litF Ls.fS [zs]); exact inferInstance; (iterate 7 exact rfl); intro b' m' hm' sl9; skip) | ((with_reducible first | apply At.c1 | apply At.c0); exact rfl; exact rfl; exact k2 _ _ _ sl9; exact ztk; kernel_rfl; rintro v' m' B' hm' ⟨rfl, b9, rfl, rfl⟩; (try replace sl9 := sl9.mono hm'); (try (have hq0 : hm' = Mem.le_refl _ := rfl; clear hq0 hm'))) | ((with_reducible apply At.box (d := 15)); exact rfl; exact rfl; exact rfl; intro b15) | (refine zsp ?_ ?_ <;> (intro hc; (try simp only [zhcs, reduceCtorEq] at hc); (try (exfalso; first | omega | contradiction | omega | exact absurd rfl hc | exact absurd (by decide) hc))))))
  all_goals refine At.own_nil fC 2 60 ?_
  all_goals have hlr : (List.replicate n zs).length = n := List.length_replicate
  all_goals ((with_reducible apply At.retB2 (B := [.blk _ 66 [.slice (some ⟨b9, 0, none⟩) n n, .slice none 0 0, .int .i64 0, .bool false], .own Ls.fS 1 9 (some ⟨b9, 0, none⟩) n (List.replicate n zs), .own fC 2 60 none 0 []])); (iterate 3 exact rfl); exact zml; exact zkp; exact ⟨_, _, _, rfl, by unfold mkD; dsimp only [rr]; rw [hlr]; rfl⟩)
end Dk
end Go.Proofs.Ytijgnbedilipdaa
namespace Go.Proofs.Ytijgnbedilipdaa
open Go Go.J
attribute [local irreducible] At AtQ PR Ct Pu
namespace Win
def ofOk (t w : Int) : Prop := 0 ≤ t ∧ t ≤ 35184372088831 ∧ 1 ≤ w ∧ w ≤ 1099511627776
instance (t w : Int) : Decidable (ofOk t w) := by unfold ofOk; infer_instance
def ofV (t w : Int) : Int := if ofOk t w then t / w else 0
def ofE (t w : Int) : Int := if ofOk t w then 0 else 1
def beginOk (i w : Int) : Prop := 1 ≤ w ∧ w ≤ 1099511627776 ∧ 0 ≤ i ∧ i ≤ 35184372088832 / w
instance (t w : Int) : Decidable (beginOk t w) := by unfold beginOk; infer_instance
def beginV (i w : Int) : Int := if beginOk i w then i * w else 0
def beginE (i w : Int) : Int := if beginOk i w then 0 else 1
def oldOk (t w n : Int) : Prop := ofOk t w ∧ 1 ≤ n ∧ n ≤ 4096
instance (t w n : Int) : Decidable (oldOk t w n) := by unfold oldOk; infer_instance
def oldV (t w n : Int) : Int := if oldOk t w n then (if 0 < t / w + 1 - n then t / w + 1 - n else 0) else 0
def oldE (t w n : Int) : Int := if oldOk t w n then 0 else 1
def slotV (i n : Int) : Int := if i < 0 ∨ n < 1 then 0 else i % n
def spanR (a b w : Int) : Bool := decide (1 ≤ w ∧ w ≤ 1099511627776 ∧ 0 ≤ a ∧ b ≤ 35184372088832 ∧ a < b)
def spanU (a b w : Int) : Bool := decide (a % w = 0 ∧ b % w = 0)
def spanE (a b w : Int) : Int := if spanR a b w then (if spanU a b w then 0 else 10) else 1
def spanA (a b w : Int) : Int := if spanR a b w && spanU a b w then a / w else 0
def spanB (a b w : Int) : Int := if spanR a b w && spanU a b w then b / w else 0
def goneV (t now w n : Int) : Bool := decide (ofE t w = 0 ∧ oldE now w n = 0 ∧ ofV t w < oldV now w n)
theorem ofE_cases (t w : Int) : (ofOk t w ∧ ofE t w = 0 ∧ ofV t w = t / w) ∨ (¬ ofOk t w ∧ ofE t w = 1 ∧ ofV t w = 0) := by
  unfold ofE ofV; by_cases h : ofOk t w <;> simp [h]
theorem ofV_bd (t w : Int) : 0 ≤ ofV t w ∧ ofV t w ≤ 35184372088831 := by
  unfold ofV; split
  · rename_i h; obtain ⟨h1, h2, h3, h4⟩ := h
    have := Int.ediv_nonneg h1 (by omega : 0 ≤ w)
    have := Int.ediv_le_self w h1
    omega
  · omega
theorem div_bd {t w : Int} (h1 : 0 ≤ t) (h3 : 1 ≤ w) : 0 ≤ t / w ∧ t / w ≤ t := ⟨Int.ediv_nonneg h1 (by omega), Int.ediv_le_self w h1⟩
theorem mod_bd {t w : Int} (h3 : 1 ≤ w) : 0 ≤ t % w ∧ t % w < w := ⟨Int.emod_nonneg t (by omega), Int.emod_lt_of_pos t (by omega)⟩
theorem mul_bd {i w : Int} (h1 : 1 ≤ w) (h2 : 0 ≤ i) (h3 : i ≤ 35184372088832 / w) : 0 ≤ i * w ∧ i * w ≤ 35184372088832 :=
  ⟨Int.mul_nonneg h2 (by omega), Int.mul_le_of_le_ediv (by omega) h3⟩
end Win
open Win
theorem back_div {t w : Int} (h : 1 ≤ w) : (t - t % w) / w = t / w := by
  have := Int.emod_add_mul_ediv t w
  rw [show t - t % w = w * (t / w) by omega, Int.mul_ediv_cancel_left _ (by omega)]
end Go.Proofs.Ytijgnbedilipdaa
namespace Go.J
open Go
theorem pr_index_agg {P : Program} {n : Nat} {F : Fr} {C : World → Prop} {x y : Operand} {t e : TypeId} {len k : Nat} {ki : IntKind} {cs : List Value} {v : Value} (hx : ev F x = some (.agg cs.toArray)) (hy : ev F y = some (.int ki (k : Int)))
    (ht : P.underlying t = some (.array len e)) (hs : sizeB P e = some 1) (hg : isAggB P e = some false) (hk : Nat.blt k len = true) (hv : nthl cs k = some v) : PR P n F C (.index t x y) v := fun _ _ _ _ _ a w ha _ => by
  have hk' : k < len := Nat.le_of_ble_eq_true hk
  have hr : ∀ w, (underlying t).run P w = .ok (.array len e) w := fun w => by simp only [underlying, program, bind, Sem.bind, Sem.run, ht]; rfl
  have hv' : cs[k]? = some v := by rw [nthl_eq] at hv; exact hv
  have : (Instr.index t (.agg cs.toArray) (.int ki (k : Int))).run P w = .ok v w := by
    unfold Instr.index
    have hb : (0 : Int) ≤ (k : Int) ∧ (k : Int) < (len : Int) := ⟨by omega, by omega⟩
    simp only [asIntOf, pure, Sem.run_bind, Sem.run, Result.andThen, hr, hb, and_self, if_true, run_sizeOf hs, Int.toNat_natCast, Nat.mul_one]
    unfold part
    simp only [Sem.run_bind, run_isAgg hg, Result.andThen]
    simp [hv', pure, Sem.run]
  simp only [execOp, ha.ev hx, ha.ev hy, Sem.run_bind]
  rw [this]
  rfl
def buildAL (P : Program) (t : TypeId) (ps : List (Nat × Value)) : Option (List Value) := match P.underlying t with
  | some (.array _ e) => match zeroL P t with
    | some z => match P.info? e with
      | some ie => match fillL (fun i => some (i * ie.size, ie.size)) z ps with
        | some r => flat r
        | none => none
      | none => none
    | none => none
  | _ => none
theorem buildAL_eq {P : Program} {t : TypeId} {ps : List (Nat × Value)} {r : List Value} (h : buildAL P t ps = some r) : P.built t ps = some r.toArray := by
  unfold buildAL at h
  unfold Program.built
  cases hu : P.underlying t with
  | none => rw [hu] at h; cases h
  | some d =>
    rw [hu] at h
    cases d <;> simp at h
    rename_i n e
    cases hz : zeroL P t with
    | none => rw [hz] at h; simp at h
    | some zs =>
      obtain ⟨i, z, hi, hzz, hzc⟩ := zeroL_spec hz
      rw [hz] at h
      simp only at h
      cases hie : P.info? e with
      | none => rw [hie] at h; simp at h
      | some ie =>
        rw [hie] at h
        simp only at h
        cases hf : fillL (fun i => some (i * ie.size, ie.size)) zs ps with
        | none => rw [hf] at h; cases h
        | some r' =>
          rw [hf] at h
          have := flat_eq _ _ h
          subst this
          simp only [hi, hzz, hie, hzc]
          exact fillL_eq _ _ _ _ hf
theorem pr_buildArr {P : Program} {n : Nat} {F : Fr} {C : World → Prop} {t : TypeId} {xs : List (Nat × Operand)} {ps : List (Nat × Value)} {r : List Value} (hx : evps F xs = some ps) (hb : buildAL P t ps = some r) : PR P n F C (.build t xs.toArray) (.agg r.toArray) := fun _ _ _ _ _ a w ha _ => by
  have e : (xs.toArray.map fun (i, x) => (i, a.eval x)) = ps.toArray := by simp [evps_map ha xs ps hx]
  simp only [execOp, e, Sem.run_bind]
  rw [run_build w t ps.toArray r.toArray (by simpa using buildAL_eq hb)]
  rfl
theorem nine {L : List Int} (h : L.length = 9) : ∃ r a b d x y w c g, L = [r, a, b, d, x, y, w, c, g] := by
  match L, h with
  | [r, a, b, d, x, y, w, c, g], _ => exact ⟨r, a, b, d, x, y, w, c, g, rfl⟩
end Go.J
namespace Go.Proofs.Ytijgnbedilipdaa
open Go Go.J
attribute [local irreducible] At AtQ AtM AtM1 PR Ct Pu Rd Res.blk Res.own Res.ex RVs RV
namespace Conf
abbrev gi : Int → Value := fun x => .int .i64 x
abbrev cv (L : List Int) : Value := .agg (L.map gi).toArray
theorem in_ (n a b : Int) : Pu Try.prog 45 #[.int .i64 n, .int .i64 a, .int .i64 b] (.bool (decide (a ≤ n ∧ n ≤ b))) := Pu.intro fun m => by
  refine Ct.enterV (by rfl) Try.func45 rfl Try.ntmps45 rfl (fun w0 Rest => ?_)
  (repeat' (first | refine zss ?_ | refine zs0 ?_ | (refine zsp ?_ ?_ <;> (intro hc; (try simp only [zhcs, reduceCtorEq] at hc); (try (exfalso; first | contradiction | omega | exact absurd rfl hc | exact absurd (by decide) hc))))))
  all_goals ((with_reducible apply At.retB1 (B := [])); exact rfl; exact rfl; exact zml; exact zkp; exact ⟨congrArg Value.bool (by simp [hc]), rfl, rfl⟩)
theorem in64 (n a b : Int) : Pu Try.prog 46 #[.int .i64 n, .int .i64 a, .int .i64 b] (.bool (decide (a ≤ n ∧ n ≤ b))) := Pu.intro fun m => by
  refine Ct.enterV (by rfl) Try.func46 rfl Try.ntmps46 rfl (fun w0 Rest => ?_)
  (repeat' (first | refine zss ?_ | refine zs0 ?_ | (refine zsp ?_ ?_ <;> (intro hc; (try simp only [zhcs, reduceCtorEq] at hc); (try (exfalso; first | contradiction | omega | exact absurd rfl hc | exact absurd (by decide) hc))))))
  all_goals ((with_reducible apply At.retB1 (B := [])); exact rfl; exact rfl; exact zml; exact zkp; exact ⟨congrArg Value.bool (by simp [hc]), rfl, rfl⟩)
theorem parts (n by_ : Int) (h1 : 1 ≤ n) (h2 : n ≤ 100000) (h3 : 1 ≤ by_) (h4 : by_ ≤ 1000) : Pu Try.prog 66 #[.int .i64 n, .int .i64 by_] (.int .i64 ((n + by_ - 1) / by_)) := Pu.intro fun m => by
  refine Ct.enterV (by rfl) Try.func66 rfl Try.ntmps66 rfl (fun w0 Rest => ?_)
  (repeat' (first | refine zss ?_ | refine zs0 ?_ | (refine zsp ?_ ?_ <;> (intro hc; (try simp only [zhcs, reduceCtorEq] at hc); (try (exfalso; first | omega | contradiction | omega | exact absurd rfl hc | exact absurd (by decide) hc))))))
  all_goals ((with_reducible apply At.retB1 (B := [])); exact rfl; exact rfl; exact zml; exact zkp; exact ⟨rfl, rfl, rfl⟩)
def acc (L : List Int) : Nat → Int
  | 0 => 1 + (L[0]! + 16 - 1) / 16
  | s + 1 => acc L s + (L[4 + s]! + 4 - 1) / 4
def plc (L : List Int) : Int := acc L 3
/-- numbers that may be -/
def okA (L : List Int) (s : Nat) : Prop := (1 ≤ L[0]! ∧ L[0]! ≤ 4096) ∧ (1 ≤ L[7]! ∧ L[7]! ≤ 65536) ∧ (1 ≤ L[8]! ∧ L[8]! ≤ 8192) ∧ ∀ i, i < s → (1 ≤ L[1 + i]! ∧ L[1 + i]! ≤ 1099511627776) ∧ (1 ≤ L[4 + i]! ∧ L[4 + i]! ≤ 4096)
instance (L : List Int) (s : Nat) : Decidable (okA L s) := by unfold okA; infer_instance
theorem okA_succ (L : List Int) (s : Nat) : okA L (s + 1) ↔ okA L s ∧ (1 ≤ L[1 + s]! ∧ L[1 + s]! ≤ 1099511627776) ∧ (1 ≤ L[4 + s]! ∧ L[4 + s]! ≤ 4096) := by
  unfold okA
  constructor
  · rintro ⟨h1, h2, h3, h4⟩
    exact ⟨⟨h1, h2, h3, fun i hi => h4 i (by omega)⟩, h4 s (by omega)⟩
  · rintro ⟨⟨h1, h2, h3, h4⟩, h5⟩
    refine ⟨h1, h2, h3, fun i hi => ?_⟩
    by_cases e : i = s
    · subst e; exact h5
    · exact h4 i (by omega)
theorem place (L : List Int) (hL : L.length = 9) (h : okA L 3) : Pu Try.prog 47 #[cv L] (.int .i64 (plc L)) := Pu.intro fun m => by
  obtain ⟨r, a, b, d, x, y, w, c, g, rfl⟩ := nine hL
  obtain ⟨⟨r1, r2⟩, _, _, h4⟩ := h
  obtain ⟨_, x1, x2⟩ := h4 0 (by decide)
  obtain ⟨_, y1, y2⟩ := h4 1 (by decide)
  obtain ⟨_, w1, w2⟩ := h4 2 (by decide)
  replace x1 : 1 ≤ x := x1
  replace x2 : x ≤ 4096 := x2
  replace y1 : 1 ≤ y := y1
  replace y2 : y ≤ 4096 := y2
  replace w1 : 1 ≤ w := w1
  replace w2 : w ≤ 4096 := w2
  replace r1 : 1 ≤ r := r1
  replace r2 : r ≤ 4096 := r2
  have e0 : acc [r, a, b, d, x, y, w, c, g] 0 = 1 + (r + 16 - 1) / 16 := rfl
  have e1 : acc [r, a, b, d, x, y, w, c, g] 1 = acc [r, a, b, d, x, y, w, c, g] 0 + (x + 4 - 1) / 4 := rfl
  have e2 : acc [r, a, b, d, x, y, w, c, g] 2 = acc [r, a, b, d, x, y, w, c, g] 1 + (y + 4 - 1) / 4 := rfl
  have e3 : acc [r, a, b, d, x, y, w, c, g] 3 = acc [r, a, b, d, x, y, w, c, g] 2 + (w + 4 - 1) / 4 := rfl
  have p0 := parts r 16 r1 (by omega) (by decide) (by decide)
  have p1 := parts x 4 x1 (by omega) (by decide) (by decide)
  have p2 := parts y 4 y1 (by omega) (by decide) (by decide)
  have p3 := parts w 4 w1 (by omega) (by decide) (by decide)
  show Ct _ _ _ _ _ (fun v m' B => v = .int .i64 (acc [r, a, b, d, x, y, w, c, g] 3) ∧ _ ∧ _)
  unfold cv
  simp only [List.map]
  refine Ct.enterV (by rfl) Try.func47 rfl Try.ntmps47 rfl (fun w0 Rest => ?_)
  (repeat' (first | refine zss ?_ | refine zs0 ?_ | ((with_reducible first | apply AtM1.callp | apply AtQ.callp | apply At.callp); kernel_rfl; exact rfl; exact rfl; exact p0) | ((with_reducible apply At.box (d := 1)); exact rfl; exact rfl; exact rfl; intro b1) | (refine zsp ?_ ?_ <;> (intro hc; (try simp only [zhcs, reduceCtorEq] at hc); (try (exfalso; first | omega | contradiction | omega | exact absurd rfl hc | exact absurd (by decide) hc))))))
  trace_state
  (refine At.loopk (σ := Nat) [11] (fun s F0 => (12, .int .i64 (s : Int)) :: (3, .int .i64 (acc [r, a, b, d, x, y, w, c, g] s)) :: F0) (fun s => m) (fun s => .blk b1 25 [gi r, gi a, gi b, gi d, gi x, gi y, gi w, gi c, gi g] :: Rest) (fun s => s ≤ 3) (fun s => 3 - s) 0 (by rfl) ?_ zsubs zml zente ?_)
  · exact Nat.zero_le _
  intro s hs
  rcases (show s = 0 ∨ s = 1 ∨ s = 2 ∨ s = 3 by omega) with rfl | rfl | rfl | rfl
  · (repeat' (first | refine zss ?_ | ((first | (with_reducible first | apply At.val | apply AtQ.val)); (exact pr_index_agg (k := 0) (by rfl) (by rfl) (by rfl) (by rfl) (by rfl) (by rfl) (by rfl)); exact rfl) | refine zs0 ?_ | ((with_reducible first | apply AtM1.callp | apply AtQ.callp | apply At.callp); kernel_rfl; exact rfl; exact rfl; exact p1) | ((with_reducible apply At.box (d := 1)); exact rfl; exact rfl; exact rfl; intro b1) | (refine zsp ?_ ?_ <;> (intro hc; (try simp only [zhcs, reduceCtorEq] at hc); (try (exfalso; first | omega | contradiction | omega | exact absurd rfl hc | exact absurd (by decide) hc))))))
    all_goals ((with_reducible refine At.reachk (1) ?_ ?_ ?_ ?_); exact zsubs; exact zml; exact zente; exact ⟨by decide, by decide⟩)
  · (repeat' (first | refine zss ?_ | ((first | (with_reducible first | apply At.val | apply AtQ.val)); (exact pr_index_agg (k := 1) (by rfl) (by rfl) (by rfl) (by rfl) (by rfl) (by rfl) (by rfl)); exact rfl) | refine zs0 ?_ | ((with_reducible first | apply AtM1.callp | apply AtQ.callp | apply At.callp); kernel_rfl; exact rfl; exact rfl; exact p2) | ((with_reducible apply At.box (d := 1)); exact rfl; exact rfl; exact rfl; intro b1) | (refine zsp ?_ ?_ <;> (intro hc; (try simp only [zhcs, reduceCtorEq] at hc); (try (exfalso; first | omega | contradiction | omega | exact absurd rfl hc | exact absurd (by decide) hc))))))
    all_goals ((with_reducible refine At.reachk (2) ?_ ?_ ?_ ?_); exact zsubs; exact zml; exact zente; exact ⟨by decide, by decide⟩)
  · (repeat' (first | refine zss ?_ | ((first | (with_reducible first | apply At.val | apply AtQ.val)); (exact pr_index_agg (k := 2) (by rfl) (by rfl) (by rfl) (by rfl) (by rfl) (by rfl) (by rfl)); exact rfl) | refine zs0 ?_ | ((with_reducible first | apply AtM1.callp | apply AtQ.callp | apply At.callp); kernel_rfl; exact rfl; exact rfl; exact p3) | ((with_reducible apply At.box (d := 1)); exact rfl; exact rfl; exact rfl; intro b1) | (refine zsp ?_ ?_ <;> (intro hc; (try simp only [zhcs, reduceCtorEq] at hc); (try (exfalso; first | omega | contradiction | omega | exact absurd rfl hc | exact absurd (by decide) hc))))))
    all_goals ((with_reducible refine At.reachk (3) ?_ ?_ ?_ ?_); exact zsubs; exact zml; exact zente; exact ⟨by decide, by decide⟩)
  · (repeat' (first | refine zss ?_ | refine zs0 ?_ | ((with_reducible apply At.box (d := 1)); exact rfl; exact rfl; exact rfl; intro b1) | (refine zsp ?_ ?_ <;> (intro hc; (try simp only [zhcs, reduceCtorEq] at hc); (try (exfalso; first | omega | contradiction | omega | exact absurd rfl hc | exact absurd (by decide) hc))))))
    all_goals ((with_reducible apply At.retB1 (B := [])); exact rfl; exact rfl; exact zml; exact zkp; exact ⟨rfl, rfl, rfl⟩)
end Conf
end Go.Proofs.Ytijgnbedilipdaa
