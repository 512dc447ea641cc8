/- The judgement of states: what is known of a frame's slots (a list), of memory that stays as it is (m), and of what the function owns (a list of resources); the rules of the plain code. -/
import Derived.WalkKit
import Derived.Deep.Quiet
import Derived.KernelRfl
set_option linter.unusedSimpArgs false
set_option linter.unusedVariables false
set_option linter.unusedSectionVars false
set_option maxRecDepth 20000
namespace Go.J
open Go

def flat {α : Type} : List α → Option (List α)
  | [] => some []
  | x :: xs => match flat xs with
    | some r => some (x :: r)
    | none => none
theorem flat_eq {α : Type} : ∀ (l r : List α), flat l = some r → r = l
  | [], _, h => by cases h; rfl
  | x :: xs, r, h => by
    simp only [flat] at h
    cases hh : flat xs with
    | none => rw [hh] at h; cases h
    | some r' => rw [hh] at h; cases h; rw [flat_eq xs r' hh]
theorem flat_self {α : Type} : ∀ (l : List α), flat l = some l
  | [] => rfl
  | x :: xs => by simp only [flat, flat_self xs]

abbrev Fr := List (Nat × Value)

def look (t : Nat) : Fr → Option Value
  | [] => none
  | (u, v) :: r => match Nat.beq u t with
    | true => some v
    | false => look t r

structure HF (n : Nat) (F : Fr) (a : Act) : Prop where
  dfr : a.defers = []
  siz : a.tmps.size = n
  val : ∀ t v, look t F = some v → a.tmps.getD t undef = v

theorem look_cons (t u : Nat) (v : Value) (r : Fr) : look t ((u, v) :: r) = if u = t then some v else look t r := by
  by_cases h : u = t
  · simp [look, h]
  · have : Nat.beq u t = false := by
      cases hb : Nat.beq u t
      · rfl
      · exact absurd (Nat.eq_of_beq_eq_true hb) h
    simp [look, this, h]

theorem HF.put {n : Nat} {F : Fr} {a : Act} {d : Nat} {v : Value} (h : HF n F a) (hd : Nat.blt d n = true) : HF n ((d, v) :: F) (a.put (some d) v) := by
  have hd' : d < n := Nat.lt_of_lt_of_le (Nat.lt_succ_self d) (Nat.le_of_ble_eq_true hd)
  refine ⟨h.dfr, by simp [Act.put, h.siz], fun t u hu => ?_⟩
  rw [look_cons] at hu
  by_cases e : d = t
  · subst e
    rw [if_pos rfl] at hu
    cases hu
    simp [Act.put, h.siz, hd']
  · rw [if_neg e] at hu
    have := h.val t u hu
    simp only [Act.put, Array.getD_eq_getD_getElem?] at this ⊢
    rw [Array.getElem?_setIfInBounds_ne e]
    exact this

theorem HF.putN {n : Nat} {F : Fr} {a : Act} {v : Value} (h : HF n F a) : HF n F (a.put none v) := h

theorem HF.note {n : Nat} {F : Fr} {a : Act} {t : Nat} {v v' : Value} (h : HF n F a) (ht : look t F = some v) (e : v = v') : HF n ((t, v') :: F) a := by
  refine ⟨h.dfr, h.siz, fun t' u hu => ?_⟩
  rw [look_cons] at hu
  by_cases e' : t = t'
  · subst e'
    rw [if_pos rfl] at hu
    cases hu
    rw [h.val t v ht, e]
  · rw [if_neg e'] at hu
    exact h.val t' u hu

/-- every entry of the first list is known by the second -/
def Subs : Fr → Fr → Prop
  | [], _ => True
  | (t, v) :: r, F => look t F = some v ∧ Subs r F

theorem Subs.look {F' F : Fr} (h : Subs F' F) {t : Nat} {v : Value} (ht : look t F' = some v) : look t F = some v := by
  induction F' with
  | nil => cases ht
  | cons p r ih =>
    obtain ⟨u, x⟩ := p
    rw [look_cons] at ht
    by_cases e : u = t
    · subst e
      rw [if_pos rfl] at ht
      cases ht
      exact h.1
    · rw [if_neg e] at ht
      exact ih h.2 ht

theorem HF.weaken {n : Nat} {F F' : Fr} {a : Act} (h : HF n F a) (hs : Subs F' F) : HF n F' a :=
  ⟨h.dfr, h.siz, fun t v ht => h.val t v (hs.look ht)⟩

def ev (F : Fr) : Operand → Option Value
  | .tmp t => look t F
  | .const v => some v
  | .global g => some (.pointer (some ⟨g, 0, none⟩))
  | .func f => some (.func (.func f) #[] #[])

theorem HF.ev {n : Nat} {F : Fr} {a : Act} {x : Operand} {v : Value} (h : HF n F a) (hx : J.ev F x = some v) : a.eval x = v := by
  cases x with
  | tmp t => exact h.val t v hx
  | const u => cases hx; rfl
  | global g => cases hx; rfl
  | func f => cases hx; rfl

/-! ### memory -/
abbrev Mem := Nat → Option Obj

def Mem.le (m m' : Mem) : Prop := ∀ k o, m k = some o → m' k = some o
theorem Mem.le_refl (m : Mem) : m.le m := fun _ _ h => h
theorem Mem.le_trans {a b c : Mem} (h : a.le b) (k : b.le c) : a.le c := fun i o hi => k i o (h i o hi)

structure Res where
  p : World → (Nat → Prop) → Prop
  loc : ∀ {w w' : World} {s : Nat → Prop}, p w s → (∀ k, s k → w'.heap[k]? = w.heap[k]?) → p w' s
  dom : ∀ {w : World} {s : Nat → Prop} {k : Nat}, p w s → s k → k < w.heap.size

def Sat : List Res → World → (Nat → Prop) → Prop
  | [], _, s => ∀ k, ¬ s k
  | R :: Rs, w, s => ∃ s1 s2 : Nat → Prop, R.p w s1 ∧ Sat Rs w s2 ∧ (∀ k, ¬ (s1 k ∧ s2 k)) ∧ (∀ k, s k ↔ s1 k ∨ s2 k)

theorem Sat.loc {Rs : List Res} {w w' : World} {s : Nat → Prop} (h : Sat Rs w s) (he : ∀ k, s k → w'.heap[k]? = w.heap[k]?) : Sat Rs w' s := by
  induction Rs generalizing s with
  | nil => exact h
  | cons R Rs ih =>
    obtain ⟨s1, s2, h1, h2, hd, hs⟩ := h
    exact ⟨s1, s2, R.loc h1 (fun k hk => he k ((hs k).2 (.inl hk))), ih h2 (fun k hk => he k ((hs k).2 (.inr hk))), hd, hs⟩

theorem Sat.dom {Rs : List Res} {w : World} {s : Nat → Prop} (h : Sat Rs w s) {k : Nat} (hk : s k) : k < w.heap.size := by
  induction Rs generalizing s with
  | nil => exact absurd hk (h k)
  | cons R Rs ih =>
    obtain ⟨s1, s2, h1, h2, hd, hs⟩ := h
    rcases (hs k).1 hk with h' | h'
    · exact R.dom h1 h'
    · exact ih h2 h'

structure HW (w0 : World) (m : Mem) (Rs : List Res) (w : World) : Prop where
  os : w.os = w0.os
  tape : w.tape = w0.tape
  output : w.output = w0.output
  size : w0.heap.size ≤ w.heap.size
  mem : ∀ k o, m k = some o → w.heap[k]? = some o
  res : ∃ s, Sat Rs w s ∧ ∀ k, s k → m k = none

/-- one resource out of a list -/
inductive Pick : List Res → Res → List Res → Prop
  | here {R : Res} {Rs : List Res} : Pick (R :: Rs) R Rs
  | there {X R : Res} {Rs Rs' : List Res} : Pick Rs R Rs' → Pick (X :: Rs) R (X :: Rs')

theorem Sat.pick {Rs Rs' : List Res} {R : Res} (hp : Pick Rs R Rs') {w : World} {s : Nat → Prop} : Sat Rs w s ↔ Sat (R :: Rs') w s := by
  induction hp generalizing s with
  | here => exact Iff.rfl
  | @there X R Rs Rs' hp ih =>
    constructor
    · rintro ⟨s1, s2, h1, h2, hd, hs⟩
      obtain ⟨s3, s4, h3, h4, hd', hs'⟩ := (ih).1 h2
      refine ⟨s3, fun k => s1 k ∨ s4 k, h3, ⟨s1, s4, h1, h4, fun k ⟨x, y⟩ => hd k ⟨x, (hs' k).2 (.inr y)⟩, fun k => Iff.rfl⟩, ?_, ?_⟩
      · rintro k ⟨x, y | y⟩
        · exact hd k ⟨y, (hs' k).2 (.inl x)⟩
        · exact hd' k ⟨x, y⟩
      · intro k
        rw [hs, hs']
        constructor
        · rintro (x | x | x)
          · exact .inr (.inl x)
          · exact .inl x
          · exact .inr (.inr x)
        · rintro (x | x | x)
          · exact .inr (.inl x)
          · exact .inl x
          · exact .inr (.inr x)
    · rintro ⟨s3, s5, h3, ⟨s1, s4, h1, h4, hd', hs'⟩, hd, hs⟩
      refine ⟨s1, fun k => s3 k ∨ s4 k, h1, (ih).2 ⟨s3, s4, h3, h4, fun k ⟨x, y⟩ => hd k ⟨x, (hs' k).2 (.inr y)⟩, fun k => Iff.rfl⟩, ?_, ?_⟩
      · rintro k ⟨x, y | y⟩
        · exact hd k ⟨y, (hs' k).2 (.inl x)⟩
        · exact hd' k ⟨x, y⟩
      · intro k
        rw [hs, hs']
        constructor
        · rintro (x | x | x)
          · exact .inr (.inl x)
          · exact .inl x
          · exact .inr (.inr x)
        · rintro (x | x | x)
          · exact .inr (.inl x)
          · exact .inl x
          · exact .inr (.inr x)

/-- what holds of a state's lists holds of others -/
def Ent (Rs Rs' : List Res) : Prop := ∀ w s, Sat Rs w s → ∃ s', Sat Rs' w s' ∧ ∀ k, s' k → s k

theorem Ent.refl (Rs : List Res) : Ent Rs Rs := fun _ s h => ⟨s, h, fun _ x => x⟩
theorem Ent.trans {A B C : List Res} (h : Ent A B) (h' : Ent B C) : Ent A C := fun w s hs =>
  let ⟨s1, h1, e1⟩ := h w s hs
  let ⟨s2, h2, e2⟩ := h' w s1 h1
  ⟨s2, h2, fun k x => e1 k (e2 k x)⟩
theorem Ent.of_pick {Rs Rs' : List Res} {R : Res} (hp : Pick Rs R Rs') : Ent Rs (R :: Rs') := fun _ s h => ⟨s, (Sat.pick hp).1 h, fun _ x => x⟩
theorem Ent.to_pick {Rs Rs' : List Res} {R : Res} (hp : Pick Rs R Rs') : Ent (R :: Rs') Rs := fun _ s h => ⟨s, (Sat.pick hp).2 h, fun _ x => x⟩
theorem Ent.drop (R : Res) (Rs : List Res) : Ent (R :: Rs) Rs := fun _ _ ⟨_, s2, _, h2, _, hs⟩ => ⟨s2, h2, fun k x => (hs k).2 (.inr x)⟩
theorem Ent.cons (R : Res) {Rs Rs' : List Res} (h : Ent Rs Rs') : Ent (R :: Rs) (R :: Rs') := fun w _ ⟨s1, s2, h1, h2, hd, hs⟩ =>
  let ⟨s3, h3, e3⟩ := h w s2 h2
  ⟨fun k => s1 k ∨ s3 k, ⟨s1, s3, h1, h3, fun k ⟨x, y⟩ => hd k ⟨x, e3 k y⟩, fun _ => Iff.rfl⟩, fun k x => (hs k).2 (x.imp id (e3 k))⟩
/-- all of the second are among the first, in whatever order -/
theorem Ent.take {Rs Rs' Rs2 : List Res} {R : Res} (hp : Pick Rs R Rs') (h : Ent Rs' Rs2) : Ent Rs (R :: Rs2) := (Ent.of_pick hp).trans (Ent.cons R h)
theorem Ent.nil (Rs : List Res) : Ent Rs [] := fun _ _ _ => ⟨fun _ => False, fun _ h => h, fun _ h => h.elim⟩

theorem HW.ent {w0 : World} {m : Mem} {Rs Rs' : List Res} {w : World} (h : HW w0 m Rs w) (he : Ent Rs Rs') : HW w0 m Rs' w :=
  let ⟨s, hs, hm⟩ := h.res
  let ⟨s', hs', e⟩ := he w s hs
  ⟨h.os, h.tape, h.output, h.size, h.mem, s', hs', fun k x => hm k (e k x)⟩

theorem HW.weak {w0 : World} {m m' : Mem} {Rs : List Res} {w : World} (h : HW w0 m' Rs w) (hm : m.le m') : HW w0 m Rs w :=
  let ⟨s, hs, he⟩ := h.res
  ⟨h.os, h.tape, h.output, h.size, fun k o x => h.mem k o (hm k o x), s, hs, fun k x => by
    have := he k x
    cases hk : m k with
    | none => rfl
    | some o => rw [hm k o hk] at this; cases this⟩

theorem HW.drawn {w0 : World} {m : Mem} {Rs : List Res} {w : World} (h : HW w0 m Rs w) (n : Nat) : HW w0 m Rs { w with drawn := n } :=
  let ⟨s, hs, he⟩ := h.res
  ⟨h.os, h.tape, h.output, h.size, h.mem, s, Sat.loc hs (fun _ _ => rfl), he⟩

theorem HW.get {w0 : World} {m : Mem} {Rs Rs' : List Res} {R : Res} {w : World} (h : HW w0 m Rs w) (hp : Pick Rs R Rs') : ∃ s, R.p w s :=
  let ⟨_, hs, _⟩ := (h.ent (Ent.of_pick hp)).res
  let ⟨s1, _, h1, _⟩ := hs
  ⟨s1, h1⟩

/-- a state: 'K' holds wherever the lists do -/
def At (n : Nat) (w0 : World) (F : Fr) (m : Mem) (Rs : List Res) (K : Act → World → Prop) : Prop :=
  ∀ a w, HF n F a → HW w0 m Rs w → K a w

/-- A call's contract, the frame baked in. -/
def Ct (P : Program) (f : FuncId) (args : Array Value) (m : Mem) (A : List Res) (R : Value → Mem → List Res → Prop) : Prop :=
  ∀ w0 Rest w, HW w0 m (A ++ Rest) w → Calls P f args w fun e w' => ∃ v m' B, e = .returned v ∧ m.le m' ∧ R v m' B ∧ HW w0 m' (B ++ Rest) w'

theorem Ct.mono {P : Program} {f : FuncId} {args : Array Value} {m : Mem} {A : List Res} {R R' : Value → Mem → List Res → Prop} (h : Ct P f args m A R) (hr : ∀ v m' B, m.le m' → R v m' B → R' v m' B) : Ct P f args m A R' :=
  fun w0 Rest w hw => (h w0 Rest w hw).mono fun _ _ ⟨v, m', B, he, hm, hR, hw'⟩ => ⟨v, m', B, he, hm, hr v m' B hm hR, hw'⟩

section
variable {P : Program} {n : Nat} {w0 : World} {F : Fr} {m : Mem} {Rs : List Res} {Q : Exit → Act → World → Prop} {K : Act → World → Prop}

theorem At.frame {F' : Fr} (hs : Subs F' F) (h : At n w0 F' m Rs K) : At n w0 F m Rs K := fun a w ha hw => h a w (ha.weaken hs) hw
theorem At.ent {Rs' : List Res} (he : Ent Rs Rs') (h : At n w0 F m Rs' K) : At n w0 F m Rs K := fun a w ha hw => h a w ha (hw.ent he)
theorem At.weak {m' : Mem} (hm : m'.le m) (h : At n w0 F m' Rs K) : At n w0 F m Rs K := fun a w ha hw => h a w ha (hw.weak hm)
theorem At.note {t : Nat} {v v' : Value} (ht : look t F = some v) (e : v = v') (h : At n w0 ((t, v') :: F) m Rs K) : At n w0 F m Rs K := fun a w ha hw => h a w (ha.note ht e) hw

/-! ### code -/
theorem At.seq {x y : Code} (h : At n w0 F m Rs (x.wp P (Exit.then (y.wp P Q) Q))) : At n w0 F m Rs ((Code.seq x y).wp P Q) := fun a w ha hw => wp_seq (h a w ha hw)
theorem At.skip (h : At n w0 F m Rs (Q .normal)) : At n w0 F m Rs (Code.skip.wp P Q) := fun a w ha hw => wp_skip (h a w ha hw)
theorem At.ret (h : At n w0 F m Rs (Q .ret)) : At n w0 F m Rs (Code.ret.wp P Q) := fun a w ha hw => wp_ret (h a w ha hw)
theorem At.exit {id : Nat} (h : At n w0 F m Rs (Q (.exit id))) : At n w0 F m Rs ((Code.exit id).wp P Q) := fun a w ha hw => wp_exit (h a w ha hw)
theorem At.block {id : Nat} {c : Code} (h : At n w0 F m Rs (c.wp P (Exit.inBlock id Q))) : At n w0 F m Rs ((Code.block id c).wp P Q) := fun a w ha hw => wp_block (h a w ha hw)
theorem At.cond {c : Operand} {x y : Code} {b : Bool} (hc : ev F c = some (.bool b)) (ht : b = true → At n w0 F m Rs (x.wp P Q)) (hf : b = false → At n w0 F m Rs (y.wp P Q)) :
    At n w0 F m Rs ((Code.cond c x y).wp P Q) := fun a w ha hw => wp_cond_split (ha.ev hc) (fun e => ht e a w ha hw) (fun e => hf e a w ha hw)
theorem At.cond_t {c : Operand} {x y : Code} (hc : ev F c = some (.bool true)) (h : At n w0 F m Rs (x.wp P Q)) : At n w0 F m Rs ((Code.cond c x y).wp P Q) := fun a w ha hw => wp_cond_true (ha.ev hc) (h a w ha hw)
theorem At.cond_f {c : Operand} {x y : Code} (hc : ev F c = some (.bool false)) (h : At n w0 F m Rs (y.wp P Q)) : At n w0 F m Rs ((Code.cond c x y).wp P Q) := fun a w ha hw => wp_cond_false (ha.ev hc) (h a w ha hw)
theorem At.then_n (h : At n w0 F m Rs K) : At n w0 F m Rs (Exit.then K Q .normal) := h
theorem At.then_e {id : Nat} (h : At n w0 F m Rs (Q (.exit id))) : At n w0 F m Rs (Exit.then K Q (.exit id)) := h
theorem At.then_r (h : At n w0 F m Rs (Q .ret)) : At n w0 F m Rs (Exit.then K Q .ret) := h
theorem At.inb_n {id : Nat} (h : At n w0 F m Rs (Q .normal)) : At n w0 F m Rs (Exit.inBlock id Q .normal) := h
theorem At.inb_r {id : Nat} (h : At n w0 F m Rs (Q .ret)) : At n w0 F m Rs (Exit.inBlock id Q .ret) := h
theorem At.inb_here {id : Nat} (h : At n w0 F m Rs (Q .normal)) : At n w0 F m Rs (Exit.inBlock id Q (.exit id)) := fun a w ha hw => by
  simp only [Exit.inBlock, if_true]; exact h a w ha hw
theorem At.inb_past {id id' : Nat} (hne : Nat.beq id' id = false) (h : At n w0 F m Rs (Q (.exit id'))) : At n w0 F m Rs (Exit.inBlock id Q (.exit id')) := fun a w ha hw => by
  have : ¬ id' = id := fun e => by subst e; simp at hne
  simp only [Exit.inBlock, this, if_false]; exact h a w ha hw

/-- a place where ways meet: it is enough that each comes to one of the states 'F' x', .. -/
theorem At.seq_cut {x y : Code} {σ : Type} (Fx : σ → Fr) (mx : σ → Mem) (Rx : σ → List Res) (I : σ → Prop)
    (hx : At n w0 F m Rs (x.wp P (Exit.then (fun a w => ∃ s, I s ∧ HF n (Fx s) a ∧ HW w0 (mx s) (Rx s) w) Q)))
    (hy : ∀ s, I s → At n w0 (Fx s) (mx s) (Rx s) (y.wp P Q)) : At n w0 F m Rs ((Code.seq x y).wp P Q) := fun a w ha hw =>
  wp_seq (Code.wp_mono (fun e a' w' q => by
    cases e <;> first | exact q | (obtain ⟨s, hI, h1, h2⟩ := q; exact hy s hI a' w' h1 h2)) (hx a w ha hw))

/-- a round's end, or a cut's: the state is one of those -/
theorem At.reach {σ : Type} {Fx : σ → Fr} {mx : σ → Mem} {Rx : σ → List Res} {I : σ → Prop} (s : σ) (hI : I s) (hF : Subs (Fx s) F) (hm : (mx s).le m) (hR : Ent Rs (Rx s)) :
    At n w0 F m Rs (fun a w => ∃ s, I s ∧ HF n (Fx s) a ∧ HW w0 (mx s) (Rx s) w) := fun _ _ ha hw => ⟨s, hI, ha.weaken hF, (hw.ent hR).weak hm⟩

/-- a loop: its states 's', what holds of them, and what goes down -/
theorem At.loop {c : Code} {σ : Type} (Fx : σ → Fr) (mx : σ → Mem) (Rx : σ → List Res) (I : σ → Prop) (μ : σ → Nat) (s0 : σ) (h0 : I s0) (hF : Subs (Fx s0) F) (hm : (mx s0).le m) (hR : Ent Rs (Rx s0))
    (round : ∀ s, I s → At n w0 (Fx s) (mx s) (Rx s) (c.wp P (Exit.then (fun a w => ∃ s', (I s' ∧ μ s' < μ s) ∧ HF n (Fx s') a ∧ HW w0 (mx s') (Rx s') w) Q))) :
    At n w0 F m Rs ((Code.loop c).wp P Q) := by
  intro a w ha hw
  intro b k cs
  have key : ∀ N s a w, μ s = N → I s → HF n (Fx s) a → HW w0 (mx s) (Rx s) w →
      ∃ e a' w', Q e a' w' ∧ Arrives P (lone (b.at a (.code c :: .inLoop c :: k)) cs w) b k cs e a' w' := by
    intro N
    induction N using Nat.strongRecOn with
    | _ N ih =>
      intro s a w hN hI ha hw
      obtain ⟨e, a1, w1, hq, harr⟩ := round s hI a w ha hw b (.inLoop c :: k) cs
      cases e with
      | normal =>
        obtain ⟨s', ⟨hI', hlt⟩, h1, h2⟩ := hq
        obtain ⟨e, a2, w2, hq2, harr2⟩ := ih (μ s') (hN ▸ hlt) s' a1 w1 rfl hI' h1 h2
        exact ⟨e, a2, w2, hq2, .of_steps (Steps.trans harr (.one step_inLoop)) harr2⟩
      | exit id => exact ⟨_, a1, w1, hq, .pass (x := .inLoop c) rfl (fun _ _ => .inl (by simp)) harr⟩
      | goto l => exact ⟨_, a1, w1, hq, .pass (x := .inLoop c) rfl (fun _ _ => .inl (by simp)) harr⟩
      | ret => exact ⟨_, a1, w1, hq, .pass (x := .inLoop c) rfl (fun _ _ => .inl (by simp)) harr⟩
      | panic ch => exact ⟨_, a1, w1, hq, .pass (x := .inLoop c) rfl (fun _ _ => .inl (by simp)) harr⟩
      | outgrown => exact ⟨_, a1, w1, hq, .pass (x := .inLoop c) rfl (fun _ _ => .inl (by simp)) harr⟩
  obtain ⟨e, a', w', hq, harr⟩ := key _ s0 a w rfl h0 (ha.weaken hF) ((hw.ent hR).weak hm)
  exact ⟨e, a', w', hq, .of_steps (.one step_loop) harr⟩

/-! ### regions -/
theorem At.region {id : Nat} {l : List Oper} (h : At n w0 F m Rs (wpList P l.toArray Q l)) : At n w0 F m Rs ((Code.region id l.toArray false).wp P Q) := fun a w ha hw => wp_region_lit (h a w ha hw)
theorem At.region' {id : Nat} {ops : Array Oper} (l : List Oper) (e : ops = l.toArray) (h : At n w0 F m Rs (wpList P l.toArray Q l)) : At n w0 F m Rs ((Code.region id ops false).wp P Q) := by
  subst e; exact At.region h
theorem At.nil {ops : Array Oper} (h : At n w0 F m Rs (Q .normal)) : At n w0 F m Rs (wpList P ops Q []) := fun a w ha hw => wpList_nil (h a w ha hw)

/-- an operation that yields a value and leaves the world as it is, wherever 'C' holds -/
def PR (P : Program) (n : Nat) (F : Fr) (C : World → Prop) (op : Op) (v : Value) : Prop :=
  ∀ (d : Option Tmp) (ty : TypeId) (pos : String) (aft : Array Edge) (g : Option (Nat × Bool)) (a : Act) (w : World), HF n F a → C w → (execOp a.eval ⟨d, op, ty, pos, aft, g⟩).run P w = .ok (.value v) w

theorem At.val {ops : Array Oper} {rest : List Oper} {d : Nat} {op : Op} {ty : TypeId} {pos : String} {aft : Array Edge} {v : Value} (hp : PR P n F (HW w0 m Rs) op v) (hd : Nat.blt d n = true)
    (h : At n w0 ((d, v) :: F) m Rs (wpList P ops Q rest)) : At n w0 F m Rs (wpList P ops Q (⟨some d, op, ty, pos, aft, none⟩ :: rest)) := fun a w ha hw =>
  wpList_plain rfl fun K hK => by
    unfold Oper.wp
    rw [hp _ _ _ _ _ a w ha hw]
    exact hK _ _ (h _ _ (ha.put hd) hw)

theorem wanted_dummy : True := trivial

/-- a guard that is known to say yes, or no -/
theorem At.guard_y {ops : Array Oper} {rest : List Oper} {d : Option Tmp} {op : Op} {ty : TypeId} {pos : String} {aft : Array Edge} {j : Nat} {want : Bool} {t : Nat}
    (hj : (ops[j]?).bind (·.dst) = some t) (ht : look t F = some (.bool want)) (htn : Nat.blt t n = true) (h : At n w0 F m Rs (wpList P ops Q (⟨d, op, ty, pos, aft, none⟩ :: rest))) :
    At n w0 F m Rs (wpList P ops Q (⟨d, op, ty, pos, aft, some (j, want)⟩ :: rest)) := fun a w ha hw => by
  have h' := h a w ha hw
  have hv := ha.val t _ ht
  have hlt : t < a.tmps.size := by rw [ha.siz]; exact Nat.le_of_ble_eq_true htn
  have hy : yielded ops a.tmps j = some want := by
    unfold yielded
    rw [hj]
    simp only [Option.bind_some]
    rw [Array.getElem?_eq_getElem hlt]
    simp only [Array.getD_eq_getD_getElem?, Array.getElem?_eq_getElem hlt, Option.getD_some] at hv
    rw [hv]
  unfold wpList at h' ⊢
  rw [if_pos (by simp [Region.wanted])] at h'
  rw [if_pos (by simp [Region.wanted, hy])]
  exact h'

theorem At.guard_n {ops : Array Oper} {rest : List Oper} {d : Nat} {op : Op} {ty : TypeId} {pos : String} {aft : Array Edge} {j : Nat} {want : Bool} {t : Nat} {v : Value}
    (hj : (ops[j]?).bind (·.dst) = some t) (ht : look t F = some v) (hv : v ≠ .bool want) (hd : Nat.blt d n = true) (h : At n w0 ((d, undef) :: F) m Rs (wpList P ops Q rest)) :
    At n w0 F m Rs (wpList P ops Q (⟨some d, op, ty, pos, aft, some (j, want)⟩ :: rest)) := fun a w ha hw => by
  have h' := h _ w (ha.put hd) hw
  have hx := ha.val t _ ht
  have hy : ¬ (yielded ops a.tmps j == some want) = true := by
    unfold yielded
    rw [hj]
    simp only [Option.bind_some]
    rcases Nat.lt_or_ge t a.tmps.size with hlt | hge
    · rw [Array.getElem?_eq_getElem hlt]
      simp only [Array.getD_eq_getD_getElem?, Array.getElem?_eq_getElem hlt, Option.getD_some] at hx
      rw [hx]
      cases v with
      | bool b => simp; intro e; subst e; exact hv rfl
      | _ => simp
    · rw [Array.getElem?_eq_none hge]; simp
  unfold wpList
  rw [if_neg (by simpa [Region.wanted] using hy)]
  exact h'

theorem At.bsplit {t : Nat} {b : Bool} (ht : look t F = some (.bool b)) (h1 : b = true → At n w0 ((t, .bool true) :: F) m Rs K) (h2 : b = false → At n w0 ((t, .bool false) :: F) m Rs K) : At n w0 F m Rs K := by
  cases b
  · exact At.note ht rfl (h2 rfl)
  · exact At.note ht rfl (h1 rfl)

/-! ### the function -/
theorem Ct.enter {f : FuncId} {fn : Func} {c : Code} {args : Array Value} {A : List Res} {R : Value → Mem → List Res → Prop} {N : Nat} (F0 : Fr)
    (hf : P.funcs[f]? = some fn) (hb : fn.body = some c) (hn : fn.ntmps = N) (hargs : Nat.ble args.size N = true)
    (hF : ∀ t v, look t F0 = some v → args[t]? = some v)
    (h : ∀ w0 Rest, At N w0 F0 m (A ++ Rest) (c.wp P (bodyPost P fn (fun e w' => ∃ v m' B, e = .returned v ∧ m.le m' ∧ R v m' B ∧ HW w0 m' (B ++ Rest) w')))) : Ct P f args m A R := by
  intro w0 Rest w hw
  refine calls_of_wp hf hb (h w0 Rest _ w ⟨rfl, ?_, ?_⟩ hw)
  · have := Nat.le_of_ble_eq_true hargs
    simp [hn]; omega
  · intro t v ht
    have := hF t v ht
    have hlt : t < args.size := (Array.getElem?_eq_some_iff.1 this).1
    simp only [Array.getD_eq_getD_getElem?]
    rw [Array.getElem?_append_left hlt, this]
    rfl

def enumF : Nat → List Value → Option Fr
  | _, [] => some []
  | i, v :: vs => match enumF (i + 1) vs with
    | some r => some ((i, v) :: r)
    | none => none
theorem enumF_look : ∀ (vs : List Value) (i : Nat) (F0 : Fr), enumF i vs = some F0 → ∀ t v, look t F0 = some v → i ≤ t ∧ vs[t - i]? = some v
  | [], _, _, h, _, _, hl => by cases h; cases hl
  | u :: vs, i, F0, h, t, v, hl => by
    simp only [enumF] at h
    cases hh : enumF (i + 1) vs with
    | none => rw [hh] at h; cases h
    | some r =>
      rw [hh] at h; cases h
      rw [look_cons] at hl
      by_cases e : i = t
      · subst e; rw [if_pos rfl] at hl; cases hl; simp
      · rw [if_neg e] at hl
        obtain ⟨h1, h2⟩ := enumF_look vs (i + 1) r hh t v hl
        refine ⟨by omega, ?_⟩
        rw [show t - i = (t - (i + 1)) + 1 by omega]
        simpa using h2
theorem Ct.enterV {f : FuncId} {fn : Func} {c : Code} {vs : List Value} {A : List Res} {R : Value → Mem → List Res → Prop} {N : Nat} {F0 : Fr} (hF : enumF 0 vs = some F0)
    (hf : P.funcs[f]? = some fn) (hb : fn.body = some c) (hn : fn.ntmps = N) (hargs : Nat.ble vs.length N = true)
    (h : ∀ w0 Rest, At N w0 F0 m (A ++ Rest) (c.wp P (bodyPost P fn (fun e w' => ∃ v m' B, e = .returned v ∧ m.le m' ∧ R v m' B ∧ HW w0 m' (B ++ Rest) w')))) : Ct P f vs.toArray m A R :=
  Ct.enter F0 hf hb hn (by simpa using hargs) (fun t v ht => by
    have := (enumF_look vs 0 F0 hF t v ht).2
    simpa using this) h

theorem At.ret1 {fn : Func} {R : Value → Mem → List Res → Prop} {m0 : Mem} {Rest B : List Res} {t : Nat} {v : Value} (hr : fn.results = #[.tmp t]) (ht : look t F = some v) (hm : m0.le m) (hR : R v m B) (hB : Ent Rs (B ++ Rest)) :
    At n w0 F m Rs (bodyPost P fn (fun e w' => ∃ v m' B, e = .returned v ∧ m0.le m' ∧ R v m' B ∧ HW w0 m' (B ++ Rest) w') .ret) := fun a w ha hw =>
  ⟨ha.dfr, v, by rw [results_tmp hr]; rw [ha.val t v ht], v, m, B, rfl, hm, hR, hw.ent hB⟩
theorem At.ret2 {fn : Func} {R : Value → Mem → List Res → Prop} {m0 : Mem} {Rest B : List Res} {t u : Nat} {v x : Value} (hr : fn.results = #[.tmp t, .tmp u]) (ht : look t F = some v) (hu : look u F = some x) (hm : m0.le m) (hR : R (.tuple #[v, x]) m B) (hB : Ent Rs (B ++ Rest)) :
    At n w0 F m Rs (bodyPost P fn (fun e w' => ∃ v m' B, e = .returned v ∧ m0.le m' ∧ R v m' B ∧ HW w0 m' (B ++ Rest) w') .ret) := fun a w ha hw =>
  ⟨ha.dfr, _, by rw [results_tmp2 hr]; rw [ha.val t v ht, ha.val u x hu], _, m, B, rfl, hm, hR, hw.ent hB⟩
theorem At.ret0 {fn : Func} {R : Value → Mem → List Res → Prop} {m0 : Mem} {Rest B : List Res} (hr : fn.results = #[]) (hm : m0.le m) (hR : R (.tuple #[]) m B) (hB : Ent Rs (B ++ Rest)) :
    At n w0 F m Rs (bodyPost P fn (fun e w' => ∃ v m' B, e = .returned v ∧ m0.le m' ∧ R v m' B ∧ HW w0 m' (B ++ Rest) w') .normal) := fun a w ha hw =>
  ⟨ha.dfr, _, by rw [results_none hr], _, m, B, rfl, hm, hR, hw.ent hB⟩
theorem results_tmp3 {fn : Func} {t u s : Tmp} (h : fn.results = #[.tmp t, .tmp u, .tmp s]) (tmps : Array Value) (P : Program) (w : World) :
    (results fn tmps).run P w = .ok (.tuple #[tmps.getD t undef, tmps.getD u undef, tmps.getD s undef]) w := by
  simp [results, h]
theorem results_tmp4 {fn : Func} {t u s r : Tmp} (h : fn.results = #[.tmp t, .tmp u, .tmp s, .tmp r]) (tmps : Array Value) (P : Program) (w : World) :
    (results fn tmps).run P w = .ok (.tuple #[tmps.getD t undef, tmps.getD u undef, tmps.getD s undef, tmps.getD r undef]) w := by
  simp [results, h]
theorem At.ret3 {fn : Func} {R : Value → Mem → List Res → Prop} {m0 : Mem} {Rest B : List Res} {t u s : Nat} {v x y : Value} (hr : fn.results = #[.tmp t, .tmp u, .tmp s]) (ht : look t F = some v) (hu : look u F = some x) (hs : look s F = some y) (hm : m0.le m) (hR : R (.tuple #[v, x, y]) m B) (hB : Ent Rs (B ++ Rest)) :
    At n w0 F m Rs (bodyPost P fn (fun e w' => ∃ v m' B, e = .returned v ∧ m0.le m' ∧ R v m' B ∧ HW w0 m' (B ++ Rest) w') .ret) := fun a w ha hw =>
  ⟨ha.dfr, _, by rw [results_tmp3 hr]; rw [ha.val t v ht, ha.val u x hu, ha.val s y hs], _, m, B, rfl, hm, hR, hw.ent hB⟩
theorem At.ret4 {fn : Func} {R : Value → Mem → List Res → Prop} {m0 : Mem} {Rest B : List Res} {t u s r : Nat} {v x y z : Value} (hr : fn.results = #[.tmp t, .tmp u, .tmp s, .tmp r]) (ht : look t F = some v) (hu : look u F = some x) (hs : look s F = some y) (hq : look r F = some z) (hm : m0.le m) (hR : R (.tuple #[v, x, y, z]) m B) (hB : Ent Rs (B ++ Rest)) :
    At n w0 F m Rs (bodyPost P fn (fun e w' => ∃ v m' B, e = .returned v ∧ m0.le m' ∧ R v m' B ∧ HW w0 m' (B ++ Rest) w') .ret) := fun a w ha hw =>
  ⟨ha.dfr, _, by rw [results_tmp4 hr]; rw [ha.val t v ht, ha.val u x hu, ha.val s y hs, ha.val r z hq], _, m, B, rfl, hm, hR, hw.ent hB⟩

end
end Go.J
