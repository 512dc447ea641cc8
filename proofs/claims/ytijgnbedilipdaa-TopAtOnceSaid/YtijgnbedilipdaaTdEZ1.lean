/- Part 1 of what the law's proof needs: rules of the walk, contracts of functions, plain laws. No condition. -/
import Derived.WalkKit
import Derived.Deep.Quiet
import Derived.KernelRfl
set_option linter.unusedSimpArgs false
set_option linter.unusedVariables false
set_option linter.unusedSectionVars false
set_option maxRecDepth 20000
namespace Go.J
open Go
def flat {α : Type} : List α → Option (List α)
  | [] => some []
  | x :: xs => match flat xs with
    | some r => some (x :: r)
    | none => none
theorem flat_eq {α : Type} : ∀ (l r : List α), flat l = some r → r = l
  | [], _, h => by cases h; rfl
  | x :: xs, r, h => by
    simp only [flat] at h
    cases hh : flat xs with
    | none => rw [hh] at h; cases h
    | some r' => rw [hh] at h; cases h; rw [flat_eq xs r' hh]
theorem flat_self {α : Type} : ∀ (l : List α), flat l = some l
  | [] => rfl
  | x :: xs => by simp only [flat, flat_self xs]
abbrev Fr := List (Nat × Value)
def look (t : Nat) : Fr → Option Value
  | [] => none
  | (u, v) :: r => match Nat.beq u t with
    | true => some v
    | false => look t r
structure HF (n : Nat) (F : Fr) (a : Act) : Prop where
  dfr : a.defers = []
  siz : a.tmps.size = n
  val : ∀ t v, look t F = some v → a.tmps.getD t undef = v
theorem look_cons (t u : Nat) (v : Value) (r : Fr) : look t ((u, v) :: r) = if u = t then some v else look t r := by
  by_cases h : u = t
  · simp [look, h]
  · have : Nat.beq u t = false := by
      cases hb : Nat.beq u t
      · rfl
      · exact absurd (Nat.eq_of_beq_eq_true hb) h
    simp [look, this, h]
theorem HF.put {n : Nat} {F : Fr} {a : Act} {d : Nat} {v : Value} (h : HF n F a) (hd : Nat.blt d n = true) : HF n ((d, v) :: F) (a.put (some d) v) := by
  have hd' : d < n := Nat.lt_of_lt_of_le (Nat.lt_succ_self d) (Nat.le_of_ble_eq_true hd)
  refine ⟨h.dfr, by simp [Act.put, h.siz], fun t u hu => ?_⟩
  rw [look_cons] at hu
  by_cases e : d = t
  · subst e
    rw [if_pos rfl] at hu
    cases hu
    simp [Act.put, h.siz, hd']
  · rw [if_neg e] at hu
    have := h.val t u hu
    simp only [Act.put, Array.getD_eq_getD_getElem?] at this ⊢
    rw [Array.getElem?_setIfInBounds_ne e]
    exact this
theorem HF.putN {n : Nat} {F : Fr} {a : Act} {v : Value} (h : HF n F a) : HF n F (a.put none v) := h
theorem HF.note {n : Nat} {F : Fr} {a : Act} {t : Nat} {v v' : Value} (h : HF n F a) (ht : look t F = some v) (e : v = v') : HF n ((t, v') :: F) a := by
  refine ⟨h.dfr, h.siz, fun t' u hu => ?_⟩
  rw [look_cons] at hu
  by_cases e' : t = t'
  · subst e'
    rw [if_pos rfl] at hu
    cases hu
    rw [h.val t v ht, e]
  · rw [if_neg e'] at hu
    exact h.val t' u hu
/-- every entry of the first list is known by the second -/
def Subs : Fr → Fr → Prop
  | [], _ => True
  | (t, v) :: r, F => look t F = some v ∧ Subs r F
theorem Subs.look {F' F : Fr} (h : Subs F' F) {t : Nat} {v : Value} (ht : look t F' = some v) : look t F = some v := by
  induction F' with
  | nil => cases ht
  | cons p r ih =>
    obtain ⟨u, x⟩ := p
    rw [look_cons] at ht
    by_cases e : u = t
    · subst e
      rw [if_pos rfl] at ht
      cases ht
      exact h.1
    · rw [if_neg e] at ht
      exact ih h.2 ht
theorem HF.weaken {n : Nat} {F F' : Fr} {a : Act} (h : HF n F a) (hs : Subs F' F) : HF n F' a :=
  ⟨h.dfr, h.siz, fun t v ht => h.val t v (hs.look ht)⟩
def ev (F : Fr) : Operand → Option Value
  | .tmp t => look t F
  | .const v => some v
  | .global g => some (.pointer (some ⟨g, 0, none⟩))
  | .func f => some (.func (.func f) #[] #[])
theorem HF.ev {n : Nat} {F : Fr} {a : Act} {x : Operand} {v : Value} (h : HF n F a) (hx : J.ev F x = some v) : a.eval x = v := by
  cases x with
  | tmp t => exact h.val t v hx
  | const u => cases hx; rfl
  | global g => cases hx; rfl
  | func f => cases hx; rfl
/-! ### memory -/
abbrev Mem := Nat → Option Obj
theorem viewStore_drawn {p : Program} {w w' : World} {at_ k : Addr} {u : TypeId} {v : Value} {at2 : Bool} {l : List Addr} (h : w.viewStore p at_ u k v at2 = .ok (w', l)) : w'.drawn = w.drawn := by
  unfold World.viewStore at h
  simp only [bind, Except.bind, pure, Except.pure] at h
  repeat' (split at h)
  all_goals first | (cases h; done) | (cases h; rfl) | skip
theorem ask_drawn {α : Type} (x : Ask α) (w : World) : w.drawn ≤ (w.ask x).2.drawn := by
  induction x generalizing w with
  | done a => exact Nat.le_refl _
  | ask what range k ih =>
    unfold World.ask
    dsimp only
    split
    · exact ih _ _
    · have k2 := ih (Question.cut (Question.extern what range) (w.tape w.drawn (Question.extern what range))) { w with drawn := w.drawn + 1 }
      exact Nat.le_trans (Nat.le_succ _) k2
theorem run_drawn {α : Type} {P : Program} (s : Sem α) {w w' : World} {a : α} (h : s.run P w = .ok a w') : w.drawn ≤ w'.drawn := by
  induction s generalizing w with
  | pure a => simp only [Sem.run, Result.ok.injEq] at h; rw [h.2]; exact Nat.le_refl _
  | load m a k ih =>
    simp only [Sem.run] at h
    split at h
    · exact ih _ h
    · split at h
      · exact ih _ h
      · cases h
  | store m a v k ih =>
    cases v <;> simp only [Sem.run] at h <;> (try cases h) <;> (split at h) <;> first
      | (split at h <;> first | (cases h; done) | exact ih h | skip)
      | skip
    all_goals first
      | (have k2 := ih h; exact k2)
      | (rename_i hf
         have k2 := ih h
         refine Nat.le_trans (Nat.le_of_eq ?_) k2
         unfold World.farStore at hf
         split at hf
         · split at hf
           · cases hf
             rename_i hv
             exact (viewStore_drawn hv).symm
           · cases hf
         · cases hf)
  | new o k ih => simp only [Sem.run] at h; have k2 := ih _ h; exact k2
  | shape r k ih => simp only [Sem.run] at h; exact ih _ h
  | freeze a n k ih =>
    simp only [Sem.run] at h
    refine Nat.le_trans (Nat.le_of_eq ?_) (ih h)
    unfold World.freeze
    split <;> rfl
  | frozen a k ih => simp only [Sem.run] at h; exact ih _ h
  | getObj r k ih => simp only [Sem.run] at h; split at h <;> first | (cases h; done) | exact ih _ h
  | setObj r o k ih => simp only [Sem.run] at h; split at h <;> first | (cases h; done) | (have k2 := ih h; exact k2)
  | choose q k ih =>
    simp only [Sem.run] at h
    split at h
    · exact ih _ h
    · have k2 := ih _ h
      exact Nat.le_trans (Nat.le_succ _) k2
  | sys c k ih =>
    simp only [Sem.run] at h
    refine Nat.le_trans ?_ (ih _ h)
    have := ask_drawn (Kernel.perform c w.os) w
    unfold World.sys
    split
    · exact Nat.le_refl _
    · rename_i hk
      rw [hk] at this
      exact this
  | program k ih => simp only [Sem.run] at h; exact ih _ h
  | mark m k ih => simp only [Sem.run] at h; exact ih h
  | halt hh => simp only [Sem.run] at h; cases h
def Mem.le (m m' : Mem) : Prop := ∀ k o, m k = some o → m' k = some o
theorem Mem.le_refl (m : Mem) : m.le m := fun _ _ h => h
theorem Mem.le_trans {a b c : Mem} (h : a.le b) (k : b.le c) : a.le c := fun i o hi => k i o (h i o hi)
structure Res where
  p : World → (Nat → Prop) → Prop
  loc : ∀ {w w' : World} {s : Nat → Prop}, p w s → (∀ k, s k → w'.heap[k]? = w.heap[k]?) → p w' s
  dom : ∀ {w : World} {s : Nat → Prop} {k : Nat}, p w s → s k → k < w.heap.size
def Sat : List Res → World → (Nat → Prop) → Prop
  | [], _, s => ∀ k, ¬ s k
  | R :: Rs, w, s => ∃ s1 s2 : Nat → Prop, R.p w s1 ∧ Sat Rs w s2 ∧ (∀ k, ¬ (s1 k ∧ s2 k)) ∧ (∀ k, s k ↔ s1 k ∨ s2 k)
theorem Sat.loc {Rs : List Res} {w w' : World} {s : Nat → Prop} (h : Sat Rs w s) (he : ∀ k, s k → w'.heap[k]? = w.heap[k]?) : Sat Rs w' s := by
  induction Rs generalizing s with
  | nil => exact h
  | cons R Rs ih =>
    obtain ⟨s1, s2, h1, h2, hd, hs⟩ := h
    exact ⟨s1, s2, R.loc h1 (fun k hk => he k ((hs k).2 (.inl hk))), ih h2 (fun k hk => he k ((hs k).2 (.inr hk))), hd, hs⟩
theorem Sat.dom {Rs : List Res} {w : World} {s : Nat → Prop} (h : Sat Rs w s) {k : Nat} (hk : s k) : k < w.heap.size := by
  induction Rs generalizing s with
  | nil => exact absurd hk (h k)
  | cons R Rs ih =>
    obtain ⟨s1, s2, h1, h2, hd, hs⟩ := h
    rcases (hs k).1 hk with h' | h'
    · exact R.dom h1 h'
    · exact ih h2 h'
/-- where strings.Repeat is called, of whose draws the shelf tells nothing, nothing is said of draws -/
abbrev drB (_ : World) : Nat := 0
theorem drB_le (w : World) : drB w ≤ w.drawn := Nat.zero_le _
structure HW (w0 : World) (m : Mem) (Rs : List Res) (w : World) : Prop where
  os : w.os = w0.os
  tape : w.tape = w0.tape
  output : w.output = w0.output
  size : w0.heap.size ≤ w.heap.size
  dr : drB w0 ≤ w.drawn
  mem : ∀ k o, m k = some o → w.heap[k]? = some o
  res : ∃ s, Sat Rs w s ∧ ∀ k, s k → m k = none
/-- one resource out of a list -/
inductive Pick : List Res → Res → List Res → Prop
  | here {R : Res} {Rs : List Res} : Pick (R :: Rs) R Rs
  | there {X R : Res} {Rs Rs' : List Res} : Pick Rs R Rs' → Pick (X :: Rs) R (X :: Rs')
theorem Sat.pick {Rs Rs' : List Res} {R : Res} (hp : Pick Rs R Rs') {w : World} {s : Nat → Prop} : Sat Rs w s ↔ Sat (R :: Rs') w s := by
  induction hp generalizing s with
  | here => exact Iff.rfl
  | @there X R Rs Rs' hp ih =>
    constructor
    · rintro ⟨s1, s2, h1, h2, hd, hs⟩
      obtain ⟨s3, s4, h3, h4, hd', hs'⟩ := (ih).1 h2
      refine ⟨s3, fun k => s1 k ∨ s4 k, h3, ⟨s1, s4, h1, h4, fun k ⟨x, y⟩ => hd k ⟨x, (hs' k).2 (.inr y)⟩, fun k => Iff.rfl⟩, ?_, ?_⟩
      · rintro k ⟨x, y | y⟩
        · exact hd k ⟨y, (hs' k).2 (.inl x)⟩
        · exact hd' k ⟨x, y⟩
      · intro k
        rw [hs, hs']
        constructor
        · rintro (x | x | x)
          · exact .inr (.inl x)
          · exact .inl x
          · exact .inr (.inr x)
        · rintro (x | x | x)
          · exact .inr (.inl x)
          · exact .inl x
          · exact .inr (.inr x)
    · rintro ⟨s3, s5, h3, ⟨s1, s4, h1, h4, hd', hs'⟩, hd, hs⟩
      refine ⟨s1, fun k => s3 k ∨ s4 k, h1, (ih).2 ⟨s3, s4, h3, h4, fun k ⟨x, y⟩ => hd k ⟨x, (hs' k).2 (.inr y)⟩, fun k => Iff.rfl⟩, ?_, ?_⟩
      · rintro k ⟨x, y | y⟩
        · exact hd k ⟨y, (hs' k).2 (.inl x)⟩
        · exact hd' k ⟨x, y⟩
      · intro k
        rw [hs, hs']
        constructor
        · rintro (x | x | x)
          · exact .inr (.inl x)
          · exact .inl x
          · exact .inr (.inr x)
        · rintro (x | x | x)
          · exact .inr (.inl x)
          · exact .inl x
          · exact .inr (.inr x)
/-- what holds of a state's lists holds of others -/
def Ent (Rs Rs' : List Res) : Prop := ∀ w s, Sat Rs w s → ∃ s', Sat Rs' w s' ∧ ∀ k, s' k → s k
theorem Ent.refl (Rs : List Res) : Ent Rs Rs := fun _ s h => ⟨s, h, fun _ x => x⟩
theorem Ent.trans {A B C : List Res} (h : Ent A B) (h' : Ent B C) : Ent A C := fun w s hs =>
  let ⟨s1, h1, e1⟩ := h w s hs
  let ⟨s2, h2, e2⟩ := h' w s1 h1
  ⟨s2, h2, fun k x => e1 k (e2 k x)⟩
theorem Ent.of_pick {Rs Rs' : List Res} {R : Res} (hp : Pick Rs R Rs') : Ent Rs (R :: Rs') := fun _ s h => ⟨s, (Sat.pick hp).1 h, fun _ x => x⟩
theorem Ent.to_pick {Rs Rs' : List Res} {R : Res} (hp : Pick Rs R Rs') : Ent (R :: Rs') Rs := fun _ s h => ⟨s, (Sat.pick hp).2 h, fun _ x => x⟩
theorem Ent.drop (R : Res) (Rs : List Res) : Ent (R :: Rs) Rs := fun _ _ ⟨_, s2, _, h2, _, hs⟩ => ⟨s2, h2, fun k x => (hs k).2 (.inr x)⟩
theorem Ent.cons (R : Res) {Rs Rs' : List Res} (h : Ent Rs Rs') : Ent (R :: Rs) (R :: Rs') := fun w _ ⟨s1, s2, h1, h2, hd, hs⟩ =>
  let ⟨s3, h3, e3⟩ := h w s2 h2
  ⟨fun k => s1 k ∨ s3 k, ⟨s1, s3, h1, h3, fun k ⟨x, y⟩ => hd k ⟨x, e3 k y⟩, fun _ => Iff.rfl⟩, fun k x => (hs k).2 (x.imp id (e3 k))⟩
/-- all of the second are among the first, in whatever order -/
theorem Ent.take {Rs Rs' Rs2 : List Res} {R : Res} (hp : Pick Rs R Rs') (h : Ent Rs' Rs2) : Ent Rs (R :: Rs2) := (Ent.of_pick hp).trans (Ent.cons R h)
theorem Ent.nil (Rs : List Res) : Ent Rs [] := fun _ _ _ => ⟨fun _ => False, fun _ h => h, fun _ h => h.elim⟩
theorem HW.ent {w0 : World} {m : Mem} {Rs Rs' : List Res} {w : World} (h : HW w0 m Rs w) (he : Ent Rs Rs') : HW w0 m Rs' w :=
  let ⟨s, hs, hm⟩ := h.res
  let ⟨s', hs', e⟩ := he w s hs
  ⟨h.os, h.tape, h.output, h.size, h.dr, h.mem, s', hs', fun k x => hm k (e k x)⟩
theorem HW.weak {w0 : World} {m m' : Mem} {Rs : List Res} {w : World} (h : HW w0 m' Rs w) (hm : m.le m') : HW w0 m Rs w :=
  let ⟨s, hs, he⟩ := h.res
  ⟨h.os, h.tape, h.output, h.size, h.dr, fun k o x => h.mem k o (hm k o x), s, hs, fun k x => by
    have := he k x
    cases hk : m k with
    | none => rfl
    | some o => rw [hm k o hk] at this; cases this⟩
theorem HW.drawn {w0 : World} {m : Mem} {Rs : List Res} {w : World} (h : HW w0 m Rs w) (n : Nat) (hn : w.drawn ≤ n := by exact Nat.le_succ _) : HW w0 m Rs { w with drawn := n } :=
  let ⟨s, hs, he⟩ := h.res
  ⟨h.os, h.tape, h.output, h.size, Nat.le_trans h.dr hn, h.mem, s, Sat.loc hs (fun _ _ => rfl), he⟩
theorem HW.get {w0 : World} {m : Mem} {Rs Rs' : List Res} {R : Res} {w : World} (h : HW w0 m Rs w) (hp : Pick Rs R Rs') : ∃ s, R.p w s :=
  let ⟨_, hs, _⟩ := (h.ent (Ent.of_pick hp)).res
  let ⟨s1, _, h1, _⟩ := hs
  ⟨s1, h1⟩
/-- a state: 'K' holds wherever the lists do -/
def At (n : Nat) (w0 : World) (F : Fr) (m : Mem) (Rs : List Res) (K : Act → World → Prop) : Prop :=
  ∀ a w, HF n F a → HW w0 m Rs w → K a w
/-- A call's contract, the frame baked in. -/
def Ct (P : Program) (f : FuncId) (args : Array Value) (m : Mem) (A : List Res) (R : Value → Mem → List Res → Prop) : Prop :=
  ∀ w0 Rest w, HW w0 m (A ++ Rest) w → Calls P f args w fun e w' => ∃ v m' B, e = .returned v ∧ m.le m' ∧ R v m' B ∧ HW w0 m' (B ++ Rest) w'
theorem Ct.mono {P : Program} {f : FuncId} {args : Array Value} {m : Mem} {A : List Res} {R R' : Value → Mem → List Res → Prop} (h : Ct P f args m A R) (hr : ∀ v m' B, m.le m' → R v m' B → R' v m' B) : Ct P f args m A R' :=
  fun w0 Rest w hw => (h w0 Rest w hw).mono fun _ _ ⟨v, m', B, he, hm, hR, hw'⟩ => ⟨v, m', B, he, hm, hr v m' B hm hR, hw'⟩
section
variable {P : Program} {n : Nat} {w0 : World} {F : Fr} {m : Mem} {Rs : List Res} {Q : Exit → Act → World → Prop} {K : Act → World → Prop}
theorem At.frame {F' : Fr} (hs : Subs F' F) (h : At n w0 F' m Rs K) : At n w0 F m Rs K := fun a w ha hw => h a w (ha.weaken hs) hw
theorem At.ent {Rs' : List Res} (he : Ent Rs Rs') (h : At n w0 F m Rs' K) : At n w0 F m Rs K := fun a w ha hw => h a w ha (hw.ent he)
theorem At.weak {m' : Mem} (hm : m'.le m) (h : At n w0 F m' Rs K) : At n w0 F m Rs K := fun a w ha hw => h a w ha (hw.weak hm)
theorem At.note {t : Nat} {v v' : Value} (ht : look t F = some v) (e : v = v') (h : At n w0 ((t, v') :: F) m Rs K) : At n w0 F m Rs K := fun a w ha hw => h a w (ha.note ht e) hw
/-! ### code -/
theorem At.seq {x y : Code} (h : At n w0 F m Rs (x.wp P (Exit.then (y.wp P Q) Q))) : At n w0 F m Rs ((Code.seq x y).wp P Q) := fun a w ha hw => wp_seq (h a w ha hw)
theorem At.skip (h : At n w0 F m Rs (Q .normal)) : At n w0 F m Rs (Code.skip.wp P Q) := fun a w ha hw => wp_skip (h a w ha hw)
theorem At.ret (h : At n w0 F m Rs (Q .ret)) : At n w0 F m Rs (Code.ret.wp P Q) := fun a w ha hw => wp_ret (h a w ha hw)
theorem At.exit {id : Nat} (h : At n w0 F m Rs (Q (.exit id))) : At n w0 F m Rs ((Code.exit id).wp P Q) := fun a w ha hw => wp_exit (h a w ha hw)
theorem At.block {id : Nat} {c : Code} (h : At n w0 F m Rs (c.wp P (Exit.inBlock id Q))) : At n w0 F m Rs ((Code.block id c).wp P Q) := fun a w ha hw => wp_block (h a w ha hw)
theorem At.cond {c : Operand} {x y : Code} {b : Bool} (hc : ev F c = some (.bool b)) (ht : b = true → At n w0 F m Rs (x.wp P Q)) (hf : b = false → At n w0 F m Rs (y.wp P Q)) :
    At n w0 F m Rs ((Code.cond c x y).wp P Q) := fun a w ha hw => wp_cond_split (ha.ev hc) (fun e => ht e a w ha hw) (fun e => hf e a w ha hw)
theorem At.cond_t {c : Operand} {x y : Code} (hc : ev F c = some (.bool true)) (h : At n w0 F m Rs (x.wp P Q)) : At n w0 F m Rs ((Code.cond c x y).wp P Q) := fun a w ha hw => wp_cond_true (ha.ev hc) (h a w ha hw)
theorem At.cond_f {c : Operand} {x y : Code} (hc : ev F c = some (.bool false)) (h : At n w0 F m Rs (y.wp P Q)) : At n w0 F m Rs ((Code.cond c x y).wp P Q) := fun a w ha hw => wp_cond_false (ha.ev hc) (h a w ha hw)
theorem At.then_n (h : At n w0 F m Rs K) : At n w0 F m Rs (Exit.then K Q .normal) := h
theorem At.then_e {id : Nat} (h : At n w0 F m Rs (Q (.exit id))) : At n w0 F m Rs (Exit.then K Q (.exit id)) := h
theorem At.then_r (h : At n w0 F m Rs (Q .ret)) : At n w0 F m Rs (Exit.then K Q .ret) := h
theorem At.inb_n {id : Nat} (h : At n w0 F m Rs (Q .normal)) : At n w0 F m Rs (Exit.inBlock id Q .normal) := h
theorem At.inb_r {id : Nat} (h : At n w0 F m Rs (Q .ret)) : At n w0 F m Rs (Exit.inBlock id Q .ret) := h
theorem At.inb_here {id : Nat} (h : At n w0 F m Rs (Q .normal)) : At n w0 F m Rs (Exit.inBlock id Q (.exit id)) := fun a w ha hw => by
  simp only [Exit.inBlock, if_true]; exact h a w ha hw
theorem At.inb_past {id id' : Nat} (hne : Nat.beq id' id = false) (h : At n w0 F m Rs (Q (.exit id'))) : At n w0 F m Rs (Exit.inBlock id Q (.exit id')) := fun a w ha hw => by
  have : ¬ id' = id := fun e => by subst e; simp at hne
  simp only [Exit.inBlock, this, if_false]; exact h a w ha hw
/-- a place where ways meet: it is enough that each comes to one of the states 'F' x', .. -/
theorem At.seq_cut {x y : Code} {σ : Type} (Fx : σ → Fr) (mx : σ → Mem) (Rx : σ → List Res) (I : σ → Prop)
    (hx : At n w0 F m Rs (x.wp P (Exit.then (fun a w => ∃ s, I s ∧ HF n (Fx s) a ∧ HW w0 (mx s) (Rx s) w) Q)))
    (hy : ∀ s, I s → At n w0 (Fx s) (mx s) (Rx s) (y.wp P Q)) : At n w0 F m Rs ((Code.seq x y).wp P Q) := fun a w ha hw =>
  wp_seq (Code.wp_mono (fun e a' w' q => by
    cases e <;> first | exact q | (obtain ⟨s, hI, h1, h2⟩ := q; exact hy s hI a' w' h1 h2)) (hx a w ha hw))
/-- a round's end, or a cut's: the state is one of those -/
theorem At.reach {σ : Type} {Fx : σ → Fr} {mx : σ → Mem} {Rx : σ → List Res} {I : σ → Prop} (s : σ) (hI : I s) (hF : Subs (Fx s) F) (hm : (mx s).le m) (hR : Ent Rs (Rx s)) :
    At n w0 F m Rs (fun a w => ∃ s, I s ∧ HF n (Fx s) a ∧ HW w0 (mx s) (Rx s) w) := fun _ _ ha hw => ⟨s, hI, ha.weaken hF, (hw.ent hR).weak hm⟩
/-- a loop: its states 's', what holds of them, and what goes down -/
theorem At.loop {c : Code} {σ : Type} (Fx : σ → Fr) (mx : σ → Mem) (Rx : σ → List Res) (I : σ → Prop) (μ : σ → Nat) (s0 : σ) (h0 : I s0) (hF : Subs (Fx s0) F) (hm : (mx s0).le m) (hR : Ent Rs (Rx s0))
    (round : ∀ s, I s → At n w0 (Fx s) (mx s) (Rx s) (c.wp P (Exit.then (fun a w => ∃ s', (I s' ∧ μ s' < μ s) ∧ HF n (Fx s') a ∧ HW w0 (mx s') (Rx s') w) Q))) :
    At n w0 F m Rs ((Code.loop c).wp P Q) := by
  intro a w ha hw
  intro b k cs
  have key : ∀ N s a w, μ s = N → I s → HF n (Fx s) a → HW w0 (mx s) (Rx s) w →
      ∃ e a' w', Q e a' w' ∧ Arrives P (lone (b.at a (.code c :: .inLoop c :: k)) cs w) b k cs e a' w' := by
    intro N
    induction N using Nat.strongRecOn with
    | _ N ih =>
      intro s a w hN hI ha hw
      obtain ⟨e, a1, w1, hq, harr⟩ := round s hI a w ha hw b (.inLoop c :: k) cs
      cases e with
      | normal =>
        obtain ⟨s', ⟨hI', hlt⟩, h1, h2⟩ := hq
        obtain ⟨e, a2, w2, hq2, harr2⟩ := ih (μ s') (hN ▸ hlt) s' a1 w1 rfl hI' h1 h2
        exact ⟨e, a2, w2, hq2, .of_steps (Steps.trans harr (.one step_inLoop)) harr2⟩
      | exit id => exact ⟨_, a1, w1, hq, .pass (x := .inLoop c) rfl (fun _ _ => .inl (by simp)) harr⟩
      | goto l => exact ⟨_, a1, w1, hq, .pass (x := .inLoop c) rfl (fun _ _ => .inl (by simp)) harr⟩
      | ret => exact ⟨_, a1, w1, hq, .pass (x := .inLoop c) rfl (fun _ _ => .inl (by simp)) harr⟩
      | panic ch => exact ⟨_, a1, w1, hq, .pass (x := .inLoop c) rfl (fun _ _ => .inl (by simp)) harr⟩
      | outgrown => exact ⟨_, a1, w1, hq, .pass (x := .inLoop c) rfl (fun _ _ => .inl (by simp)) harr⟩
  obtain ⟨e, a', w', hq, harr⟩ := key _ s0 a w rfl h0 (ha.weaken hF) ((hw.ent hR).weak hm)
  exact ⟨e, a', w', hq, .of_steps (.one step_loop) harr⟩
/-! ### regions -/
theorem At.region {id : Nat} {l : List Oper} (h : At n w0 F m Rs (wpList P l.toArray Q l)) : At n w0 F m Rs ((Code.region id l.toArray false).wp P Q) := fun a w ha hw => wp_region_lit (h a w ha hw)
theorem At.region' {id : Nat} {ops : Array Oper} (l : List Oper) (e : ops = l.toArray) (h : At n w0 F m Rs (wpList P l.toArray Q l)) : At n w0 F m Rs ((Code.region id ops false).wp P Q) := by
  subst e; exact At.region h
theorem At.nil {ops : Array Oper} (h : At n w0 F m Rs (Q .normal)) : At n w0 F m Rs (wpList P ops Q []) := fun a w ha hw => wpList_nil (h a w ha hw)
/-- an operation that yields a value and leaves the world as it is, wherever 'C' holds -/
def PR (P : Program) (n : Nat) (F : Fr) (C : World → Prop) (op : Op) (v : Value) : Prop :=
  ∀ (d : Option Tmp) (ty : TypeId) (pos : String) (aft : Array Edge) (g : Option (Nat × Bool)) (a : Act) (w : World), HF n F a → C w → (execOp a.eval ⟨d, op, ty, pos, aft, g⟩).run P w = .ok (.value v) w
theorem At.val {ops : Array Oper} {rest : List Oper} {d : Nat} {op : Op} {ty : TypeId} {pos : String} {aft : Array Edge} {v : Value} (hp : PR P n F (HW w0 m Rs) op v) (hd : Nat.blt d n = true)
    (h : At n w0 ((d, v) :: F) m Rs (wpList P ops Q rest)) : At n w0 F m Rs (wpList P ops Q (⟨some d, op, ty, pos, aft, none⟩ :: rest)) := fun a w ha hw =>
  wpList_plain rfl fun K hK => by
    unfold Oper.wp
    rw [hp _ _ _ _ _ a w ha hw]
    exact hK _ _ (h _ _ (ha.put hd) hw)
theorem wanted_dummy : True := trivial
/-- a guard that is known to say yes, or no -/
theorem At.guard_y {ops : Array Oper} {rest : List Oper} {d : Option Tmp} {op : Op} {ty : TypeId} {pos : String} {aft : Array Edge} {j : Nat} {want : Bool} {t : Nat}
    (hj : (ops[j]?).bind (·.dst) = some t) (ht : look t F = some (.bool want)) (htn : Nat.blt t n = true) (h : At n w0 F m Rs (wpList P ops Q (⟨d, op, ty, pos, aft, none⟩ :: rest))) :
    At n w0 F m Rs (wpList P ops Q (⟨d, op, ty, pos, aft, some (j, want)⟩ :: rest)) := fun a w ha hw => by
  have h' := h a w ha hw
  have hv := ha.val t _ ht
  have hlt : t < a.tmps.size := by rw [ha.siz]; exact Nat.le_of_ble_eq_true htn
  have hy : yielded ops a.tmps j = some want := by
    unfold yielded
    rw [hj]
    simp only [Option.bind_some]
    rw [Array.getElem?_eq_getElem hlt]
    simp only [Array.getD_eq_getD_getElem?, Array.getElem?_eq_getElem hlt, Option.getD_some] at hv
    rw [hv]
  unfold wpList at h' ⊢
  rw [if_pos (by simp [Region.wanted])] at h'
  rw [if_pos (by simp [Region.wanted, hy])]
  exact h'
theorem At.guard_n {ops : Array Oper} {rest : List Oper} {d : Nat} {op : Op} {ty : TypeId} {pos : String} {aft : Array Edge} {j : Nat} {want : Bool} {t : Nat} {v : Value}
    (hj : (ops[j]?).bind (·.dst) = some t) (ht : look t F = some v) (hv : v ≠ .bool want) (hd : Nat.blt d n = true) (h : At n w0 ((d, undef) :: F) m Rs (wpList P ops Q rest)) :
    At n w0 F m Rs (wpList P ops Q (⟨some d, op, ty, pos, aft, some (j, want)⟩ :: rest)) := fun a w ha hw => by
  have h' := h _ w (ha.put hd) hw
  have hx := ha.val t _ ht
  have hy : ¬ (yielded ops a.tmps j == some want) = true := by
    unfold yielded
    rw [hj]
    simp only [Option.bind_some]
    rcases Nat.lt_or_ge t a.tmps.size with hlt | hge
    · rw [Array.getElem?_eq_getElem hlt]
      simp only [Array.getD_eq_getD_getElem?, Array.getElem?_eq_getElem hlt, Option.getD_some] at hx
      rw [hx]
      cases v with
      | bool b => simp; intro e; subst e; exact hv rfl
      | _ => simp
    · rw [Array.getElem?_eq_none hge]; simp
  unfold wpList
  rw [if_neg (by simpa [Region.wanted] using hy)]
  exact h'
theorem At.bsplit {t : Nat} {b : Bool} (ht : look t F = some (.bool b)) (h1 : b = true → At n w0 ((t, .bool true) :: F) m Rs K) (h2 : b = false → At n w0 ((t, .bool false) :: F) m Rs K) : At n w0 F m Rs K := by
  cases b
  · exact At.note ht rfl (h2 rfl)
  · exact At.note ht rfl (h1 rfl)
/-! ### the function -/
theorem Ct.enter {f : FuncId} {fn : Func} {c : Code} {args : Array Value} {A : List Res} {R : Value → Mem → List Res → Prop} {N : Nat} (F0 : Fr)
    (hf : P.funcs[f]? = some fn) (hb : fn.body = some c) (hn : fn.ntmps = N) (hargs : Nat.ble args.size N = true)
    (hF : ∀ t v, look t F0 = some v → args[t]? = some v)
    (h : ∀ w0 Rest, At N w0 F0 m (A ++ Rest) (c.wp P (bodyPost P fn (fun e w' => ∃ v m' B, e = .returned v ∧ m.le m' ∧ R v m' B ∧ HW w0 m' (B ++ Rest) w')))) : Ct P f args m A R := by
  intro w0 Rest w hw
  refine calls_of_wp hf hb (h w0 Rest _ w ⟨rfl, ?_, ?_⟩ hw)
  · have := Nat.le_of_ble_eq_true hargs
    simp [hn]; omega
  · intro t v ht
    have := hF t v ht
    have hlt : t < args.size := (Array.getElem?_eq_some_iff.1 this).1
    simp only [Array.getD_eq_getD_getElem?]
    rw [Array.getElem?_append_left hlt, this]
    rfl
def enumF : Nat → List Value → Option Fr
  | _, [] => some []
  | i, v :: vs => match enumF (i + 1) vs with
    | some r => some ((i, v) :: r)
    | none => none
theorem enumF_look : ∀ (vs : List Value) (i : Nat) (F0 : Fr), enumF i vs = some F0 → ∀ t v, look t F0 = some v → i ≤ t ∧ vs[t - i]? = some v
  | [], _, _, h, _, _, hl => by cases h; cases hl
  | u :: vs, i, F0, h, t, v, hl => by
    simp only [enumF] at h
    cases hh : enumF (i + 1) vs with
    | none => rw [hh] at h; cases h
    | some r =>
      rw [hh] at h; cases h
      rw [look_cons] at hl
      by_cases e : i = t
      · subst e; rw [if_pos rfl] at hl; cases hl; simp
      · rw [if_neg e] at hl
        obtain ⟨h1, h2⟩ := enumF_look vs (i + 1) r hh t v hl
        refine ⟨by omega, ?_⟩
        rw [show t - i = (t - (i + 1)) + 1 by omega]
        simpa using h2
theorem Ct.enterV {f : FuncId} {fn : Func} {c : Code} {vs : List Value} {A : List Res} {R : Value → Mem → List Res → Prop} {N : Nat} {F0 : Fr} (hF : enumF 0 vs = some F0)
    (hf : P.funcs[f]? = some fn) (hb : fn.body = some c) (hn : fn.ntmps = N) (hargs : Nat.ble vs.length N = true)
    (h : ∀ w0 Rest, At N w0 F0 m (A ++ Rest) (c.wp P (bodyPost P fn (fun e w' => ∃ v m' B, e = .returned v ∧ m.le m' ∧ R v m' B ∧ HW w0 m' (B ++ Rest) w')))) : Ct P f vs.toArray m A R :=
  Ct.enter F0 hf hb hn (by simpa using hargs) (fun t v ht => by
    have := (enumF_look vs 0 F0 hF t v ht).2
    simpa using this) h
theorem At.ret1 {fn : Func} {R : Value → Mem → List Res → Prop} {m0 : Mem} {Rest B : List Res} {t : Nat} {v : Value} (hr : fn.results = #[.tmp t]) (ht : look t F = some v) (hm : m0.le m) (hR : R v m B) (hB : Ent Rs (B ++ Rest)) :
    At n w0 F m Rs (bodyPost P fn (fun e w' => ∃ v m' B, e = .returned v ∧ m0.le m' ∧ R v m' B ∧ HW w0 m' (B ++ Rest) w') .ret) := fun a w ha hw =>
  ⟨ha.dfr, v, by rw [results_tmp hr]; rw [ha.val t v ht], v, m, B, rfl, hm, hR, hw.ent hB⟩
theorem At.ret2 {fn : Func} {R : Value → Mem → List Res → Prop} {m0 : Mem} {Rest B : List Res} {t u : Nat} {v x : Value} (hr : fn.results = #[.tmp t, .tmp u]) (ht : look t F = some v) (hu : look u F = some x) (hm : m0.le m) (hR : R (.tuple #[v, x]) m B) (hB : Ent Rs (B ++ Rest)) :
    At n w0 F m Rs (bodyPost P fn (fun e w' => ∃ v m' B, e = .returned v ∧ m0.le m' ∧ R v m' B ∧ HW w0 m' (B ++ Rest) w') .ret) := fun a w ha hw =>
  ⟨ha.dfr, _, by rw [results_tmp2 hr]; rw [ha.val t v ht, ha.val u x hu], _, m, B, rfl, hm, hR, hw.ent hB⟩
theorem At.ret0 {fn : Func} {R : Value → Mem → List Res → Prop} {m0 : Mem} {Rest B : List Res} (hr : fn.results = #[]) (hm : m0.le m) (hR : R (.tuple #[]) m B) (hB : Ent Rs (B ++ Rest)) :
    At n w0 F m Rs (bodyPost P fn (fun e w' => ∃ v m' B, e = .returned v ∧ m0.le m' ∧ R v m' B ∧ HW w0 m' (B ++ Rest) w') .normal) := fun a w ha hw =>
  ⟨ha.dfr, _, by rw [results_none hr], _, m, B, rfl, hm, hR, hw.ent hB⟩
theorem results_tmp3 {fn : Func} {t u s : Tmp} (h : fn.results = #[.tmp t, .tmp u, .tmp s]) (tmps : Array Value) (P : Program) (w : World) :
    (results fn tmps).run P w = .ok (.tuple #[tmps.getD t undef, tmps.getD u undef, tmps.getD s undef]) w := by
  simp [results, h]
theorem results_tmp4 {fn : Func} {t u s r : Tmp} (h : fn.results = #[.tmp t, .tmp u, .tmp s, .tmp r]) (tmps : Array Value) (P : Program) (w : World) :
    (results fn tmps).run P w = .ok (.tuple #[tmps.getD t undef, tmps.getD u undef, tmps.getD s undef, tmps.getD r undef]) w := by
  simp [results, h]
theorem At.ret3 {fn : Func} {R : Value → Mem → List Res → Prop} {m0 : Mem} {Rest B : List Res} {t u s : Nat} {v x y : Value} (hr : fn.results = #[.tmp t, .tmp u, .tmp s]) (ht : look t F = some v) (hu : look u F = some x) (hs : look s F = some y) (hm : m0.le m) (hR : R (.tuple #[v, x, y]) m B) (hB : Ent Rs (B ++ Rest)) :
    At n w0 F m Rs (bodyPost P fn (fun e w' => ∃ v m' B, e = .returned v ∧ m0.le m' ∧ R v m' B ∧ HW w0 m' (B ++ Rest) w') .ret) := fun a w ha hw =>
  ⟨ha.dfr, _, by rw [results_tmp3 hr]; rw [ha.val t v ht, ha.val u x hu, ha.val s y hs], _, m, B, rfl, hm, hR, hw.ent hB⟩
theorem At.ret4 {fn : Func} {R : Value → Mem → List Res → Prop} {m0 : Mem} {Rest B : List Res} {t u s r : Nat} {v x y z : Value} (hr : fn.results = #[.tmp t, .tmp u, .tmp s, .tmp r]) (ht : look t F = some v) (hu : look u F = some x) (hs : look s F = some y) (hq : look r F = some z) (hm : m0.le m) (hR : R (.tuple #[v, x, y, z]) m B) (hB : Ent Rs (B ++ Rest)) :
    At n w0 F m Rs (bodyPost P fn (fun e w' => ∃ v m' B, e = .returned v ∧ m0.le m' ∧ R v m' B ∧ HW w0 m' (B ++ Rest) w') .ret) := fun a w ha hw =>
  ⟨ha.dfr, _, by rw [results_tmp4 hr]; rw [ha.val t v ht, ha.val u x hu, ha.val s y hs, ha.val r z hq], _, m, B, rfl, hm, hR, hw.ent hB⟩
end
end Go.J
namespace Go.J
open Go
section
variable {P : Program} {n : Nat} {F : Fr} {C : World → Prop}
theorem pr_move {x : Operand} {v : Value} (hx : ev F x = some v) : PR P n F C (.move x) v := fun _ _ _ _ _ a w ha _ => by
  simp only [execOp, ha.ev hx]; rfl
theorem pr_assign {x : Operand} {v : Value} (hx : ev F x = some v) : PR P n F C (.assign x) v := fun _ _ _ _ _ a w ha _ => by
  simp only [execOp, ha.ev hx]; rfl
theorem pr_pick_t {c x y : Operand} {v : Value} (hc : ev F c = some (.bool true)) (hx : ev F x = some v) : PR P n F C (.pick c x y) v := fun _ _ _ _ _ a w ha _ => by
  simp only [execOp, ha.ev hx, ha.ev hc]; rfl
theorem pr_pick_f {c x y : Operand} {v : Value} (hc : ev F c = some (.bool false)) (hy : ev F y = some v) : PR P n F C (.pick c x y) v := fun _ _ _ _ _ a w ha _ => by
  simp only [execOp, ha.ev hy, ha.ev hc]; rfl
theorem pr_nilCheck {x : Operand} {p : Addr} (hx : ev F x = some (.pointer (some p))) : PR P n F C (.nilCheck x) (.pointer (some p)) := fun _ _ _ _ _ a w ha _ => by
  simp only [execOp, ha.ev hx]; rfl
theorem pr_extract {x : Operand} {i : Nat} {vs : List Value} {v : Value} (hx : ev F x = some (.tuple vs.toArray)) (hv : vs[i]? = some v) : PR P n F C (.extract x i) v := fun _ _ _ _ _ a w ha _ => by
  simp only [execOp, ha.ev hx, Instr.extract, List.getElem?_toArray, hv]; rfl
/-! whole numbers -/
theorem pr_arith {x y : Operand} {k : IntKind} {p q : Int} {t u : TypeId} {op : BinOp} {v : Value} (hx : ev F x = some (.int k p)) (hy : ev F y = some (.int k q))
    (h : ∀ a : Act, a.eval x = .int k p → a.eval y = .int k q → ∀ d ty pos aft g w, (execOp a.eval ⟨d, .binOp op t x y u, ty, pos, aft, g⟩).run P w = .ok (.value v) w) : PR P n F C (.binOp op t x y u) v :=
  fun _ _ _ _ _ a w ha _ => h a (ha.ev hx) (ha.ev hy) _ _ _ _ _ w
theorem pr_add {x y : Operand} {k : IntKind} {p q r : Int} {t u : TypeId} (hx : ev F x = some (.int k p)) (hy : ev F y = some (.int k q)) (hr : k.wrap (p + q) = r) : PR P n F C (.binOp .add t x y u) (.int k r) :=
  pr_arith hx hy fun a h1 h2 _ _ _ _ _ w => by simp [execOp, h1, h2, eqGuard, binOp, Op.intArith, hr]
theorem pr_sub {x y : Operand} {k : IntKind} {p q r : Int} {t u : TypeId} (hx : ev F x = some (.int k p)) (hy : ev F y = some (.int k q)) (hr : k.wrap (p - q) = r) : PR P n F C (.binOp .sub t x y u) (.int k r) :=
  pr_arith hx hy fun a h1 h2 _ _ _ _ _ w => by simp [execOp, h1, h2, eqGuard, binOp, Op.intArith, hr]
theorem pr_mul {x y : Operand} {k : IntKind} {p q r : Int} {t u : TypeId} (hx : ev F x = some (.int k p)) (hy : ev F y = some (.int k q)) (hr : k.wrap (p * q) = r) : PR P n F C (.binOp .mul t x y u) (.int k r) :=
  pr_arith hx hy fun a h1 h2 _ _ _ _ _ w => by simp [execOp, h1, h2, eqGuard, binOp, Op.intArith, hr]
theorem pr_quo {x y : Operand} {k : IntKind} {p q r : Int} {t u : TypeId} (hx : ev F x = some (.int k p)) (hy : ev F y = some (.int k q)) (h0 : q ≠ 0) (hr : k.wrap (p.tdiv q) = r) : PR P n F C (.binOp .quo t x y u) (.int k r) :=
  pr_arith hx hy fun a h1 h2 _ _ _ _ _ w => by simp [execOp, h1, h2, eqGuard, binOp, Op.intDiv, hr, h0]
theorem pr_rem {x y : Operand} {k : IntKind} {p q r : Int} {t u : TypeId} (hx : ev F x = some (.int k p)) (hy : ev F y = some (.int k q)) (h0 : q ≠ 0) (hr : p.tmod q = r) : PR P n F C (.binOp .rem t x y u) (.int k r) :=
  pr_arith hx hy fun a h1 h2 _ _ _ _ _ w => by simp [execOp, h1, h2, eqGuard, binOp, Op.intDiv, hr, h0]
theorem pr_bits {op : BinOp} {x y : Operand} {k : IntKind} {p q : Int} {v : Value} {t u : TypeId} (hop : op = .and ∨ op = .or ∨ op = .xor ∨ op = .andNot) (hx : ev F x = some (.int k p)) (hy : ev F y = some (.int k q)) (hr : ∀ w, (Op.intBits op k p q).run P w = .ok v w) : PR P n F C (.binOp op t x y u) v :=
  pr_arith hx hy fun a h1 h2 _ _ _ _ _ w => by
    rcases hop with rfl | rfl | rfl | rfl <;> simp [execOp, h1, h2, eqGuard, binOp, hr]
theorem pr_shl {x y : Operand} {k k' : IntKind} {p q r : Int} {t u : TypeId} (hx : ev F x = some (.int k p)) (hy : ev F y = some (.int k' q)) (h0 : 0 ≤ q) (hr : k.wrap (p * 2 ^ (min q.toNat k.bits)) = r) : PR P n F C (.binOp .shl t x y u) (.int k r) :=
  fun _ _ _ _ _ a w ha _ => by simp [execOp, ha.ev hx, ha.ev hy, eqGuard, binOp, Op.shift, hr, show ¬ q < 0 by omega]
theorem pr_shr {x y : Operand} {k k' : IntKind} {p q r : Int} {t u : TypeId} (hx : ev F x = some (.int k p)) (hy : ev F y = some (.int k' q)) (h0 : 0 ≤ q) (hr : p.fdiv (2 ^ (min q.toNat k.bits)) = r) : PR P n F C (.binOp .shr t x y u) (.int k r) :=
  fun _ _ _ _ _ a w ha _ => by simp [execOp, ha.ev hx, ha.ev hy, eqGuard, binOp, Op.shift, hr, show ¬ q < 0 by omega]
theorem pr_lss {x y : Operand} {k : IntKind} {p q : Int} {t u : TypeId} (hx : ev F x = some (.int k p)) (hy : ev F y = some (.int k q)) : PR P n F C (.binOp .lss t x y u) (.bool (decide (p < q))) :=
  pr_arith hx hy fun a h1 h2 _ _ _ _ _ w => by simp [execOp, h1, h2, eqGuard, binOp, Op.intCmp]
theorem pr_leq {x y : Operand} {k : IntKind} {p q : Int} {t u : TypeId} (hx : ev F x = some (.int k p)) (hy : ev F y = some (.int k q)) : PR P n F C (.binOp .leq t x y u) (.bool (decide (p ≤ q))) :=
  pr_arith hx hy fun a h1 h2 _ _ _ _ _ w => by simp [execOp, h1, h2, eqGuard, binOp, Op.intCmp]
theorem pr_gtr {x y : Operand} {k : IntKind} {p q : Int} {t u : TypeId} (hx : ev F x = some (.int k p)) (hy : ev F y = some (.int k q)) : PR P n F C (.binOp .gtr t x y u) (.bool (decide (q < p))) :=
  pr_arith hx hy fun a h1 h2 _ _ _ _ _ w => by simp [execOp, h1, h2, eqGuard, binOp, Op.intCmp]
theorem pr_geq {x y : Operand} {k : IntKind} {p q : Int} {t u : TypeId} (hx : ev F x = some (.int k p)) (hy : ev F y = some (.int k q)) : PR P n F C (.binOp .geq t x y u) (.bool (decide (q ≤ p))) :=
  pr_arith hx hy fun a h1 h2 _ _ _ _ _ w => by simp [execOp, h1, h2, eqGuard, binOp, Op.intCmp]
theorem pr_eql {x y : Operand} {k : IntKind} {p q : Int} {t u : TypeId} (hx : ev F x = some (.int k p)) (hy : ev F y = some (.int k q)) : PR P n F C (.binOp .eql t x y u) (.bool (decide (p = q))) :=
  pr_arith hx hy fun a h1 h2 _ _ _ _ _ w => by simp [execOp, h1, h2, eqGuard, binOp, Op.intCmp]; rfl
theorem pr_neq {x y : Operand} {k : IntKind} {p q : Int} {t u : TypeId} (hx : ev F x = some (.int k p)) (hy : ev F y = some (.int k q)) : PR P n F C (.binOp .neq t x y u) (.bool (!decide (p = q))) :=
  pr_arith hx hy fun a h1 h2 _ _ _ _ _ w => by simp [execOp, h1, h2, eqGuard, binOp, Op.intCmp]; rfl
theorem pr_not {x : Operand} {b : Bool} {t : TypeId} (hx : ev F x = some (.bool b)) : PR P n F C (.unOp .not t x) (.bool !b) := fun _ _ _ _ _ a w ha _ => by
  simp [execOp, ha.ev hx, Op.unary]
theorem pr_neg {x : Operand} {k : IntKind} {p r : Int} {t : TypeId} (hx : ev F x = some (.int k p)) (hr : k.wrap (0 - p) = r) : PR P n F C (.unOp .neg t x) (.int k r) := fun _ _ _ _ _ a w ha _ => by
  simp only [execOp, ha.ev hx, Op.unary, Op.intArith, hr]; rfl
theorem pr_conv {x : Operand} {s d : TypeId} {k k' : IntKind} {p r : Int} (hs : ∃ e, P.underlying s = some (.int e)) (hd : P.underlying d = some (.int k')) (hx : ev F x = some (.int k p)) (hr : k'.wrap p = r) : PR P n F C (.convert s d x) (.int k' r) := fun _ _ _ _ _ a w ha _ => by
  obtain ⟨e, he⟩ := hs
  simp [execOp, ha.ev hx, convert, underlying, program, he, hd, Conv.intToInt, hr, Sem.run]
/-! bools, pointers against nil -/
theorem pr_eql_of {x y : Operand} {p q : Value} {t u : TypeId} {r : Bool} (hx : ev F x = some p) (hy : ev F y = some q)
    (hg : ∀ w, (eqGuard .eql t x y p q).run P w = .ok () w) (hb : binOp .eql t p q = (Op.equal t p q >>= fun b => pure (.bool b))) (he : ∀ w, C w → (Op.equal t p q).run P w = .ok r w) : PR P n F C (.binOp .eql t x y u) (.bool r) := fun _ _ _ _ _ a w ha hC => by
  simp only [execOp, ha.ev hx, ha.ev hy, hb]
  simp [hg, he w hC]
theorem pr_neq_of {x y : Operand} {p q : Value} {t u : TypeId} {r : Bool} (hx : ev F x = some p) (hy : ev F y = some q)
    (hg : ∀ w, (eqGuard .neq t x y p q).run P w = .ok () w) (hb : binOp .neq t p q = (Op.equal t p q >>= fun b => pure (.bool !b))) (he : ∀ w, C w → (Op.equal t p q).run P w = .ok r w) : PR P n F C (.binOp .neq t x y u) (.bool !r) := fun _ _ _ _ _ a w ha hC => by
  simp only [execOp, ha.ev hx, ha.ev hy, hb]
  simp [hg, he w hC]
theorem run_equal_bool {t : TypeId} {p q : Bool} (ht : P.underlying t = some .bool) (w : World) : (Op.equal t (.bool p) (.bool q)).run P w = .ok (p == q) w := by
  unfold Op.equal Op.maxDepth
  unfold Op.equalIn
  simp only [underlying, program, ht, Sem.run, bind, Sem.bind, pure]
theorem run_equal_nil {t e : TypeId} {p : Option Addr} (ht : P.underlying t = some (.pointer e)) (w : World) : (Op.equal t (.pointer p) (.pointer none)).run P w = .ok p.isNone w := by
  unfold Op.equal Op.maxDepth
  unfold Op.equalIn
  cases p <;> simp only [underlying, program, ht, Sem.run, bind, Sem.bind, pure, Option.isNone]
theorem pr_beql {x y : Operand} {p q : Bool} {t u : TypeId} (ht : P.underlying t = some .bool) (hx : ev F x = some (.bool p)) (hy : ev F y = some (.bool q)) : PR P n F C (.binOp .eql t x y u) (.bool (p == q)) :=
  pr_eql_of hx hy (fun _ => rfl) rfl (fun w _ => run_equal_bool ht w)
theorem pr_bneq {x y : Operand} {p q : Bool} {t u : TypeId} (ht : P.underlying t = some .bool) (hx : ev F x = some (.bool p)) (hy : ev F y = some (.bool q)) : PR P n F C (.binOp .neq t x y u) (.bool (!(p == q))) :=
  pr_neq_of hx hy (fun _ => rfl) rfl (fun w _ => run_equal_bool ht w)
theorem pr_peql {x y : Operand} {p : Option Addr} {t u e : TypeId} (ht : P.underlying t = some (.pointer e)) (hx : ev F x = some (.pointer p)) (hy : ev F y = some (.pointer none)) : PR P n F C (.binOp .eql t x y u) (.bool p.isNone) :=
  pr_eql_of hx hy (fun _ => rfl) (by cases p <;> rfl) (fun w _ => run_equal_nil ht w)
theorem pr_pneq {x y : Operand} {p : Option Addr} {t u e : TypeId} (ht : P.underlying t = some (.pointer e)) (hx : ev F x = some (.pointer p)) (hy : ev F y = some (.pointer none)) : PR P n F C (.binOp .neq t x y u) (.bool !p.isNone) :=
  pr_neq_of hx hy (fun _ => rfl) (by cases p <;> rfl) (fun w _ => run_equal_nil ht w)
/-! builtins -/
theorem pr_len_sl {x : Operand} {t e : TypeId} {p : Option Addr} {l c : Nat} (ht : P.underlying t = some (.slice e)) (hx : ev F x = some (.slice p l c)) : PR P n F C (.call ⟨.builtin .len, #[x], #[t]⟩) (.int .i64 l) := fun _ _ _ _ _ a w ha _ => by
  simp [execOp, resolve, invoke, builtin, ha.ev hx, Builtin.len_, underlying, program, ht, Sem.run, goInt]
theorem pr_len_st {x : Operand} {t : TypeId} {s : ByteArray} (ht : P.underlying t = some .string) (hx : ev F x = some (.string s)) : PR P n F C (.call ⟨.builtin .len, #[x], #[t]⟩) (.int .i64 s.size) := fun _ _ _ _ _ a w ha _ => by
  simp [execOp, resolve, invoke, builtin, ha.ev hx, Builtin.len_, underlying, program, ht, Sem.run, goInt]
theorem pr_min {x y : Operand} {k : IntKind} {p q : Int} {ts : Array TypeId} (hx : ev F x = some (.int k p)) (hy : ev F y = some (.int k q)) : PR P n F C (.call ⟨.builtin .min, #[x, y], ts⟩) (.int k (if q < p then q else p)) := fun _ _ _ _ _ a w ha _ => by
  simp [execOp, resolve, invoke, builtin, ha.ev hx, ha.ev hy, Builtin.min_, Builtin.min2]
theorem pr_max {x y : Operand} {k : IntKind} {p q : Int} {ts : Array TypeId} (hx : ev F x = some (.int k p)) (hy : ev F y = some (.int k q)) : PR P n F C (.call ⟨.builtin .max, #[x, y], ts⟩) (.int k (if p < q then q else p)) := fun _ _ _ _ _ a w ha _ => by
  simp [execOp, resolve, invoke, builtin, ha.ev hx, ha.ev hy, Builtin.max_, Builtin.max2]
end
/-- the lengths, for simp -/
theorem lns : (∀ (α : Type) (a b : List α), (a ++ b).length = a.length + b.length) ∧ (∀ (α : Type) (i : Nat) (a : List α), (a.take i).length = min i a.length) ∧ (∀ (α : Type) (i : Nat) (a : List α), (a.drop i).length = a.length - i) ∧
    (∀ (α : Type), ([] : List α).length = 0) ∧ (∀ (α : Type) (x : α) (a : List α), (x :: a).length = a.length + 1) ∧ (∀ (α : Type) (a : List α) (i : Nat) (x : α), (a.set i x).length = a.length) ∧ maxLen = 9223372036854775807 ∧
    (∀ (α : Type) (n : Nat) (x : α), (List.replicate n x).length = n) ∧ (∀ (α : Type) (β : Type) (f : α → β) (a : List α), (a.map f).length = a.length) :=
  ⟨fun _ _ _ => List.length_append, fun _ _ _ => List.length_take, fun _ _ _ => List.length_drop, fun _ => rfl, fun _ _ _ => rfl, fun _ _ _ _ => List.length_set, rfl, fun _ _ _ => List.length_replicate, fun _ _ _ _ => List.length_map ..⟩
end Go.J
namespace Go.J
open Go
/-! ### cells -/
def oneCell : Value → Bool
  | .agg _ | .tuple _ => false
  | _ => true
theorem World.cell_of {w : World} {b : Nat} {c : Array Value} {E : TypeId} {fz : Nat × Nat} (h : w.heap[b]? = some (.cells c E fz)) (o : Nat) : w.cell? ⟨b, o, none⟩ = c[o]? := by
  simp [World.cell?, h]
theorem Addr.add_eq (b o j : Nat) : (⟨b, o, none⟩ : Addr).add j = ⟨b, o + j, none⟩ := by
  unfold Addr.add
  split
  · rename_i h; subst h; rfl
  · rfl
theorem run_loadCellsFrom {P : Program} (w : World) (b o : Nat) : ∀ (k i : Nat) (acc : Array Value) (vs : List Value), vs.length = k → (∀ j, j < k → w.cell? ⟨b, o + (i + j), none⟩ = vs[j]?) →
    (loadCellsFrom ⟨b, o, none⟩ i k acc).run P w = .ok (acc ++ vs.toArray) w := by
  intro k
  induction k with
  | zero => intro i acc vs hl _; cases vs with
    | nil => simp [loadCellsFrom]
    | cons => cases hl
  | succ k ih =>
    intro i acc vs hl h
    cases vs with
    | nil => cases hl
    | cons v vs =>
      have h0 := h 0 (by omega)
      simp only [Nat.add_zero, List.getElem?_cons_zero] at h0
      have := ih (i + 1) (acc.push v) vs (by simpa using hl) (fun j hj => by
        have := h (j + 1) (by omega)
        simp only [List.getElem?_cons_succ] at this
        rw [← this, show i + 1 + j = i + (j + 1) by omega])
      unfold loadCellsFrom
      simp only [load, bind, Sem.bind, Sem.run, Addr.add_eq, h0]
      rw [show (loadCellsFrom ⟨b, o, none⟩ (i + 1) k (acc.push v)).run P w = _ from this]
      simp
theorem run_loadCells {P : Program} (w : World) (b o : Nat) (vs : List Value) (h : ∀ j, j < vs.length → w.cell? ⟨b, o + j, none⟩ = vs[j]?) : (loadCells ⟨b, o, none⟩ vs.length).run P w = .ok vs.toArray w := by
  unfold loadCells
  rw [run_loadCellsFrom w b o vs.length 0 #[] vs rfl (fun j hj => by rw [Nat.zero_add]; exact h j hj)]
  simp
def isAggB (P : Program) (t : TypeId) : Option Bool :=
  match P.underlying t with
  | some (.struct _) | some (.array _ _) => some true
  | some _ => some false
  | none => none
def sizeB (P : Program) (t : TypeId) : Option Nat := match P.info? t with
  | some i => some i.size
  | none => none
theorem run_isAgg {P : Program} {t : TypeId} {b : Bool} (h : isAggB P t = some b) (w : World) : (isAgg t).run P w = .ok b w := by
  unfold isAggB at h
  unfold isAgg
  cases hu : P.underlying t with
  | none => rw [hu] at h; cases h
  | some d =>
    rw [hu] at h
    have hr : (underlying t).run P w = .ok d w := by simp only [underlying, program, bind, Sem.bind, Sem.run, hu]; rfl
    simp only [Sem.run_bind]
    rw [hr]
    cases d <;> simp at h <;> subst h <;> rfl
theorem run_sizeOf {P : Program} {t : TypeId} {k : Nat} (h : sizeB P t = some k) (w : World) : (sizeOf t).run P w = .ok k w := by
  unfold sizeB at h
  unfold sizeOf typeInfo
  cases hi : P.info? t with
  | none => rw [hi] at h; cases h
  | some i =>
    rw [hi] at h
    cases h
    simp only [program, bind, Sem.bind, Sem.run, hi]; rfl
theorem run_loadVar1 {P : Program} {t : TypeId} {w : World} {b o : Nat} {v : Value} (ht : isAggB P t = some false) (hc : w.cell? ⟨b, o, none⟩ = some v) : (loadVar t ⟨b, o, none⟩).run P w = .ok v w := by
  unfold loadVar
  simp only [Sem.run_bind]
  rw [run_isAgg ht]
  simp [Result.andThen, load, Sem.run, hc]
theorem run_loadVarN {P : Program} {t : TypeId} {w : World} {b o : Nat} {vs : List Value} (ht : isAggB P t = some true) (hs : sizeB P t = some vs.length) (hc : ∀ j, j < vs.length → w.cell? ⟨b, o + j, none⟩ = vs[j]?) :
    (loadVar t ⟨b, o, none⟩).run P w = .ok (.agg vs.toArray) w := by
  unfold loadVar
  simp only [Sem.run_bind]
  rw [run_isAgg ht]
  simp only [Result.andThen, if_true, Sem.run_bind]
  rw [run_sizeOf hs]
  simp only []
  rw [run_loadCells w b o vs hc]
  rfl
/-- writes a list into a list -/
def putl : List Value → Nat → List Value → Option (List Value)
  | cs, 0, [] => some cs
  | [], 0, _ :: _ => none
  | _ :: cs, 0, v :: vs => match putl cs 0 vs with
    | some r => some (v :: r)
    | none => none
  | [], _ + 1, _ => none
  | c :: cs, o + 1, vs => match putl cs o vs with
    | some r => some (c :: r)
    | none => none
def nthl : List Value → Nat → Option Value
  | [], _ => none
  | c :: _, 0 => some c
  | _ :: cs, o + 1 => nthl cs o
def subl : List Value → Nat → Nat → Option (List Value)
  | _, 0, 0 => some []
  | [], 0, _ + 1 => none
  | c :: cs, 0, k + 1 => match subl cs 0 k with
    | some r => some (c :: r)
    | none => none
  | [], _ + 1, _ => none
  | _ :: cs, o + 1, k => subl cs o k
theorem nthl_eq : ∀ (cs : List Value) (o : Nat), nthl cs o = cs[o]?
  | [], _ => by simp [nthl]
  | _ :: _, 0 => rfl
  | _ :: cs, o + 1 => by rw [nthl, nthl_eq cs o]; rfl
theorem subl_length : ∀ (cs : List Value) (o k : Nat) (r : List Value), subl cs o k = some r → r.length = k
  | _, 0, 0, r, h => by cases r with
    | nil => rfl
    | cons => simp [subl] at h
  | [], 0, _ + 1, _, h => by simp [subl] at h
  | c :: cs, 0, k + 1, r, h => by
    simp only [subl] at h
    cases hh : subl cs 0 k with
    | none => rw [hh] at h; cases h
    | some r' => rw [hh] at h; cases h; simp [subl_length cs 0 k r' hh]
  | [], _ + 1, _, _, h => by simp [subl] at h
  | _ :: cs, o + 1, k, r, h => by simp only [subl] at h; exact subl_length cs o k r h
theorem subl_get : ∀ (cs : List Value) (o k : Nat) (r : List Value), subl cs o k = some r → ∀ j, j < k → cs[o + j]? = r[j]?
  | _, 0, 0, _, _, j, hj => by omega
  | [], 0, _ + 1, _, h, _, _ => by simp [subl] at h
  | c :: cs, 0, k + 1, r, h, j, hj => by
    simp only [subl] at h
    cases hh : subl cs 0 k with
    | none => rw [hh] at h; cases h
    | some r' =>
      rw [hh] at h; cases h
      cases j with
      | zero => rfl
      | succ j =>
        have := subl_get cs 0 k r' hh j (by omega)
        simpa [Nat.zero_add] using this
  | [], _ + 1, _, _, h, _, _ => by simp [subl] at h
  | _ :: cs, o + 1, k, r, h, j, hj => by
    simp only [subl] at h
    have := subl_get cs o k r h j hj
    rw [show o + 1 + j = (o + j) + 1 by omega]
    simpa using this
/-! ### resources: a block -/
def Res.blk (b : Nat) (E : TypeId) (cs : List Value) : Res where
  p w s := w.heap[b]? = some (.cells cs.toArray E (0, 0)) ∧ ∀ k, s k ↔ k = b
  loc := fun ⟨h, hs⟩ he => ⟨by rw [he _ ((hs _).2 rfl)]; exact h, hs⟩
  dom := fun ⟨h, hs⟩ hk => by
    have := (hs _).1 hk; subst this
    exact (Array.getElem?_eq_some_iff.1 h).1
inductive Repl : List Res → Res → Res → List Res → Prop
  | here {R R' : Res} {Rs : List Res} : Repl (R :: Rs) R R' (R' :: Rs)
  | there {X R R' : Res} {Rs Rs' : List Res} : Repl Rs R R' Rs' → Repl (X :: Rs) R R' (X :: Rs')
/-! one out of the first ten -/
section
variable {X0 X1 X2 X3 X4 X5 X6 X7 X8 X9 R R' : Res} {Rs : List Res}
theorem pk0 : Pick (R :: Rs) R (Rs) := .here
theorem pk1 : Pick (X0 :: R :: Rs) R (X0 :: Rs) := .there (.here)
theorem pk2 : Pick (X0 :: X1 :: R :: Rs) R (X0 :: X1 :: Rs) := .there (.there (.here))
theorem pk3 : Pick (X0 :: X1 :: X2 :: R :: Rs) R (X0 :: X1 :: X2 :: Rs) := .there (.there (.there (.here)))
theorem pk4 : Pick (X0 :: X1 :: X2 :: X3 :: R :: Rs) R (X0 :: X1 :: X2 :: X3 :: Rs) := .there (.there (.there (.there (.here))))
theorem pk5 : Pick (X0 :: X1 :: X2 :: X3 :: X4 :: R :: Rs) R (X0 :: X1 :: X2 :: X3 :: X4 :: Rs) := .there (.there (.there (.there (.there (.here)))))
theorem pk6 : Pick (X0 :: X1 :: X2 :: X3 :: X4 :: X5 :: R :: Rs) R (X0 :: X1 :: X2 :: X3 :: X4 :: X5 :: Rs) := .there (.there (.there (.there (.there (.there (.here))))))
theorem pk7 : Pick (X0 :: X1 :: X2 :: X3 :: X4 :: X5 :: X6 :: R :: Rs) R (X0 :: X1 :: X2 :: X3 :: X4 :: X5 :: X6 :: Rs) := .there (.there (.there (.there (.there (.there (.there (.here)))))))
theorem pk8 : Pick (X0 :: X1 :: X2 :: X3 :: X4 :: X5 :: X6 :: X7 :: R :: Rs) R (X0 :: X1 :: X2 :: X3 :: X4 :: X5 :: X6 :: X7 :: Rs) := .there (.there (.there (.there (.there (.there (.there (.there (.here))))))))
theorem pk9 : Pick (X0 :: X1 :: X2 :: X3 :: X4 :: X5 :: X6 :: X7 :: X8 :: R :: Rs) R (X0 :: X1 :: X2 :: X3 :: X4 :: X5 :: X6 :: X7 :: X8 :: Rs) := .there (.there (.there (.there (.there (.there (.there (.there (.there (.here)))))))))
theorem rp0 : Repl (R :: Rs) R R' (R' :: Rs) := .here
theorem rp1 : Repl (X0 :: R :: Rs) R R' (X0 :: R' :: Rs) := .there (.here)
theorem rp2 : Repl (X0 :: X1 :: R :: Rs) R R' (X0 :: X1 :: R' :: Rs) := .there (.there (.here))
theorem rp3 : Repl (X0 :: X1 :: X2 :: R :: Rs) R R' (X0 :: X1 :: X2 :: R' :: Rs) := .there (.there (.there (.here)))
theorem rp4 : Repl (X0 :: X1 :: X2 :: X3 :: R :: Rs) R R' (X0 :: X1 :: X2 :: X3 :: R' :: Rs) := .there (.there (.there (.there (.here))))
theorem rp5 : Repl (X0 :: X1 :: X2 :: X3 :: X4 :: R :: Rs) R R' (X0 :: X1 :: X2 :: X3 :: X4 :: R' :: Rs) := .there (.there (.there (.there (.there (.here)))))
theorem rp6 : Repl (X0 :: X1 :: X2 :: X3 :: X4 :: X5 :: R :: Rs) R R' (X0 :: X1 :: X2 :: X3 :: X4 :: X5 :: R' :: Rs) := .there (.there (.there (.there (.there (.there (.here))))))
theorem rp7 : Repl (X0 :: X1 :: X2 :: X3 :: X4 :: X5 :: X6 :: R :: Rs) R R' (X0 :: X1 :: X2 :: X3 :: X4 :: X5 :: X6 :: R' :: Rs) := .there (.there (.there (.there (.there (.there (.there (.here)))))))
theorem rp8 : Repl (X0 :: X1 :: X2 :: X3 :: X4 :: X5 :: X6 :: X7 :: R :: Rs) R R' (X0 :: X1 :: X2 :: X3 :: X4 :: X5 :: X6 :: X7 :: R' :: Rs) := .there (.there (.there (.there (.there (.there (.there (.there (.here))))))))
theorem rp9 : Repl (X0 :: X1 :: X2 :: X3 :: X4 :: X5 :: X6 :: X7 :: X8 :: R :: Rs) R R' (X0 :: X1 :: X2 :: X3 :: X4 :: X5 :: X6 :: X7 :: X8 :: R' :: Rs) := .there (.there (.there (.there (.there (.there (.there (.there (.there (.here)))))))))
end
theorem Repl.picks {Rs Rs' : List Res} {R R' : Res} (h : Repl Rs R R' Rs') : ∃ T, Pick Rs R T ∧ Pick Rs' R' T := by
  induction h with
  | here => exact ⟨_, .here, .here⟩
  | there _ ih => obtain ⟨T, h1, h2⟩ := ih; exact ⟨_, .there h1, .there h2⟩
section
variable {P : Program} {n : Nat} {w0 : World} {F : Fr} {m : Mem} {Rs : List Res} {Q : Exit → Act → World → Prop} {K : Act → World → Prop} {C : World → Prop}
theorem HW.blk {w : World} (h : HW w0 m Rs w) {b : Nat} {E : TypeId} {cs : List Value} {Rs' : List Res} (hp : Pick Rs (.blk b E cs) Rs') : w.heap[b]? = some (.cells cs.toArray E (0, 0)) :=
  let ⟨_, h1, _⟩ := h.get hp
  h1
/-- one block is written: the list turns at its place -/
theorem HW.upd {w : World} (h : HW w0 m Rs w) {b : Nat} {R R' : Res} {Rs' : List Res} (hp : Repl Rs R R' Rs') {w' : World}
    (hos : w'.os = w.os) (htape : w'.tape = w.tape) (hout : w'.output = w.output) (hsz : w.heap.size ≤ w'.heap.size)
    (hin : ∀ s, R.p w s → s b) (hold : ∀ k, k < w.heap.size → k ≠ b → w'.heap[k]? = w.heap[k]?) (hnew : ∀ s, R.p w s → ∃ s', R'.p w' s' ∧ ∀ k, s' k → s k ∨ w.heap.size ≤ k) (hdr : w.drawn ≤ w'.drawn := by first | exact Nat.le_refl _ | exact Nat.le_succ _ | exact run_drawn _ (by assumption)) : HW w0 m Rs' w' := by
  obtain ⟨T, h1, h2⟩ := hp.picks
  obtain ⟨s, hs, hm⟩ := (h.ent (Ent.of_pick h1)).res
  obtain ⟨s1, s2, hR, hT, hd, he⟩ := hs
  obtain ⟨s1', hR', hsub⟩ := hnew s1 hR
  have hT' : Sat T w' s2 := Sat.loc hT fun k hk => hold k (Sat.dom hT hk) (fun e => hd k ⟨by rw [e]; exact hin s1 hR, hk⟩)
  refine HW.ent (Rs := R' :: T) ⟨hos.trans h.os, htape.trans h.tape, hout.trans h.output, Nat.le_trans h.size hsz, Nat.le_trans h.dr hdr, fun k o hk => ?_, fun k => s1' k ∨ s2 k, ⟨s1', s2, hR', hT', ?_, fun _ => Iff.rfl⟩, ?_⟩ (Ent.to_pick h2)
  · have hk' := h.mem k o hk
    have hlt := (Array.getElem?_eq_some_iff.1 hk').1
    rw [hold k hlt (fun e => ?_)]
    · exact hk'
    · have := hm k ((he k).2 (.inl (by rw [e]; exact hin s1 hR)))
      rw [this] at hk; cases hk
  · rintro k ⟨x, y⟩
    rcases hsub k x with x | x
    · exact hd k ⟨x, y⟩
    · have := Sat.dom hT y; omega
  · rintro k (x | x)
    · rcases hsub k x with x | x
      · exact hm k ((he k).2 (.inl x))
      · cases hk : m k with
        | none => rfl
        | some o =>
          have := (Array.getElem?_eq_some_iff.1 (h.mem k o hk)).1
          omega
    · exact hm k ((he k).2 (.inr x))
/-- a new resource, all of it in new blocks -/
theorem HW.add {w : World} (h : HW w0 m Rs w) {R : Res} {w' : World}
    (hos : w'.os = w.os) (htape : w'.tape = w.tape) (hout : w'.output = w.output) (hsz : w.heap.size ≤ w'.heap.size)
    (hold : ∀ k, k < w.heap.size → w'.heap[k]? = w.heap[k]?) (hnew : ∃ s', R.p w' s' ∧ ∀ k, s' k → w.heap.size ≤ k) (hdr : w.drawn ≤ w'.drawn := by first | exact Nat.le_refl _ | exact Nat.le_succ _ | exact run_drawn _ (by assumption)) : HW w0 m (R :: Rs) w' := by
  obtain ⟨s, hs, hm⟩ := h.res
  obtain ⟨s', hR, hge⟩ := hnew
  refine ⟨hos.trans h.os, htape.trans h.tape, hout.trans h.output, Nat.le_trans h.size hsz, Nat.le_trans h.dr hdr, fun k o hk => ?_, fun k => s' k ∨ s k, ⟨s', s, hR, Sat.loc hs fun k hk => hold k (Sat.dom hs hk), ?_, fun _ => Iff.rfl⟩, ?_⟩
  · have hk' := h.mem k o hk
    rw [hold k (Array.getElem?_eq_some_iff.1 hk').1]; exact hk'
  · rintro k ⟨x, y⟩
    have := Sat.dom hs y
    have := hge k x
    omega
  · rintro k (x | x)
    · cases hk : m k with
      | none => rfl
      | some o =>
        have := (Array.getElem?_eq_some_iff.1 (h.mem k o hk)).1
        have := hge k x
        omega
    · exact hm k x
theorem HW.alloc {w : World} (h : HW w0 m Rs w) (E : TypeId) (cs : List Value) : HW w0 m (.blk w.heap.size E cs :: Rs) { w with heap := w.heap.push (.cells cs.toArray E (0, 0)) } :=
  h.add rfl rfl rfl (by simp) (fun k hk => by simp [Array.getElem?_push, Nat.ne_of_lt hk]) ⟨fun k => k = w.heap.size, ⟨by simp, fun _ => Iff.rfl⟩, fun k hk => by simp_all⟩
/-- an owned block becomes memory that stays as it is -/
theorem At.freeze {b : Nat} {E : TypeId} {cs : List Value} {Rs' : List Res} (hp : Pick Rs (.blk b E cs) Rs')
    (h : ∀ m' : Mem, m.le m' → m' b = some (.cells cs.toArray E (0, 0)) → At n w0 F m' Rs' K) : At n w0 F m Rs K := fun a w ha hw => by
  obtain ⟨s, ⟨s1, s2, ⟨h1, hs1⟩, h2, hd, he⟩, hm⟩ := (hw.ent (Ent.of_pick hp)).res
  have hmb : m b = none := hm b ((he b).2 (.inl ((hs1 b).2 rfl)))
  refine h (fun k => if k = b then some (.cells cs.toArray E (0, 0)) else m k) (fun k o hk => ?_) (if_pos rfl) a w ha
    ⟨hw.os, hw.tape, hw.output, hw.size, hw.dr, fun k o hk => ?_, s2, h2, fun k hk => ?_⟩
  · show (if k = b then _ else _) = _
    rw [if_neg (fun e => by subst e; rw [hmb] at hk; cases hk)]; exact hk
  · by_cases e : k = b
    · subst e
      rw [if_pos rfl] at hk; cases hk; exact h1
    · rw [if_neg e] at hk; exact hw.mem k o hk
  · show (if k = b then _ else _) = _
    rw [if_neg (fun e => hd k ⟨(hs1 k).2 e, hk⟩)]
    exact hm k ((he k).2 (.inr hk))
/-! ### loads -/
theorem pr_load1 {x : Operand} {t : TypeId} {b o : Nat} {v : Value} (ht : isAggB P t = some false) (hx : ev F x = some (.pointer (some ⟨b, o, none⟩))) (hc : ∀ w, C w → w.cell? ⟨b, o, none⟩ = some v) : PR P n F C (.load t x) v := fun _ _ _ _ _ a w ha hC => by
  simp only [execOp, ha.ev hx, Instr.loadAt, Instr.sureAddr, Sem.run_bind]
  simp only [pure, Sem.run, Result.andThen]
  rw [run_loadVar1 ht (hc w hC)]
theorem pr_loadN {x : Operand} {t : TypeId} {b o : Nat} {vs : List Value} (ht : isAggB P t = some true) (hx : ev F x = some (.pointer (some ⟨b, o, none⟩))) (hs : sizeB P t = some vs.length) (hc : ∀ w, C w → ∀ j, j < vs.length → w.cell? ⟨b, o + j, none⟩ = vs[j]?) : PR P n F C (.load t x) (.agg vs.toArray) := fun _ _ _ _ _ a w ha hC => by
  simp only [execOp, ha.ev hx, Instr.loadAt, Instr.sureAddr, Sem.run_bind]
  simp only [pure, Sem.run, Result.andThen]
  rw [run_loadVarN ht hs (hc w hC)]
theorem pr_load_blk1 {x : Operand} {t : TypeId} {b o : Nat} {E : TypeId} {cs : List Value} {Rs' : List Res} {v : Value} (ht : isAggB P t = some false) (hx : ev F x = some (.pointer (some ⟨b, o, none⟩)))
    (hp : Pick Rs (.blk b E cs) Rs') (hv : nthl cs o = some v) : PR P n F (HW w0 m Rs) (.load t x) v :=
  pr_load1 ht hx fun w hC => by rw [World.cell_of (hC.blk hp)]; rw [nthl_eq] at hv; simpa using hv
theorem pr_load_blkN {x : Operand} {t : TypeId} {b o : Nat} {E : TypeId} {cs : List Value} {Rs' : List Res} {k : Nat} {vs : List Value} (ht : isAggB P t = some true) (hx : ev F x = some (.pointer (some ⟨b, o, none⟩)))
    (hs : sizeB P t = some k) (hp : Pick Rs (.blk b E cs) Rs') (hv : subl cs o k = some vs) : PR P n F (HW w0 m Rs) (.load t x) (.agg vs.toArray) :=
  have hl := subl_length cs o k vs hv
  pr_loadN ht hx (by rw [hl]; exact hs) fun w hC j hj => by
    rw [World.cell_of (hC.blk hp)]
    rw [← subl_get cs o k vs hv j (by omega)]
    simp
theorem pr_load_mem1 {x : Operand} {t : TypeId} {b o : Nat} {E : TypeId} {fz : Nat × Nat} {cs : List Value} {v : Value} (ht : isAggB P t = some false) (hx : ev F x = some (.pointer (some ⟨b, o, none⟩)))
    (hp : m b = some (.cells cs.toArray E fz)) (hv : nthl cs o = some v) : PR P n F (HW w0 m Rs) (.load t x) v :=
  pr_load1 ht hx fun w hC => by rw [World.cell_of (hC.mem _ _ hp)]; rw [nthl_eq] at hv; simpa using hv
theorem pr_load_memN {x : Operand} {t : TypeId} {b o : Nat} {E : TypeId} {fz : Nat × Nat} {cs : List Value} {k : Nat} {vs : List Value} (ht : isAggB P t = some true) (hx : ev F x = some (.pointer (some ⟨b, o, none⟩)))
    (hs : sizeB P t = some k) (hp : m b = some (.cells cs.toArray E fz)) (hv : subl cs o k = some vs) : PR P n F (HW w0 m Rs) (.load t x) (.agg vs.toArray) :=
  have hl := subl_length cs o k vs hv
  pr_loadN ht hx (by rw [hl]; exact hs) fun w hC j hj => by
    rw [World.cell_of (hC.mem _ _ hp)]
    rw [← subl_get cs o k vs hv j (by omega)]
    simp
/-! ### fields -/
def litN : Nat → Option Nat
  | 0 => some 0
  | 1 => some 1
  | 2 => some 2
  | 3 => some 3
  | 4 => some 4
  | 5 => some 5
  | 6 => some 6
  | 7 => some 7
  | 8 => some 8
  | 9 => some 9
  | 10 => some 10
  | 11 => some 11
  | 12 => some 12
  | 13 => some 13
  | 14 => some 14
  | 15 => some 15
  | 16 => some 16
  | 17 => some 17
  | 18 => some 18
  | 19 => some 19
  | 20 => some 20
  | 21 => some 21
  | 22 => some 22
  | 23 => some 23
  | 24 => some 24
  | 25 => some 25
  | 26 => some 26
  | 27 => some 27
  | 28 => some 28
  | 29 => some 29
  | 30 => some 30
  | 31 => some 31
  | 32 => some 32
  | 33 => some 33
  | 34 => some 34
  | 35 => some 35
  | 36 => some 36
  | 37 => some 37
  | 38 => some 38
  | 39 => some 39
  | 40 => some 40
  | 41 => some 41
  | 42 => some 42
  | 43 => some 43
  | 44 => some 44
  | 45 => some 45
  | 46 => some 46
  | 47 => some 47
  | 48 => some 48
  | 49 => some 49
  | 50 => some 50
  | 51 => some 51
  | 52 => some 52
  | 53 => some 53
  | 54 => some 54
  | 55 => some 55
  | 56 => some 56
  | 57 => some 57
  | 58 => some 58
  | 59 => some 59
  | 60 => some 60
  | 61 => some 61
  | 62 => some 62
  | 63 => some 63
  | n => some n
theorem litN_eq (n : Nat) : litN n = some n := by unfold litN; split <;> rfl
def fieldB (P : Program) (s : TypeId) (f : Nat) : Option Nat :=
  match P.underlying s with
  | some (.struct fs) => match fs[f]? with
    | some fd => match P.info? fd.type with
      | some i => match i.size with
        | 0 => none
        | _ + 1 => litN fd.offset
      | none => none
    | none => none
  | _ => none
theorem run_fieldAt {P : Program} {s : TypeId} {f off : Nat} (h : fieldB P s f = some off) (a : Addr) (w : World) : (Instr.fieldAt s (.pointer (some a)) f).run P w = .ok (.pointer (some (a.add off))) w := by
  unfold fieldB at h
  unfold Instr.fieldAt
  cases hu : P.underlying s with
  | none => rw [hu] at h; cases h
  | some d =>
    rw [hu] at h
    have hr : (underlying s).run P w = .ok d w := by simp only [underlying, program, bind, Sem.bind, Sem.run, hu]; rfl
    cases d <;> simp at h
    rename_i fs
    simp only [Sem.run_bind]
    rw [hr]
    simp only [Result.andThen]
    cases hf : fs[f]? with
    | none => rw [hf] at h; cases h
    | some fd =>
      rw [hf] at h
      simp only at h ⊢
      cases hi : P.info? fd.type with
      | none => rw [hi] at h; cases h
      | some i =>
        rw [hi] at h
        simp only at h
        have hsz : (sizeOf fd.type).run P w = .ok i.size w := run_sizeOf (by simp [sizeB, hi]) w
        cases hz : i.size with
        | zero => rw [hz] at h; cases h
        | succ q =>
          rw [hz] at h hsz
          simp only [litN_eq] at h
          cases h
          simp only [Instr.sureAddr, fieldPlace, pure, Sem.run_bind, Sem.run, Result.andThen]
          rw [hsz]
          simp
theorem pr_fieldAddr {x : Operand} {s : TypeId} {f off b o : Nat} (hx : ev F x = some (.pointer (some ⟨b, o, none⟩))) (hf : fieldB P s f = some off) : PR P n F C (.fieldAddr s x f) (.pointer (some ⟨b, o + off, none⟩)) := fun _ _ _ _ _ a w ha _ => by
  simp only [execOp, ha.ev hx, Sem.run_bind]
  rw [run_fieldAt hf, Addr.add_eq]
  rfl
theorem pr_fieldAddrL {x : Operand} {s : TypeId} {f off b o r : Nat} (hx : ev F x = some (.pointer (some ⟨b, o, none⟩))) (hf : fieldB P s f = some off) (hr : litN (o + off) = some r) : PR P n F C (.fieldAddr s x f) (.pointer (some ⟨b, r, none⟩)) := by
  rw [litN_eq] at hr; cases hr
  exact pr_fieldAddr hx hf
theorem pr_fieldAddr0 {x : Operand} {s : TypeId} {f off b : Nat} (hx : ev F x = some (.pointer (some ⟨b, 0, none⟩))) (hf : fieldB P s f = some off) : PR P n F C (.fieldAddr s x f) (.pointer (some ⟨b, off, none⟩)) := by
  have := pr_fieldAddr (C := C) (n := n) hx hf
  rwa [Nat.zero_add] at this
/-! ### stores, new variables -/
def cellsB : Value → Option (List Value)
  | .agg cs => flat cs.toList
  | v => some [v]
theorem cellsB_eq {v : Value} {vs : List Value} (h : cellsB v = some vs) : v.cells = vs.toArray := by
  cases v <;> simp only [cellsB] at h
  case agg cs => rw [flat_eq _ _ h]; simp [Value.cells]
  all_goals (cases h; rfl)
theorem run_storeCells {P : Program} {b : Nat} {E : TypeId} : ∀ (vs : List Value) (i o : Nat) (cs r : List Value) (w : World), w.heap[b]? = some (.cells cs.toArray E (0, 0)) → vs.all oneCell = true → putl cs (o + i) vs = some r →
    ∃ w', (storeCells ⟨b, o, none⟩ vs i).run P w = .ok () w' ∧ w'.heap[b]? = some (.cells r.toArray E (0, 0)) ∧ (∀ k, k ≠ b → w'.heap[k]? = w.heap[k]?) ∧ w'.heap.size = w.heap.size ∧ w'.os = w.os ∧ w'.tape = w.tape ∧ w'.output = w.output := by
  intro vs
  induction vs with
  | nil =>
    intro i o cs r w hb _ hp
    have : r = cs := by
      clear hb
      generalize o + i = k at hp
      induction k generalizing cs r with
      | zero => cases cs <;> simp [putl] at hp <;> first | exact hp | exact hp.symm
      | succ k ih =>
        cases cs with
        | nil => simp [putl] at hp
        | cons c cs =>
          simp only [putl] at hp
          cases hh : putl cs k [] with
          | none => rw [hh] at hp; cases hp
          | some r' => rw [hh] at hp; cases hp; rw [ih cs r' hh]
    subst this
    exact ⟨w, rfl, hb, fun _ _ => rfl, rfl, rfl, rfl, rfl⟩
  | cons v vs ih =>
    intro i o cs r w hb h1 hp
    simp only [List.all_cons, Bool.and_eq_true] at h1
    have key : ∀ (k : Nat) (cs r : List Value), putl cs k (v :: vs) = some r → k < cs.length ∧ putl (cs.set k v) (k + 1) vs = some r := by
      intro k
      induction k with
      | zero =>
        intro cs r hp
        cases cs with
        | nil => simp [putl] at hp
        | cons c cs =>
          simp only [putl] at hp
          cases hh : putl cs 0 vs with
          | none => rw [hh] at hp; cases hp
          | some r' => rw [hh] at hp; cases hp; exact ⟨by simp, by simp [putl, hh]⟩
      | succ k ih =>
        intro cs r hp
        cases cs with
        | nil => simp [putl] at hp
        | cons c cs =>
          simp only [putl] at hp
          cases hh : putl cs k (v :: vs) with
          | none => rw [hh] at hp; cases hp
          | some r' =>
            rw [hh] at hp; cases hp
            have := ih cs r' hh
            exact ⟨by simp; omega, by simp [putl, this.2]⟩
    obtain ⟨hlt, hp'⟩ := key _ cs r hp
    have hb' : (w.setCell ⟨b, o + i, none⟩ v).heap[b]? = some (.cells (cs.set (o + i) v).toArray E (0, 0)) := by
      simp only [World.setCell, Array.getElem?_modify, if_true, hb, Option.map_some]
      simp
    obtain ⟨w', hr, h2, h3, h4, h5, h6, h7⟩ := ih (i + 1) o _ r _ hb' h1.2 (by rw [← Nat.add_assoc]; exact hp')
    refine ⟨w', ?_, h2, fun k hk => ?_, ?_, h5, h6, h7⟩
    · unfold storeCells
      have hcell : w.cell? ⟨b, o + i, none⟩ = some cs[o + i] := by rw [World.cell_of hb]; simp [hlt]
      have hfz : w.frozen? ⟨b, o + i, none⟩ = false := by simp [World.frozen?, hb]
      simp only [store, bind, Sem.bind, Addr.add_eq]
      cases v <;> simp [oneCell] at h1 <;> simp only [Sem.run, hcell, hfz] <;> simpa using hr
    · rw [h3 k hk]
      simp only [World.setCell, Array.getElem?_modify]
      rw [if_neg (Ne.symm hk)]
    · rw [h4]; simp [World.setCell]
theorem At.store {ops : Array Oper} {rest : List Oper} {t : TypeId} {x y : Operand} {ty : TypeId} {pos : String} {aft : Array Edge} {b o : Nat} {v : Value} {vs cs r : List Value} {E : TypeId} {Rs' : List Res} {k : Nat}
    (hx : ev F x = some (.pointer (some ⟨b, o, none⟩))) (hy : ev F y = some v) (hv : cellsB v = some vs) (hs : sizeB P t = some k) (hk : vs.length = k) (h1 : vs.all oneCell = true)
    (hr : ∃ cs', cs' = cs ∧ putl cs' o vs = some r) (hp : Repl Rs (.blk b E cs) (.blk b E r) Rs')
    (h : At n w0 F m Rs' (wpList P ops Q rest)) : At n w0 F m Rs (wpList P ops Q (⟨none, .store t x y, ty, pos, aft, none⟩ :: rest)) := fun a w ha hw =>
  wpList_plain rfl fun K hK => by
    obtain ⟨cs', e, hr⟩ := hr
    subst e
    obtain ⟨T, hp1, _⟩ := hp.picks
    have hb := hw.blk hp1
    have hvc : v.cells.toList = vs := by
      rw [cellsB_eq hv]
    obtain ⟨w', hrun, h2, h3, h4, h5, h6, h7⟩ := run_storeCells (P := P) vs 0 o cs' r w hb h1 hr
    have hrun' : (execOp a.eval ⟨none, .store t x y, ty, pos, aft, none⟩).run P w = .ok .skip w' := by
      simp only [execOp, ha.ev hx, ha.ev hy, Instr.storeAt, Instr.sureAddr, storeVar, pure, Sem.run_bind, Sem.run, Result.andThen]
      rw [run_sizeOf hs]
      have : v.cells.size = k := by rw [← hk, ← hvc]; simp
      simp only [this, ne_eq, not_true, if_false]
      rw [hvc, hrun]
    unfold Oper.wp
    rw [hrun']
    exact hK _ _ (h _ _ ha (hw.upd hp h5 h6 h7 (by omega) (fun s hs => (hs.2 b).2 rfl) (fun k _ hk => h3 k hk) (fun s hs => ⟨s, ⟨h2, hs.2⟩, fun k hk => .inl hk⟩)))
def zeroB (P : Program) (t : TypeId) : Option (List Value) := match P.info? t with
  | some i => match i.zero with
    | some z => cellsB z
    | none => none
  | none => none
theorem At.alloc {ops : Array Oper} {rest : List Oper} {d : Nat} {t : TypeId} {ty : TypeId} {pos : String} {aft : Array Edge} {zs : List Value} (hz : zeroB P t = some zs) (hd : Nat.blt d n = true)
    (h : ∀ b, At n w0 ((d, .pointer (some ⟨b, 0, none⟩)) :: F) m (.blk b t zs :: Rs) (wpList P ops Q rest)) : At n w0 F m Rs (wpList P ops Q (⟨some d, .alloc t, ty, pos, aft, none⟩ :: rest)) := fun a w ha hw =>
  wpList_plain rfl fun K hK => by
    have hz' : ∃ i z, P.info? t = some i ∧ i.zero = some z ∧ z.cells = zs.toArray := by
      unfold zeroB at hz
      cases hi : P.info? t with
      | none => rw [hi] at hz; cases hz
      | some i =>
        rw [hi] at hz
        simp only at hz
        cases hzz : i.zero with
        | none => rw [hzz] at hz; cases hz
        | some z =>
          rw [hzz] at hz
          exact ⟨i, z, rfl, hzz, cellsB_eq hz⟩
    obtain ⟨i, z, hi, hzz, hc⟩ := hz'
    unfold Oper.wp
    have : (execOp a.eval ⟨some d, .alloc t, ty, pos, aft, none⟩).run P w = .ok (.value (.pointer (some ⟨w.heap.size, 0, none⟩))) { w with heap := w.heap.push (.cells zs.toArray t (0, 0)) } := by
      simp only [execOp, Instr.alloc, zeroValue, typeInfo, program, newVar, newRow, newObj, hi, hzz, hc, Sem.run, bind, Sem.bind, pure]
    rw [this]
    exact hK _ _ (h _ _ _ (ha.put hd) (hw.alloc t zs))
theorem At.box {ops : Array Oper} {rest : List Oper} {d : Nat} {t : TypeId} {x : Operand} {ty : TypeId} {pos : String} {aft : Array Edge} {v : Value} {zs : List Value} (hx : ev F x = some v) (hz : cellsB v = some zs) (hd : Nat.blt d n = true)
    (h : ∀ b, At n w0 ((d, .pointer (some ⟨b, 0, none⟩)) :: F) m (.blk b t zs :: Rs) (wpList P ops Q rest)) : At n w0 F m Rs (wpList P ops Q (⟨some d, .box t x, ty, pos, aft, none⟩ :: rest)) := fun a w ha hw =>
  wpList_plain rfl fun K hK => by
    have hc : v.cells = zs.toArray := cellsB_eq hz
    unfold Oper.wp
    have : (execOp a.eval ⟨some d, .box t x, ty, pos, aft, none⟩).run P w = .ok (.value (.pointer (some ⟨w.heap.size, 0, none⟩))) { w with heap := w.heap.push (.cells zs.toArray t (0, 0)) } := by
      simp only [execOp, ha.ev hx, Instr.box, newVar, newRow, newObj, hc, Sem.run, bind, Sem.bind, pure]
    rw [this]
    exact hK _ _ (h _ _ _ (ha.put hd) (hw.alloc t zs))
/-! ### calls -/
def evs (F : Fr) : List Operand → Option (List Value)
  | [] => some []
  | x :: xs => match ev F x with
    | some v => match evs F xs with
      | some vs => some (v :: vs)
      | none => none
    | none => none
theorem evs_map {a : Act} (ha : HF n F a) : ∀ (xs : List Operand) (vs : List Value), evs F xs = some vs → xs.map a.eval = vs
  | [], vs, h => by cases h; rfl
  | x :: xs, vs, h => by
    simp only [evs] at h
    cases hx : ev F x with
    | none => rw [hx] at h; cases h
    | some v =>
      rw [hx] at h
      simp only at h
      cases hxs : evs F xs with
      | none => rw [hxs] at h; cases h
      | some us =>
        rw [hxs] at h; cases h
        simp [ha.ev hx, evs_map ha xs us hxs]
/-- the callee is a Go function that the text names -/
def goFn (P : Program) (f : FuncId) : Bool := match P.funcs[f]? with
  | some fn => fn.body.isSome && !(fn.name == "runtime.NumGoroutine")
  | none => false
theorem run_callFunc {f : FuncId} (hg : goFn P f = true) (args : Array Value) (w : World) : (callFunc f args).run P w = .ok (.enter f args) w := by
  unfold goFn at hg
  cases hf : P.funcs[f]? with
  | none => rw [hf] at hg; cases hg
  | some fn =>
    rw [hf] at hg
    simp only [Bool.and_eq_true, Bool.not_eq_true'] at hg
    unfold callFunc
    simp only [program, bind, Sem.bind, Sem.run, hf, hg.2]
    have : fn.body.isNone = false := by
      cases hb : fn.body with
      | none => rw [hb] at hg; simp at hg
      | some c => rfl
    simp [this, pure]
theorem At.call {ops : Array Oper} {rest : List Oper} {d : Option Nat} {f : FuncId} {xs : List Operand} {ts : Array TypeId} {ty : TypeId} {pos : String} {aft : Array Edge} {vs : List Value} {A Rest : List Res} {R : Value → Mem → List Res → Prop}
    (hg : goFn P f = true) (hx : evs F xs = some vs) (hd : d.all (Nat.blt · n) = true) (hc : Ct P f vs.toArray m A R) (hA : Ent Rs (A ++ Rest))
    (h : ∀ v m' B, m.le m' → R v m' B → At n w0 (d.elim F (fun d => (d, v) :: F)) m' (B ++ Rest) (wpList P ops Q rest)) :
    At n w0 F m Rs (wpList P ops Q (⟨d, .call ⟨.value (.func f), xs.toArray, ts⟩, ty, pos, aft, none⟩ :: rest)) := fun a w ha hw =>
  wpList_plain rfl fun K hK => by
    unfold Oper.wp
    have : (execOp a.eval ⟨d, .call ⟨.value (.func f), xs.toArray, ts⟩, ty, pos, aft, none⟩).run P w = .ok (.enter f vs.toArray) w := by
      rw [execOp_call_go]
      have : (#[] ++ xs.toArray.map a.eval ++ #[] : Array Value) = vs.toArray := by simp [evs_map ha xs vs hx]
      rw [this, run_callFunc hg]
    rw [this]
    refine (hc w0 Rest w (hw.ent hA)).mono ?_
    rintro e w' ⟨v, m', B, rfl, hm, hR, hw'⟩
    refine hK _ _ (h v m' B hm hR _ _ ?_ hw')
    cases d with
    | none => exact ha
    | some d => exact ha.put (by simpa using hd)
/-- A call that yields a value and leaves all as it is. -/
def Pu (P : Program) (f : FuncId) (args : Array Value) (V : Value) : Prop := ∀ m, Ct P f args m [] (fun v m' B => v = V ∧ m' = m ∧ B = [])
theorem Pu.intro {f : FuncId} {args : Array Value} {V : Value} (h : ∀ m, Ct P f args m [] (fun v m' B => v = V ∧ m' = m ∧ B = [])) : Pu P f args V := h
theorem Pu.calls {f : FuncId} {args : Array Value} {V : Value} (h : Pu P f args V) {w : World} (hw : HW w0 m Rs w) : Calls P f args w fun e w' => e = .returned V ∧ HW w0 m Rs w' :=
  (h m w0 Rs w hw).mono fun _ _ ⟨v, m', B, he, _, ⟨hv, hm', hB⟩, hw'⟩ => by subst hv hm' hB; exact ⟨he, hw'⟩
theorem At.callp {ops : Array Oper} {rest : List Oper} {d : Nat} {f : FuncId} {xs : List Operand} {ts : Array TypeId} {ty : TypeId} {pos : String} {aft : Array Edge} {vs : List Value} {V : Value}
    (hg : goFn P f = true) (hx : evs F xs = some vs) (hd : Nat.blt d n = true) (hc : Pu P f vs.toArray V)
    (h : At n w0 ((d, V) :: F) m Rs (wpList P ops Q rest)) :
    At n w0 F m Rs (wpList P ops Q (⟨some d, .call ⟨.value (.func f), xs.toArray, ts⟩, ty, pos, aft, none⟩ :: rest)) :=
  At.call (A := []) (Rest := Rs) hg hx (by simpa using hd) (hc m) (Ent.refl _) fun v m' B _ ⟨hv, hm', hB⟩ => by subst hv hm' hB; exact h
/-- guards, case by case -/
theorem At.guard_nt {ops : Array Oper} {rest : List Oper} {d : Nat} {op : Op} {ty : TypeId} {pos : String} {aft : Array Edge} {j : Nat} {t : Nat}
    (hj : (ops[j]?).bind (·.dst) = some t) (ht : look t F = some (.bool false)) (hd : Nat.blt d n = true) (h : At n w0 ((d, undef) :: F) m Rs (wpList P ops Q rest)) :
    At n w0 F m Rs (wpList P ops Q (⟨some d, op, ty, pos, aft, some (j, true)⟩ :: rest)) := At.guard_n hj ht (by simp) hd h
theorem At.guard_nf {ops : Array Oper} {rest : List Oper} {d : Nat} {op : Op} {ty : TypeId} {pos : String} {aft : Array Edge} {j : Nat} {t : Nat}
    (hj : (ops[j]?).bind (·.dst) = some t) (ht : look t F = some (.bool true)) (hd : Nat.blt d n = true) (h : At n w0 ((d, undef) :: F) m Rs (wpList P ops Q rest)) :
    At n w0 F m Rs (wpList P ops Q (⟨some d, op, ty, pos, aft, some (j, false)⟩ :: rest)) := At.guard_n hj ht (by simp) hd h
theorem At.guard_nu {ops : Array Oper} {rest : List Oper} {d : Nat} {op : Op} {ty : TypeId} {pos : String} {aft : Array Edge} {j : Nat} {want : Bool} {t : Nat}
    (hj : (ops[j]?).bind (·.dst) = some t) (ht : look t F = some undef) (hd : Nat.blt d n = true) (h : At n w0 ((d, undef) :: F) m Rs (wpList P ops Q rest)) :
    At n w0 F m Rs (wpList P ops Q (⟨some d, op, ty, pos, aft, some (j, want)⟩ :: rest)) := At.guard_n hj ht (by simp [undef]) hd h
theorem At.guard_s {ops : Array Oper} {rest : List Oper} {d : Option Nat} {op : Op} {ty : TypeId} {pos : String} {aft : Array Edge} {j : Nat} {want : Bool} {t : Nat} {b : Bool}
    (hj : (ops[j]?).bind (·.dst) = some t) (ht : look t F = some (.bool b))
    (h1 : b = true → At n w0 ((t, .bool true) :: F) m Rs (wpList P ops Q (⟨d, op, ty, pos, aft, some (j, want)⟩ :: rest)))
    (h2 : b = false → At n w0 ((t, .bool false) :: F) m Rs (wpList P ops Q (⟨d, op, ty, pos, aft, some (j, want)⟩ :: rest))) :
    At n w0 F m Rs (wpList P ops Q (⟨d, op, ty, pos, aft, some (j, want)⟩ :: rest)) := by
  have _ := hj
  exact At.bsplit ht h1 h2
end
end Go.J
namespace Go.J
open Go
section
variable {P : Program} {n : Nat} {w0 : World} {F : Fr} {m : Mem} {Rs : List Res} {Q : Exit → Act → World → Prop} {K : Act → World → Prop} {C : World → Prop}
theorem At.regionf {id : Nat} {l0 l : List Oper} (e : flat l0 = some l) (h : At n w0 F m Rs (wpList P l.toArray Q l)) : At n w0 F m Rs ((Code.region id l0.toArray false).wp P Q) := by
  have := flat_eq l0 l e; subst this; exact At.region h
def AtQ (P : Program) (n : Nat) (F : Fr) (C : World → Prop) (ops : Array Oper) (Qq : Act → Prop) (rest : List Oper) : Prop := ∀ a, HF n F a → wpQuiet P ops C Qq rest a
theorem At.quiet {id : Nat} {l0 l : List Oper} (e : flat l0 = some l) (hm : P.follows .mixedOrders = true) (hB : Region.lexB .any l.toArray = true)
    (h : AtQ P n F (HW w0 m Rs) l.toArray (fun a' => ∀ w', HW w0 m Rs w' → Q .normal a' w') l) : At n w0 F m Rs ((Code.region id l0.toArray true).wp P Q) := fun a w ha hw => by
  have := flat_eq l0 l e; subst this
  exact wp_region_quiet (C := HW w0 m Rs) hm hB (hw.drawn _) (by simpa using h a ha)
variable {ops : Array Oper} {rest : List Oper} {Qq : Act → Prop}
theorem AtQ.nil (h : At n w0 F m Rs (Q .normal)) : AtQ P n F (HW w0 m Rs) ops (fun a' => ∀ w', HW w0 m Rs w' → Q .normal a' w') [] := fun a ha => wpQuiet_nil fun w' hw' => h a w' ha hw'
theorem AtQ.val {d : Nat} {op : Op} {ty : TypeId} {pos : String} {aft : Array Edge} {v : Value} (hp : PR P n F C op v) (hd : Nat.blt d n = true)
    (h : AtQ P n ((d, v) :: F) C ops Qq rest) : AtQ P n F C ops Qq (⟨some d, op, ty, pos, aft, none⟩ :: rest) := fun a ha => by
  unfold wpQuiet
  rw [if_pos (by simp [Region.wanted])]
  refine ⟨v, fun w hw => ?_, h _ (ha.put hd)⟩
  unfold Oper.quietAt
  rw [hp _ _ _ _ _ a w ha hw]
  exact ⟨rfl, rfl⟩
theorem AtQ.callp {d : Nat} {f : FuncId} {xs : List Operand} {ts : Array TypeId} {ty : TypeId} {pos : String} {aft : Array Edge} {vs : List Value} {V : Value}
    (hg : goFn P f = true) (hx : evs F xs = some vs) (hd : Nat.blt d n = true) (hc : Pu P f vs.toArray V)
    (h : AtQ P n ((d, V) :: F) (HW w0 m Rs) ops Qq rest) : AtQ P n F (HW w0 m Rs) ops Qq (⟨some d, .call ⟨.value (.func f), xs.toArray, ts⟩, ty, pos, aft, none⟩ :: rest) := fun a ha => by
  unfold wpQuiet
  rw [if_pos (by simp [Region.wanted])]
  refine ⟨V, fun w hw => ?_, h _ (ha.put hd)⟩
  unfold Oper.quietAt
  have : (execOp a.eval ⟨some d, .call ⟨.value (.func f), xs.toArray, ts⟩, ty, pos, aft, none⟩).run P w = .ok (.enter f vs.toArray) w := by
    rw [execOp_call_go]
    have : (#[] ++ xs.toArray.map a.eval ++ #[] : Array Value) = vs.toArray := by simp [evs_map ha xs vs hx]
    rw [this, run_callFunc hg]
  rw [this]
  exact ⟨rfl, hc.calls hw⟩
theorem yielded_of {a : Act} (ha : HF n F a) {j t : Nat} {b : Bool} (hj : (ops[j]?).bind (·.dst) = some t) (ht : look t F = some (.bool b)) (htn : Nat.blt t n = true) : yielded ops a.tmps j = some b := by
  have hv := ha.val t _ ht
  have hlt : t < a.tmps.size := by rw [ha.siz]; exact Nat.le_of_ble_eq_true htn
  unfold yielded
  rw [hj]
  simp only [Option.bind_some]
  rw [Array.getElem?_eq_getElem hlt]
  simp only [Array.getD_eq_getD_getElem?, Array.getElem?_eq_getElem hlt, Option.getD_some] at hv
  rw [hv]
theorem yielded_ne {a : Act} (ha : HF n F a) {j t : Nat} {v : Value} {want : Bool} (hj : (ops[j]?).bind (·.dst) = some t) (ht : look t F = some v) (hv : v ≠ .bool want) : ¬ (yielded ops a.tmps j == some want) = true := by
  have hx := ha.val t _ ht
  unfold yielded
  rw [hj]
  simp only [Option.bind_some]
  rcases Nat.lt_or_ge t a.tmps.size with hlt | hge
  · rw [Array.getElem?_eq_getElem hlt]
    simp only [Array.getD_eq_getD_getElem?, Array.getElem?_eq_getElem hlt, Option.getD_some] at hx
    rw [hx]
    cases v with
    | bool b => simp; intro e; subst e; exact hv rfl
    | _ => simp
  · rw [Array.getElem?_eq_none hge]; simp
theorem AtQ.guard_y {d : Option Tmp} {op : Op} {ty : TypeId} {pos : String} {aft : Array Edge} {j : Nat} {want : Bool} {t : Nat}
    (hj : (ops[j]?).bind (·.dst) = some t) (ht : look t F = some (.bool want)) (htn : Nat.blt t n = true) (h : AtQ P n F C ops Qq (⟨d, op, ty, pos, aft, none⟩ :: rest)) :
    AtQ P n F C ops Qq (⟨d, op, ty, pos, aft, some (j, want)⟩ :: rest) := fun a ha => by
  have h' := h a ha
  unfold wpQuiet at h' ⊢
  rw [if_pos (by simp [Region.wanted])] at h'
  rw [if_pos (by simp [Region.wanted, yielded_of ha hj ht htn])]
  exact h'
theorem AtQ.guard_n {d : Nat} {op : Op} {ty : TypeId} {pos : String} {aft : Array Edge} {j : Nat} {want : Bool} {t : Nat} {v : Value}
    (hj : (ops[j]?).bind (·.dst) = some t) (ht : look t F = some v) (hv : v ≠ .bool want) (hd : Nat.blt d n = true) (h : AtQ P n ((d, undef) :: F) C ops Qq rest) :
    AtQ P n F C ops Qq (⟨some d, op, ty, pos, aft, some (j, want)⟩ :: rest) := fun a ha => by
  have h' := h _ (ha.put hd)
  unfold wpQuiet
  rw [if_neg (by simpa [Region.wanted] using yielded_ne ha hj ht hv)]
  exact h'
theorem AtQ.guard_nt {d : Nat} {op : Op} {ty : TypeId} {pos : String} {aft : Array Edge} {j : Nat} {t : Nat}
    (hj : (ops[j]?).bind (·.dst) = some t) (ht : look t F = some (.bool false)) (hd : Nat.blt d n = true) (h : AtQ P n ((d, undef) :: F) C ops Qq rest) :
    AtQ P n F C ops Qq (⟨some d, op, ty, pos, aft, some (j, true)⟩ :: rest) := AtQ.guard_n hj ht (by simp) hd h
theorem AtQ.guard_nf {d : Nat} {op : Op} {ty : TypeId} {pos : String} {aft : Array Edge} {j : Nat} {t : Nat}
    (hj : (ops[j]?).bind (·.dst) = some t) (ht : look t F = some (.bool true)) (hd : Nat.blt d n = true) (h : AtQ P n ((d, undef) :: F) C ops Qq rest) :
    AtQ P n F C ops Qq (⟨some d, op, ty, pos, aft, some (j, false)⟩ :: rest) := AtQ.guard_n hj ht (by simp) hd h
theorem AtQ.guard_nu {d : Nat} {op : Op} {ty : TypeId} {pos : String} {aft : Array Edge} {j : Nat} {want : Bool} {t : Nat}
    (hj : (ops[j]?).bind (·.dst) = some t) (ht : look t F = some undef) (hd : Nat.blt d n = true) (h : AtQ P n ((d, undef) :: F) C ops Qq rest) :
    AtQ P n F C ops Qq (⟨some d, op, ty, pos, aft, some (j, want)⟩ :: rest) := AtQ.guard_n hj ht (by simp [undef]) hd h
theorem AtQ.note {t : Nat} {v v' : Value} {l : List Oper} (ht : look t F = some v) (e : v = v') (h : AtQ P n ((t, v') :: F) C ops Qq l) : AtQ P n F C ops Qq l := fun a ha => h a (ha.note ht e)
theorem AtQ.guard_s {d : Option Nat} {op : Op} {ty : TypeId} {pos : String} {aft : Array Edge} {j : Nat} {want : Bool} {t : Nat} {b : Bool}
    (hj : (ops[j]?).bind (·.dst) = some t) (ht : look t F = some (.bool b))
    (h1 : b = true → AtQ P n ((t, .bool true) :: F) C ops Qq (⟨d, op, ty, pos, aft, some (j, want)⟩ :: rest))
    (h2 : b = false → AtQ P n ((t, .bool false) :: F) C ops Qq (⟨d, op, ty, pos, aft, some (j, want)⟩ :: rest)) :
    AtQ P n F C ops Qq (⟨d, op, ty, pos, aft, some (j, want)⟩ :: rest) := by
  have _ := hj
  cases b
  · exact AtQ.note ht rfl (h2 rfl)
  · exact AtQ.note ht rfl (h1 rfl)
end
end Go.J
