/- Part 3 of what the law's proof needs: rules of the walk, contracts of functions, plain laws. No condition. -/
import Derived.Test.YtijgnbedilipdaaTdEZ2
import Derived.OrdersHeld
import Derived.Laws.Strings
import Derived.WideShapes
set_option linter.unusedSimpArgs false
set_option linter.unusedVariables false
set_option linter.unusedSectionVars false
set_option maxRecDepth 20000
namespace Go.J
open Go
/-! ### lists of resources, whatever their order -/
theorem Sat_append {A B : List Res} {w : World} {s : Nat → Prop} : Sat (A ++ B) w s ↔ ∃ s1 s2, Sat A w s1 ∧ Sat B w s2 ∧ (∀ k, ¬ (s1 k ∧ s2 k)) ∧ (∀ k, s k ↔ s1 k ∨ s2 k) := by
  induction A generalizing s with
  | nil =>
    constructor
    · intro h; exact ⟨fun _ => False, s, fun _ h => h, h, fun _ h => h.1, fun k => by simp⟩
    · rintro ⟨s1, s2, h1, h2, _, he⟩
      have : s = s2 := by funext k; apply propext; rw [he]; exact ⟨fun x => x.resolve_left (h1 k), .inr⟩
      subst this; exact h2
  | cons R A ih =>
    constructor
    · rintro ⟨s1, s2, h1, h2, hd, he⟩
      obtain ⟨t1, t2, g1, g2, gd, ge⟩ := ih.1 h2
      refine ⟨fun k => s1 k ∨ t1 k, t2, ⟨s1, t1, h1, g1, fun k ⟨x, y⟩ => hd k ⟨x, (ge k).2 (.inl y)⟩, fun _ => Iff.rfl⟩, g2, ?_, fun k => ?_⟩
      · rintro k ⟨x | x, y⟩
        · exact hd k ⟨x, (ge k).2 (.inr y)⟩
        · exact gd k ⟨x, y⟩
      · rw [he, ge, or_assoc]
    · rintro ⟨s1, s2, ⟨t1, t2, g1, g2, gd, ge⟩, h2, hd, he⟩
      refine ⟨t1, fun k => t2 k ∨ s2 k, g1, ih.2 ⟨t2, s2, g2, h2, fun k ⟨x, y⟩ => hd k ⟨(ge k).2 (.inr x), y⟩, fun _ => Iff.rfl⟩, ?_, fun k => ?_⟩
      · rintro k ⟨x, y | y⟩
        · exact gd k ⟨x, y⟩
        · exact hd k ⟨(ge k).2 (.inl x), y⟩
      · rw [he, ge, or_assoc]
def Eqv (A B : List Res) : Prop := ∀ w s, Sat A w s ↔ Sat B w s
theorem Eqv.refl (A : List Res) : Eqv A A := fun _ _ => Iff.rfl
theorem Eqv.symm {A B : List Res} (h : Eqv A B) : Eqv B A := fun w s => (h w s).symm
theorem Eqv.trans {A B C : List Res} (h : Eqv A B) (h' : Eqv B C) : Eqv A C := fun w s => (h w s).trans (h' w s)
theorem Eqv.append {A A' B B' : List Res} (h : Eqv A A') (h' : Eqv B B') : Eqv (A ++ B) (A' ++ B') := fun w s => by
  rw [Sat_append, Sat_append]; simp only [h w, h' w]
theorem Eqv.comm (A B : List Res) : Eqv (A ++ B) (B ++ A) := fun w s => by
  rw [Sat_append, Sat_append]
  constructor
  · rintro ⟨s1, s2, h1, h2, hd, he⟩
    exact ⟨s2, s1, h2, h1, fun k x => hd k x.symm, fun k => by rw [he, or_comm]⟩
  · rintro ⟨s1, s2, h1, h2, hd, he⟩
    exact ⟨s2, s1, h2, h1, fun k x => hd k x.symm, fun k => by rw [he, or_comm]⟩
theorem Eqv.ent {A B : List Res} (h : Eqv A B) : Ent A B := fun w s hs => ⟨s, (h w s).1 hs, fun _ x => x⟩
/-- the first ones, out of the second, leave the third -/
inductive Take : List Res → List Res → List Res → Prop
  | nil {R : List Res} : Take [] R R
  | cons {X : Res} {A R R1 Y : List Res} : Pick R X R1 → Take A R1 Y → Take (X :: A) R Y
theorem Take.eqv {A R Y : List Res} (h : Take A R Y) : Eqv R (A ++ Y) := by
  induction h with
  | nil => exact Eqv.refl _
  | @cons X A R R1 Y hp _ ih =>
    intro w s
    rw [Sat.pick hp]
    have := Eqv.append (Eqv.refl [X]) ih w s
    simpa using this
/-- the second is the third, and the first -/
inductive Left : List Res → List Res → List Res → Prop
  | base {R : List Res} : Left R R []
  | cons {X : Res} {A R R1 Y : List Res} : Pick R X R1 → Left A R1 Y → Left (X :: A) R Y
  | extra {X : Res} {A R Y : List Res} : Left A R Y → Left A (X :: R) (X :: Y)
theorem Left.eqv {A R Y : List Res} (h : Left A R Y) : Eqv R (Y ++ A) := by
  induction h with
  | base => exact Eqv.refl _
  | @cons X A R R1 Y hp _ ih =>
    have h1 : Eqv R (X :: R1) := fun w s => Sat.pick hp
    have h2 : Eqv (X :: R1) ([X] ++ (Y ++ A)) := Eqv.append (A := [X]) (Eqv.refl _) ih
    have h3 : Eqv ([X] ++ (Y ++ A)) (Y ++ (X :: A)) := by
      have := Eqv.append (Eqv.comm [X] Y) (Eqv.refl A)
      rw [List.append_assoc, List.append_assoc] at this
      exact this
    exact h1.trans (h2.trans h3)
  | @extra X A R Y _ ih =>
    have h : Eqv ([X] ++ R) ([X] ++ (Y ++ A)) := Eqv.append (Eqv.refl _) ih
    exact h
/-- the first ones, out of the second, and what stands behind the third; all else is forgotten -/
inductive Keep : List Res → List Res → List Res → Prop
  | nil {R : List Res} : Keep [] R R
  | skip {X : Res} {R Y : List Res} : Keep [] R Y → Keep [] (X :: R) Y
  | cons {X : Res} {A R R1 Y : List Res} : Pick R X R1 → Keep A R1 Y → Keep (X :: A) R Y
theorem Keep.ent {A R Y : List Res} (h : Keep A R Y) : Ent R (A ++ Y) := by
  induction h with
  | nil => exact Ent.refl _
  | skip _ ih => exact (Ent.drop _ _).trans ih
  | cons hp _ ih => exact (Ent.of_pick hp).trans (Ent.cons _ ih)
def Sup (A B : List Res) : Prop := ∃ Y, Eqv B (A ++ Y)
theorem Sup.refl (A : List Res) : Sup A A := ⟨[], by rw [List.append_nil]; exact Eqv.refl _⟩
theorem Sup.trans {A B C : List Res} (h : Sup A B) (h' : Sup B C) : Sup A C :=
  let ⟨Y, hy⟩ := h
  let ⟨Z, hz⟩ := h'
  ⟨Y ++ Z, hz.trans (by rw [← List.append_assoc]; exact Eqv.append hy (Eqv.refl _))⟩
theorem Sup.front (X A : List Res) : Sup A (X ++ A) := ⟨X, Eqv.comm _ _⟩
theorem Sup.ent {A B : List Res} (h : Sup A B) : Ent B A := fun w s hs => by
  obtain ⟨Y, hy⟩ := h
  obtain ⟨s1, s2, h1, _, _, he⟩ := Sat_append.1 ((hy w s).1 hs)
  exact ⟨s1, h1, fun k x => (he k).2 (.inl x)⟩
theorem Take.sup {A R Y : List Res} (h : Take A R Y) : Sup A R := ⟨Y, h.eqv⟩
/-- the first ahead of the second, reckoned -/
def apd : List Res → List Res → Option (List Res)
  | [], Rs => some Rs
  | x :: X, Rs => match apd X Rs with
    | some r => some (x :: r)
    | none => none
theorem apd_eq : ∀ (X Rs R : List Res), apd X Rs = some R → R = X ++ Rs
  | [], _, _, h => by cases h; rfl
  | x :: X, Rs, R, h => by
    simp only [apd] at h
    cases hh : apd X Rs with
    | none => rw [hh] at h; cases h
    | some r => rw [hh] at h; cases h; rw [apd_eq X Rs r hh]; rfl
/-! ### plans -/
inductive Plan
  | done
  | q (i : Nat) (p : Plan)
  | l (i : Nat) (p : Plan)
  | x (i : Nat) (p : Plan)
  | b (i j : Nat) (p r : Plan)
  | t (i j k : Nat) (p q r : Plan)
def markAfter (ops : Array Oper) (i : Nat) (marks : Array Bool) : Array Bool :=
  match ops[i]? with
  | some o => o.after.toList.foldl (fun (m : Array Bool) e => if Region.binds .any e then m.setIfInBounds e.on true else m) marks
  | none => marks
/-- an operation whose value no memory tells -/
def memless (o : Oper) : Bool := match o.op with
  | .move _ => true
  | .assign _ => true
  | .nilCheck _ => true
  | .fieldAddr _ _ _ => true
  | .extract _ _ => true
  | .binOp .add _ _ _ _ => true
  | .binOp .sub _ _ _ _ => true
  | _ => false
def memlessAt (ops : Array Oper) (k : Nat) : Bool := match ops[k]? with
  | some o => memless o
  | none => false
def coverB (ops : Array Oper) (s : Array Bool) : Nat → Array Bool → Bool
  | 0, _ => true
  | k + 1, marks => if s.getD k false then (if memlessAt ops k then coverB ops s k (if marks.getD k false then markAfter ops k marks else marks) else marks.getD k false && coverB ops s k (markAfter ops k marks)) else coverB ops s k marks
/-- whatever has come up, this one waited for it, or for one that did -/
def barrierB (ops : Array Oper) (s : Array Bool) (i : Nat) : Bool := coverB ops s ops.size (markAfter ops i (Array.replicate ops.size false))
def Closed (ops : Array Oper) (s : Array Bool) : Prop := ∀ k o, ops[k]? = some o → s.getD k false = true → ∀ e ∈ o.after, Region.binds .any e = true → s.getD e.on false = true
theorem Closed.empty (ops : Array Oper) (n : Nat) : Closed ops (Array.replicate n false) := fun k o _ hk => by
  exfalso
  rcases Nat.lt_or_ge k n with h | h
  · simp [h] at hk
  · simp [Array.getElem?_eq_none (by simpa using h : (Array.replicate n false).size ≤ k)] at hk
theorem Closed.set {ops : Array Oper} {s : Array Bool} (h : Closed ops s) {i : Nat} (hi : i ∈ Region.ready .any ops s) : Closed ops (s.setIfInBounds i true) := fun k o hk hl e he hb => by
  by_cases hik : i = k
  · subst hik
    obtain ⟨_, o', ho', hall⟩ := mem_ready.1 hi
    rw [hk] at ho'; cases ho'
    exact getD_set_true (hall e he hb)
  · rw [getD_set_ne false hik] at hl
    exact getD_set_true (h k o hk hl e he hb)
theorem fold_marks {s' : Array Bool} : ∀ (es : List Edge) (marks : Array Bool), (∀ k, marks.getD k false = true → s'.getD k false = true) → (∀ e ∈ es, Region.binds .any e = true → s'.getD e.on false = true) →
    ∀ k, (es.foldl (fun (m : Array Bool) e => if Region.binds .any e then m.setIfInBounds e.on true else m) marks).getD k false = true → s'.getD k false = true
  | [], _, h, _, k, hk => h k hk
  | e :: es, marks, h, he, k, hk => by
    refine fold_marks es _ (fun k' hk' => ?_) (fun e' h' => he e' (List.mem_cons_of_mem _ h')) k hk
    by_cases hb : Region.binds .any e = true
    · simp only [hb, if_true] at hk'
      by_cases hek : e.on = k'
      · subst hek; exact he e (List.mem_cons_self ..) hb
      · rw [getD_set_ne false hek] at hk'; exact h k' hk'
    · simp only [hb] at hk'; exact h k' hk'
theorem mark_after {ops : Array Oper} {s' : Array Bool} {i : Nat} {o : Oper} (ho : ops[i]? = some o) {marks : Array Bool} (h : ∀ k, marks.getD k false = true → s'.getD k false = true)
    (he : ∀ e ∈ o.after, Region.binds .any e = true → s'.getD e.on false = true) : ∀ k, (markAfter ops i marks).getD k false = true → s'.getD k false = true := by
  unfold markAfter
  rw [ho]
  exact fold_marks _ _ h (fun e h' => he e (by simpa using h'))
theorem coverB_spec {ops : Array Oper} {s s' : Array Bool} (hc : Closed ops s') : ∀ (n : Nat) (marks : Array Bool), n ≤ ops.size → (∀ k, marks.getD k false = true → s'.getD k false = true) → coverB ops s n marks = true → ∀ k, k < n → s.getD k false = true → memlessAt ops k = false → s'.getD k false = true
  | 0, _, _, _, _, k, hk, _, _ => by omega
  | n + 1, marks, hn, hm, hB, k, hk, hs, hz => by
    unfold coverB at hB
    have ho : ops[n]? = some ops[n] := by simp
    by_cases hsn : s.getD n false = true
    · simp only [hsn, if_true] at hB
      cases hmn : memlessAt ops n with
      | true =>
        simp only [hmn, if_true] at hB
        have hkn : k ≠ n := fun e => by subst e; rw [hmn] at hz; cases hz
        by_cases hmk : marks.getD n false = true
        · simp only [hmk, if_true] at hB
          exact coverB_spec hc n _ (by omega) (mark_after ho hm (hc n _ ho (hm n hmk))) hB k (by omega) hs hz
        · simp only [hmk] at hB
          exact coverB_spec hc n _ (by omega) hm hB k (by omega) hs hz
      | false =>
        simp only [hmn, Bool.false_eq_true, if_false, Bool.and_eq_true] at hB
        have hn' := hm n hB.1
        by_cases hkn : k = n
        · subst hkn; exact hn'
        · exact coverB_spec hc n _ (by omega) (mark_after ho hm (hc n _ ho hn')) hB.2 k (by omega) hs hz
    · simp only [hsn] at hB
      by_cases hkn : k = n
      · subst hkn; exact absurd hs hsn
      · exact coverB_spec hc n _ (by omega) hm hB k (by omega) hs hz
def planB (ops : Array Oper) : Nat → Array Bool → Plan → Bool
  | _, s, .done => (Region.ready .any ops s).isEmpty
  | f + 1, s, .q i p => (Region.ready .any ops s).contains i && Region.free .any ops s i && planB ops f (s.setIfInBounds i true) p
  | f + 1, s, .l i p => (Region.ready .any ops s == [i]) && planB ops f (s.setIfInBounds i true) p
  | f + 1, s, .x i p => (Region.ready .any ops s == [i]) && barrierB ops s i && planB ops f (s.setIfInBounds i true) p
  | f + 1, s, .b i j p r => (Region.ready .any ops s == [i, j]) && planB ops f (s.setIfInBounds i true) p && planB ops f (s.setIfInBounds j true) r
  | f + 1, s, .t i j k p q r => (Region.ready .any ops s == [i, j, k]) && planB ops f (s.setIfInBounds i true) p && planB ops f (s.setIfInBounds j true) q && planB ops f (s.setIfInBounds k true) r
  | 0, _, _ => false
def mixB (l : List Oper) (p : Plan) : Bool := Region.noSelect l.toArray && planB l.toArray l.length (Array.replicate l.length false) p
def Q0 (K : Act → World → Prop) : Exit → Act → World → Prop
  | .normal, a, w => K a w
  | _, _, _ => False
section
variable {P : Program} {n : Nat} {w0 : World} {F : Fr} {m : Mem} {Rs X : List Res} {Q : Exit → Act → World → Prop} {K : Act → World → Prop} {C : World → Prop}
theorem Oper.wp_turn {o : Oper} {a : Act} {w : World} {K1 K2 K3 K4 : Act → World → Prop} (h : ∀ a w, K1 a w → K2 a w) (hh : o.wp P a w K1 (Q0 K3)) : o.wp P a w K2 (Q0 K4) := by
  unfold Oper.wp at *
  generalize (execOp a.eval o).run P w = r at *
  cases r with
  | ok n w' =>
    cases n <;> simp only [Oper.upon] at hh ⊢ <;>
      first
        | exact h _ _ hh
        | exact Calls.mono hh (fun e w'' he => by
            cases e with
            | returned v => exact h _ _ he
            | panicked c => exact he.elim
            | outgrown => obtain ⟨_, _, x⟩ := he; exact x.elim)
        | exact Rows.mono hh (fun _ _ he => h _ _ he)
  | halt x w' => cases x <;> simp only [Oper.upon] at hh ⊢ <;> exact hh.elim
theorem wpOp_of_list {ops : Array Oper} {i : Nat} {o : Oper} {a : Act} {w : World} {K1 K2 : Act → World → Prop} (ho : ops[i]? = some o) (h : wpList P ops (Q0 K1) [o] a w) : wpOp P ops (Q0 K2) i K1 a w := by
  unfold wpOp
  simp only [ho]
  unfold wpList at h
  by_cases hw : Region.wanted o (yielded ops a.tmps) = true
  · simp only [hw, if_true] at h ⊢
    rcases h with h | ⟨_, _, _, h⟩
    · exact .inl (Oper.wp_turn (fun _ _ x => x) h)
    · exact h.elim
  · simp only [hw] at h ⊢
    exact h
/-- from here on, whatever order comes up -/
def GM (P : Program) (ops : Array Oper) (w0 : World) (K : Act → World → Prop) : Nat → Mem → List Res → List Res → Array Bool → Act → Prop
  | 0, m, Rs, X, s, a => Region.ready .any ops s = [] ∧ ∀ w, HW w0 m (X ++ Rs) w → K a w
  | f + 1, m, Rs, X, s, a => (Region.ready .any ops s = [] → ∀ w, HW w0 m (X ++ Rs) w → K a w) ∧
    ∀ i ∈ Region.ready .any ops s, ∀ w, HW w0 m (X ++ Rs) w → wpOp P ops (Q0 K) i (fun a' w' => ∃ m' Rs' X', ((m.le m' ∧ Sup Rs Rs') ∨ barrierB ops s i = true) ∧ HW w0 m' (X' ++ Rs') w' ∧ GM P ops w0 K f m' Rs' X' (s.setIfInBounds i true) a') a w
theorem GM.any {ops : Array Oper} : ∀ (f : Nat) (m : Mem) (Rs X : List Res) (s : Array Bool) (a : Act) (w : World), HW w0 m (X ++ Rs) w → GM P ops w0 K f m Rs X s a → wpAny P .any ops (Q0 K) f s a w
  | 0, _, _, _, _, _, w, hw, h => ⟨h.1, h.2 w hw⟩
  | f + 1, _, _, _, _, _, w, hw, h => ⟨fun h0 => h.1 h0 w hw, fun i hi => wpOp_mono (fun a' w' ⟨m', Rs', X', _, h2, h3⟩ => GM.any f m' Rs' X' _ a' w' h2 h3) (h.2 i hi w hw)⟩
/-- one value, wherever the memory and the resources of the base are -/
def YM (P : Program) (ops : Array Oper) (w0 : World) (m : Mem) (Rs : List Res) (o : Oper) (v : Value) (a : Act) : Prop :=
  (Region.wanted o (yielded ops a.tmps) = true ∧ ((memless o = false ∧ ∀ m' R', m.le m' → Sup Rs R' → ∀ w, HW w0 m' R' w → o.quietAt P a (HW w0 m' R') w v) ∨ (memless o = true ∧ ∀ w, (execOp a.eval o).run P w = .ok (.value v) w))) ∨
  (Region.wanted o (yielded ops a.tmps) = false ∧ v = undef)
theorem YM.of_same {ops : Array Oper} {o : Oper} {v : Value} {a a' : Act} (hy : YM P ops w0 m Rs o v a) (he : execOp a'.eval o = execOp a.eval o)
    (hw : Region.wanted o (yielded ops a'.tmps) = Region.wanted o (yielded ops a.tmps)) : YM P ops w0 m Rs o v a' := by
  unfold YM Oper.quietAt at *
  rw [he, hw]
  exact hy
theorem YM.grow {ops : Array Oper} {o : Oper} {v : Value} {a : Act} {m' : Mem} {Rs' : List Res} (hy : YM P ops w0 m Rs o v a) (hm : memless o = true ∨ (m.le m' ∧ Sup Rs Rs')) : YM P ops w0 m' Rs' o v a :=
  hy.imp (fun ⟨h1, h2⟩ => ⟨h1, by
    rcases h2 with ⟨h2, h3⟩ | h2
    · rcases hm with hm | ⟨hm, hR⟩
      · rw [h2] at hm; cases hm
      · exact .inl ⟨h2, fun m2 R2 g1 g2 => h3 m2 R2 (Mem.le_trans hm g1) (hR.trans g2)⟩
    · exact .inr h2⟩) id
theorem YM.quiet {o : Oper} {v : Value} {a : Act} (h2 : (memless o = false ∧ ∀ m' R', m.le m' → Sup Rs R' → ∀ w, HW w0 m' R' w → o.quietAt P a (HW w0 m' R') w v) ∨ (memless o = true ∧ ∀ w, (execOp a.eval o).run P w = .ok (.value v) w)) :
    ∀ m' R', m.le m' → Sup Rs R' → ∀ w, HW w0 m' R' w → o.quietAt P a (HW w0 m' R') w v := by
  rcases h2 with ⟨_, h2⟩ | ⟨_, h2⟩
  · exact h2
  · intro m' R' _ _ w _
    unfold Oper.quietAt
    rw [h2 w]
    exact ⟨rfl, rfl⟩
theorem putM {ops : Array Oper} {j : Nat} {oi oj : Oper} {v : Value} (hj : ops[j]? = some oj) (hap : oi.apart ops oj = true)
    (hsi : ∀ cs b, oi.op ≠ .select cs b) (hsj : ∀ cs b, oj.op ≠ .select cs b) {K1 K2 : Act → World → Prop} {a : Act} {w : World}
    (hy : YM P ops w0 m Rs oi v a) (h : wpOp P ops (Q0 K2) j K1 (a.put oi.dst v) w) :
    wpOp P ops (Q0 K2) j (fun a' w' => YM P ops w0 m Rs oi v a' ∧ K1 (a'.put oi.dst v) w') a w := by
  obtain ⟨h1, h2, h3⟩ := Oper.apart_spec hap
  have keep : ∀ (a : Act), YM P ops w0 m Rs oi v a → ∀ u, YM P ops w0 m Rs oi v (a.put oj.dst u) := fun a hy u =>
    hy.of_same (execOp_put oi hsi a oj.dst u h3) (wanted_put oi a oj.dst u h3)
  have keepD : ∀ d, YM P ops w0 m Rs oi v { a with defers := d :: a.defers } := fun d => hy.of_same rfl rfl
  unfold wpOp at *
  simp only [hj] at *
  rw [wanted_put oj a oi.dst v h1] at h
  split
  · rename_i hw
    simp only [hw, if_true] at h
    rcases h with h | ⟨_, _, _, hlets⟩
    case inr => exact hlets.elim
    refine .inl ?_
    unfold Oper.wp at *
    rw [execOp_put oj hsj a oi.dst v h1] at h
    generalize (execOp a.eval oj).run P w = r at *
    cases r with
    | ok n w' =>
      cases n <;> simp only [Oper.upon] at h ⊢
      case value u => exact ⟨keep a hy u, by rw [← Act.put_comm a v u h2]; exact h⟩
      case skip => exact ⟨keep a hy _, by rw [← Act.put_comm a v undef h2]; exact h⟩
      case defer d =>
        refine ⟨keep _ (keepD d) _, ?_⟩
        rw [← Act.put_comm _ v undef h2, ← Act.put_defers]
        exact h
      case enter f args =>
        refine Calls.mono h fun e w'' he => ?_
        cases e with
        | returned u => exact ⟨keep a hy u, by rw [← Act.put_comm a v u h2]; exact he⟩
        | panicked c => exact he
        | outgrown => exact he
      case row row args => exact Rows.mono h fun u w'' he => ⟨keep a hy u, by rw [← Act.put_comm a v u h2]; exact he⟩
    | halt x w' =>
      cases x <;> simp only [Oper.upon] at h ⊢
      case panic u => exact h
  · rename_i hw
    simp only [hw] at h
    exact ⟨keep a hy _, by rw [← Act.put_comm a v undef h2]; exact h⟩
theorem YM.wpOp {ops : Array Oper} {i : Nat} {o : Oper} {v : Value} {a : Act} (hi : ops[i]? = some o) (hy : YM P ops w0 m Rs o v a) {K1 K2 : Act → World → Prop} {w : World} (hw : HW w0 m (X ++ Rs) w) (h : ∀ w', HW w0 m (X ++ Rs) w' → K1 (a.put o.dst v) w') : wpOp P ops (Q0 K2) i K1 a w := by
  rcases hy with ⟨h1, h2⟩ | ⟨h1, rfl⟩
  · refine wpOp_of_qOp (C := HW w0 m (X ++ Rs)) (K := fun a' => ∀ w', HW w0 m (X ++ Rs) w' → K1 a' w') hw (fun a' w' hw' hk => hk w' hw') ?_
    unfold qOp
    simp only [hi, h1, if_true]
    exact ⟨v, fun w' hw' => YM.quiet h2 m (X ++ Rs) (Mem.le_refl _) (Sup.front X Rs) w' hw', h⟩
  · unfold Go.wpOp
    simp only [hi, h1, Bool.false_eq_true, if_false]
    exact h w hw
theorem coverB_less {ops : Array Oper} {s : Array Bool} {i : Nat} (hcl : Closed ops s) (hi : s.getD i false = false) (hat : memlessAt ops i = true) : ∀ (n : Nat) (marks : Array Bool), n ≤ ops.size → (∀ k, marks.getD k false = true → s.getD k false = true) → coverB ops (s.setIfInBounds i true) n marks = true → coverB ops s n marks = true
  | 0, _, _, _, _ => rfl
  | n + 1, marks, hn, hm, h => by
    have ho : ops[n]? = some ops[n] := by simp
    have ih := coverB_less hcl hi hat n
    unfold coverB at h ⊢
    by_cases hni : n = i
    · subst hni
      have hmk : marks.getD n false = false := by
        cases hq : marks.getD n false with
        | false => rfl
        | true => rw [hm n hq] at hi; cases hi
      simp only [hat, if_true, hmk, Bool.false_eq_true, if_false] at h
      simp only [hi, Bool.false_eq_true, if_false]
      apply ih marks (by omega) hm
      split at h <;> exact h
    · rw [getD_set_ne false (Ne.symm hni)] at h
      by_cases hsn : s.getD n false = true
      · simp only [hsn, if_true] at h ⊢
        cases hmn : memlessAt ops n with
        | true =>
          simp only [hmn, if_true] at h ⊢
          by_cases hmk : marks.getD n false = true
          · simp only [hmk, if_true] at h ⊢
            exact ih _ (by omega) (mark_after ho hm (hcl n _ ho hsn)) h
          · simp only [hmk] at h ⊢
            exact ih _ (by omega) hm h
        | false =>
          simp only [hmn, Bool.false_eq_true, if_false, Bool.and_eq_true] at h ⊢
          exact ⟨h.1, ih _ (by omega) (mark_after ho hm (hcl n _ ho hsn)) h.2⟩
      · simp only [hsn] at h ⊢
        exact ih _ (by omega) hm h
theorem GM.first {ops : Array Oper} {i : Nat} {oi : Oper} {v : Value} (hi : ops[i]? = some oi) (hsel : ∀ (j : Nat) (o : Oper) cs b, ops[j]? = some o → o.op ≠ .select cs b) :
    ∀ (f : Nat) (m : Mem) (Rs X : List Res) (s : Array Bool) (a : Act),
      (∀ j oj, ops[j]? = some oj → j ≠ i → s.getD j true = false → (∀ e ∈ oj.after, Region.binds .any e = true → e.on ≠ i) → oi.apart ops oj = true) →
      Closed ops s → i ∈ Region.ready .any ops s → YM P ops w0 m Rs oi v a →
      GM P ops w0 K f m Rs X (s.setIfInBounds i true) (a.put oi.dst v) → GM P ops w0 K (f + 1) m Rs X s a := by
  intro f
  induction f with
  | zero =>
    intro m Rs X s a _ hcl hr hy H
    refine ⟨fun h => (by rw [h] at hr; cases hr), fun j hj w hw => ?_⟩
    by_cases hji : j = i
    · subst hji; exact hy.wpOp hi hw fun w' hw' => ⟨m, Rs, X, .inl ⟨Mem.le_refl _, Sup.refl _⟩, hw', H⟩
    · have := ready_mono hj hji
      rw [H.1] at this
      cases this
  | succ f ih =>
    intro m Rs X s a hfree hcl hr hy H
    refine ⟨fun h => (by rw [h] at hr; cases hr), fun j hj w hw => ?_⟩
    by_cases hji : j = i
    · subst hji; exact hy.wpOp hi hw fun w' hw' => ⟨m, Rs, X, .inl ⟨Mem.le_refl _, Sup.refl _⟩, hw', H⟩
    · have h1 := H.2 j (ready_mono hj hji) w hw
      obtain ⟨hjun, oj, hoj, hall⟩ := mem_ready.1 hj
      have hnot : ∀ e ∈ oj.after, Region.binds .any e = true → e.on ≠ i := fun e he hb heq => by
        have h1 := hall e he hb
        have h0 := (mem_ready.1 hr).1
        rw [heq] at h1
        rcases Nat.lt_or_ge i s.size with h' | h'
        · simp [h'] at h0 h1; rw [h0] at h1; cases h1
        · simp [Array.getElem?_eq_none h'] at h1
      have h2 := putM hoj (hfree j oj hoj hji hjun hnot) (fun cs b => hsel i oi cs b hi) (fun cs b => hsel j oj cs b hoj) hy h1
      have hfree' : ∀ k ok, ops[k]? = some ok → k ≠ i → (s.setIfInBounds j true).getD k true = false →
          (∀ e ∈ ok.after, Region.binds .any e = true → e.on ≠ i) → oi.apart ops ok = true := fun k ok hk hki hun hno => by
        refine hfree k ok hk hki ?_ hno
        by_cases hjk : j = k
        · subst hjk; exact hjun
        · rw [getD_set_ne true hjk] at hun; exact hun
      refine wpOp_mono (fun a' w' h3 => ?_) h2
      obtain ⟨hy', m', Rs', X', hext, hw', hG⟩ := h3
      have hext' : (m.le m' ∧ Sup Rs Rs') ∨ (barrierB ops s j = true ∧ memless oi = true) := by
        rcases hext with h | h
        · exact .inl h
        · have hisz : i < ops.size := (Array.getElem?_eq_some_iff.1 hi).1
          have hat : memlessAt ops i = memless oi := by simp [memlessAt, hi]
          cases hml : memless oi with
          | true =>
            refine .inr ⟨?_, rfl⟩
            rw [hml] at hat
            have h0 := (mem_ready.1 hr).1
            have hi0 : s.getD i false = false := by
              rcases Nat.lt_or_ge i s.size with h' | h'
              · simp [h'] at h0 ⊢; exact h0
              · simp [Array.getElem?_eq_none h'] at h0
            exact coverB_less hcl hi0 hat _ _ (Nat.le_refl _) (mark_after hoj (marks := Array.replicate ops.size false) (fun k hk => by
              exfalso
              rcases Nat.lt_or_ge k ops.size with h' | h'
              · simp [h'] at hk
              · simp [Array.getElem?_eq_none (by simpa using h' : (Array.replicate ops.size false).size ≤ k)] at hk) (fun e he hb => hall e he hb)) h
          | false =>
            exfalso
            have hlisted : (s.setIfInBounds i true).getD i false = true := by
              have h0 := (mem_ready.1 hr).1
              rcases Nat.lt_or_ge i s.size with h' | h'
              · simp [h']
              · simp [Array.getElem?_eq_none h'] at h0
            have hin := coverB_spec hcl ops.size _ (Nat.le_refl _) (mark_after hoj (marks := Array.replicate ops.size false) (fun k hk => by
              exfalso
              rcases Nat.lt_or_ge k ops.size with h' | h'
              · simp [h'] at hk
              · simp [Array.getElem?_eq_none (by simpa using h' : (Array.replicate ops.size false).size ≤ k)] at hk) (fun e he hb => hall e he hb)) h i hisz hlisted (by rw [hat, hml])
            have h0 := (mem_ready.1 hr).1
            rcases Nat.lt_or_ge i s.size with h' | h'
            · simp [h'] at h0 hin; rw [h0] at hin; cases hin
            · simp [Array.getElem?_eq_none h'] at h0
      refine ⟨m', Rs', X', hext'.imp id (·.1), hw', ih m' Rs' X' (s.setIfInBounds j true) a' hfree' (hcl.set hj) (ready_mono hr (Ne.symm hji)) (hy'.grow (hext'.symm.imp (·.2) id)) ?_⟩
      rw [Array.setIfInBounds_comm _ _ hji]
      exact hG
/-! ### the walk by a plan -/
def nthO : List Oper → Nat → Option Oper
  | [], _ => none
  | o :: _, 0 => some o
  | _ :: os, i + 1 => nthO os i
theorem nthO_eq : ∀ (os : List Oper) (i : Nat), nthO os i = os[i]?
  | [], _ => by simp [nthO]
  | _ :: _, 0 => rfl
  | _ :: os, i + 1 => by rw [nthO, nthO_eq os i]; rfl
def AtM (P : Program) (n : Nat) (w0 : World) (F : Fr) (m : Mem) (Rs X : List Res) (K : Act → World → Prop) (l : List Oper) (f : Nat) (s : Array Bool) (p : Plan) : Prop :=
  Region.noSelect l.toArray = true → planB l.toArray f s p = true → Closed l.toArray s → ∀ a, HF n F a → GM P l.toArray w0 K f m Rs X s a
/-- a quiet operation, whatever guards it had decided -/
def AtM1 (P : Program) (n : Nat) (w0 : World) (F : Fr) (m : Mem) (Rs X : List Res) (K : Act → World → Prop) (l : List Oper) (f : Nat) (s : Array Bool) (p : Plan) (o : Oper) : Prop :=
  ∀ a, HF n F a → ∃ v, YM P l.toArray w0 m Rs o v a ∧ (Region.noSelect l.toArray = true → planB l.toArray f s p = true → Closed l.toArray s → GM P l.toArray w0 K f m Rs X s (a.put o.dst v))
variable {l : List Oper} {f : Nat} {s : Array Bool} {p : Plan}
theorem At.mixed {id : Nat} {l0 l : List Oper} (N : Nat) (p : Plan) (e : flat l0 = some l) (hN : Nat.beq l.length N = true) (hm : P.follows .mixedOrders = true) (hB : mixB l p = true)
    (h : AtM P n w0 F m Rs [] (Q .normal) l N (Array.replicate l.length false) p) : At n w0 F m Rs ((Code.region id l0.toArray true).wp P Q) := fun a w ha hw => by
  have := flat_eq l0 l e; subst this
  simp only [mixB, Bool.and_eq_true] at hB
  have hN' := Nat.eq_of_beq_eq_true hN
  subst hN'
  have hG := h hB.1 hB.2 (Closed.empty _ _) a ha
  refine Code.wp_mono (Q := Q0 (Q .normal)) (fun e a' w' q => by cases e <;> first | exact q | exact q.elim) (wp_region_any hm ?_)
  have := GM.any (P := P) l.length m Rs [] _ a { w with drawn := w.drawn + 1 } (hw.drawn _) hG
  simpa using this
/-- the same, where one block is only written -/
theorem At.mixedB {id : Nat} {l0 l : List Oper} (t N : Nat) (p : Plan) {b : Nat} {E : TypeId} {cs : List Value} {Base : List Res} (ht : look t F = some (.pointer (some ⟨b, 0, none⟩))) (hX : Pick Rs (.blk b E cs) Base) (e : flat l0 = some l) (hN : Nat.beq l.length N = true) (hm : P.follows .mixedOrders = true) (hB : mixB l p = true)
    (h : AtM P n w0 F m Base [.blk b E cs] (Q .normal) l N (Array.replicate l.length false) p) : At n w0 F m Rs ((Code.region id l0.toArray true).wp P Q) := fun a w ha hw => by
  have := flat_eq l0 l e; subst this
  simp only [mixB, Bool.and_eq_true] at hB
  have hN' := Nat.eq_of_beq_eq_true hN
  subst hN'
  have hG := h hB.1 hB.2 (Closed.empty _ _) a ha
  refine Code.wp_mono (Q := Q0 (Q .normal)) (fun e a' w' q => by cases e <;> first | exact q | exact q.elim) (wp_region_any hm ?_)
  have := GM.any (P := P) l.length m Base [.blk b E cs] _ a { w with drawn := w.drawn + 1 } ((hw.ent (Ent.of_pick hX)).drawn _) hG
  simpa using this
theorem AtM.done {R : List Res} (e : apd X Rs = some R) (h : At n w0 F m R K) : AtM P n w0 F m Rs X K l f s .done := fun _ hp _ a ha => by
  have := apd_eq _ _ _ e; subst this
  have hr : Region.ready .any l.toArray s = [] := by
    cases f <;> (unfold planB at hp; simpa using hp)
  cases f with
  | zero => exact ⟨hr, fun w hw => h a w ha hw⟩
  | succ f => exact ⟨fun _ w hw => h a w ha hw, fun i hi => by rw [hr] at hi; cases hi⟩
theorem AtM.qo {i : Nat} {o : Oper} (ho : nthO l i = some o) (h : AtM1 P n w0 F m Rs X K l f (s.setIfInBounds i true) p o) : AtM P n w0 F m Rs X K l (f + 1) s (.q i p) := fun hs hp hcl a ha => by
  unfold planB at hp
  simp only [Bool.and_eq_true] at hp
  obtain ⟨v, hy, hG⟩ := h a ha
  have ho' : l.toArray[i]? = some o := by rw [nthO_eq] at ho; simpa using ho
  exact GM.first ho' (Region.noSelect_spec hs) f m Rs X s a (Region.free_spec ho' hp.1.2) hcl (by simpa using hp.1.1) hy (hG hs hp.2 (hcl.set (by simpa using hp.1.1)))
/-- where a loud operation comes back to -/
def Back (P : Program) (n : Nat) (w0 : World) (m : Mem) (Rs : List Res) (K : Act → World → Prop) (l : List Oper) (f : Nat) (s : Array Bool) (p : Plan) (a : Act) (w : World) : Prop :=
  ∃ F' m' Rs' X', HF n F' a ∧ HW w0 m' (X' ++ Rs') w ∧ m.le m' ∧ Sup Rs Rs' ∧ AtM P n w0 F' m' Rs' X' K l f s p
def BackX (P : Program) (n : Nat) (w0 : World) (K : Act → World → Prop) (l : List Oper) (f : Nat) (s : Array Bool) (p : Plan) (a : Act) (w : World) : Prop :=
  ∃ F' m' Rs', HF n F' a ∧ HW w0 m' Rs' w ∧ AtM P n w0 F' m' Rs' [] K l f s p
theorem AtM.lo {i : Nat} {o : Oper} {R : List Res} (ho : nthO l i = some o) (e : apd X Rs = some R) (h : At n w0 F m R (wpList P l.toArray (Q0 (Back P n w0 m Rs K l f (s.setIfInBounds i true) p)) [o])) : AtM P n w0 F m Rs X K l (f + 1) s (.l i p) := fun hs hp hcl a ha => by
  have := apd_eq _ _ _ e; subst this
  unfold planB at hp
  simp only [Bool.and_eq_true, beq_iff_eq] at hp
  have ho' : l.toArray[i]? = some o := by rw [nthO_eq] at ho; simpa using ho
  refine ⟨fun h0 => (by rw [hp.1] at h0; cases h0), fun j hj w hw => ?_⟩
  have hrd := hj
  rw [hp.1] at hj
  obtain rfl : j = i := by simpa using hj
  refine wpOp_mono (fun a' w' ⟨F', m', Rs', X', h1, h2, h3, h4, h5⟩ => ⟨m', Rs', X', .inl ⟨h3, h4⟩, h2, h5 hs hp.2 (hcl.set hrd) a' h1⟩) (wpOp_of_list ho' (h a w ha hw))
theorem AtM.xo {i : Nat} {o : Oper} {R : List Res} (ho : nthO l i = some o) (e : apd X Rs = some R) (h : At n w0 F m R (wpList P l.toArray (Q0 (BackX P n w0 K l f (s.setIfInBounds i true) p)) [o])) : AtM P n w0 F m Rs X K l (f + 1) s (.x i p) := fun hs hp hcl a ha => by
  have := apd_eq _ _ _ e; subst this
  unfold planB at hp
  simp only [Bool.and_eq_true, beq_iff_eq] at hp
  have ho' : l.toArray[i]? = some o := by rw [nthO_eq] at ho; simpa using ho
  refine ⟨fun h0 => (by rw [hp.1.1] at h0; cases h0), fun j hj w hw => ?_⟩
  have hrd := hj
  rw [hp.1.1] at hj
  obtain rfl : j = i := by simpa using hj
  refine wpOp_mono (fun a' w' ⟨F', m', Rs', h1, h2, h5⟩ => ⟨m', Rs', [], .inr hp.1.2, h2, h5 hs hp.2 (hcl.set hrd) a' h1⟩) (wpOp_of_list ho' (h a w ha hw))
theorem AtM.bo {i j : Nat} {o o' : Oper} {R : List Res} {r : Plan} (ho : nthO l i = some o) (ho2 : nthO l j = some o') (e : apd X Rs = some R)
    (h : At n w0 F m R (wpList P l.toArray (Q0 (Back P n w0 m Rs K l f (s.setIfInBounds i true) p)) [o]))
    (h' : At n w0 F m R (wpList P l.toArray (Q0 (Back P n w0 m Rs K l f (s.setIfInBounds j true) r)) [o'])) : AtM P n w0 F m Rs X K l (f + 1) s (.b i j p r) := fun hs hp hcl a ha => by
  have := apd_eq _ _ _ e; subst this
  unfold planB at hp
  simp only [Bool.and_eq_true, beq_iff_eq] at hp
  have ho' : l.toArray[i]? = some o := by rw [nthO_eq] at ho; simpa using ho
  have ho2' : l.toArray[j]? = some o' := by rw [nthO_eq] at ho2; simpa using ho2
  refine ⟨fun h0 => (by rw [hp.1.1] at h0; cases h0), fun k hk w hw => ?_⟩
  have hrd := hk
  rw [hp.1.1] at hk
  simp only [List.mem_cons, List.not_mem_nil, or_false] at hk
  rcases hk with rfl | rfl
  · exact wpOp_mono (fun a' w' ⟨F', m', Rs', X', h1, h2, h3, h4, h5⟩ => ⟨m', Rs', X', .inl ⟨h3, h4⟩, h2, h5 hs hp.1.2 (hcl.set hrd) a' h1⟩) (wpOp_of_list ho' (h a w ha hw))
  · exact wpOp_mono (fun a' w' ⟨F', m', Rs', X', h1, h2, h3, h4, h5⟩ => ⟨m', Rs', X', .inl ⟨h3, h4⟩, h2, h5 hs hp.2 (hcl.set hrd) a' h1⟩) (wpOp_of_list ho2' (h' a w ha hw))
theorem AtM.tr {i j k : Nat} {o o' o'' : Oper} {R : List Res} {q r : Plan} (ho : nthO l i = some o) (ho2 : nthO l j = some o') (ho3 : nthO l k = some o'') (e : apd X Rs = some R)
    (h : At n w0 F m R (wpList P l.toArray (Q0 (Back P n w0 m Rs K l f (s.setIfInBounds i true) p)) [o]))
    (h' : At n w0 F m R (wpList P l.toArray (Q0 (Back P n w0 m Rs K l f (s.setIfInBounds j true) q)) [o']))
    (h'' : At n w0 F m R (wpList P l.toArray (Q0 (Back P n w0 m Rs K l f (s.setIfInBounds k true) r)) [o''])) : AtM P n w0 F m Rs X K l (f + 1) s (.t i j k p q r) := fun hs hp hcl a ha => by
  have := apd_eq _ _ _ e; subst this
  unfold planB at hp
  simp only [Bool.and_eq_true, beq_iff_eq] at hp
  have ho' : l.toArray[i]? = some o := by rw [nthO_eq] at ho; simpa using ho
  have ho2' : l.toArray[j]? = some o' := by rw [nthO_eq] at ho2; simpa using ho2
  have ho3' : l.toArray[k]? = some o'' := by rw [nthO_eq] at ho3; simpa using ho3
  refine ⟨fun h0 => (by rw [hp.1.1.1] at h0; cases h0), fun y hk w hw => ?_⟩
  have hrd := hk
  rw [hp.1.1.1] at hk
  simp only [List.mem_cons, List.not_mem_nil, or_false] at hk
  rcases hk with rfl | rfl | rfl
  · exact wpOp_mono (fun a' w' ⟨F', m', Rs', X', h1, h2, h3, h4, h5⟩ => ⟨m', Rs', X', .inl ⟨h3, h4⟩, h2, h5 hs hp.1.1.2 (hcl.set hrd) a' h1⟩) (wpOp_of_list ho' (h a w ha hw))
  · exact wpOp_mono (fun a' w' ⟨F', m', Rs', X', h1, h2, h3, h4, h5⟩ => ⟨m', Rs', X', .inl ⟨h3, h4⟩, h2, h5 hs hp.1.2 (hcl.set hrd) a' h1⟩) (wpOp_of_list ho2' (h' a w ha hw))
  · exact wpOp_mono (fun a' w' ⟨F', m', Rs', X', h1, h2, h3, h4, h5⟩ => ⟨m', Rs', X', .inl ⟨h3, h4⟩, h2, h5 hs hp.2 (hcl.set hrd) a' h1⟩) (wpOp_of_list ho3' (h'' a w ha hw))
theorem At.back {m0 : Mem} {R X' : List Res} (hR : Left Rs R X') (hm : m0.le m) (h : AtM P n w0 F m Rs X' K l f s p) : At n w0 F m R (wpList P l.toArray (Q0 (Back P n w0 m0 Rs K l f s p)) []) := fun a w ha hw =>
  ⟨F, m, Rs, X', ha, hw.ent hR.eqv.ent, hm, Sup.refl _, h⟩
theorem At.backX {R : List Res} (h : AtM P n w0 F m R [] K l f s p) : At n w0 F m R (wpList P l.toArray (Q0 (BackX P n w0 K l f s p)) []) := fun a w ha hw =>
  ⟨F, m, R, ha, hw, h⟩
/-- what is new may be looked at, too -/
theorem AtM.promote {R : List Res} {X0 : Res} {X1 : List Res} (hX : X = X0 :: X1) (e : apd X Rs = some R) (h : AtM P n w0 F m R [] K l f s p) : AtM P n w0 F m Rs X K l f s p := fun hs hp hcl a ha => by
  have := apd_eq _ _ _ e; subst this
  have := h hs hp hcl a ha
  cases f with
  | zero => exact this
  | succ f => exact ⟨this.1, fun i hi w hw => wpOp_mono (fun a' w' ⟨m', Rs', X', h1, h2⟩ => ⟨m', Rs', X', h1.imp (fun h => ⟨h.1, (Sup.front X Rs).trans h.2⟩) id, h2⟩) (this.2 i hi w hw)⟩
variable {o : Oper}
theorem AtM1.val {d : Nat} {op : Op} {ty : TypeId} {pos : String} {aft : Array Edge} {v : Value} (hz : memless ⟨some d, op, ty, pos, aft, none⟩ = false) (hp : PR P n F (HW w0 m Rs) op v) (hd : Nat.blt d n = true)
    (h : AtM P n w0 ((d, v) :: F) m Rs X K l f s p) : AtM1 P n w0 F m Rs X K l f s p ⟨some d, op, ty, pos, aft, none⟩ := fun a ha =>
  ⟨v, .inl ⟨by simp [Region.wanted], .inl ⟨hz, fun m' R' hm hR w hw => by
    unfold Oper.quietAt
    rw [hp _ _ _ _ _ a w ha ((hw.ent hR.ent).weak hm)]
    exact ⟨rfl, rfl⟩⟩⟩, fun hs hpl hcl => h hs hpl hcl _ (ha.put hd)⟩
theorem AtM1.valz {d : Nat} {op : Op} {ty : TypeId} {pos : String} {aft : Array Edge} {v : Value} (hz : memless ⟨some d, op, ty, pos, aft, none⟩ = true) (hp : PR P n F (fun _ => True) op v) (hd : Nat.blt d n = true)
    (h : AtM P n w0 ((d, v) :: F) m Rs X K l f s p) : AtM1 P n w0 F m Rs X K l f s p ⟨some d, op, ty, pos, aft, none⟩ := fun a ha =>
  ⟨v, .inl ⟨by simp [Region.wanted], .inr ⟨hz, fun w => hp _ _ _ _ _ a w ha trivial⟩⟩, fun hs hpl hcl => h hs hpl hcl _ (ha.put hd)⟩
theorem AtM1.callp {d : Nat} {g : FuncId} {xs : List Operand} {ts : Array TypeId} {ty : TypeId} {pos : String} {aft : Array Edge} {vs : List Value} {V : Value}
    (hg : goFn P g = true) (hx : evs F xs = some vs) (hd : Nat.blt d n = true) (hc : Pu P g vs.toArray V)
    (h : AtM P n w0 ((d, V) :: F) m Rs X K l f s p) : AtM1 P n w0 F m Rs X K l f s p ⟨some d, .call ⟨.value (.func g), xs.toArray, ts⟩, ty, pos, aft, none⟩ := fun a ha =>
  ⟨V, .inl ⟨by simp [Region.wanted], .inl ⟨rfl, fun m' R' hm hR w hw => by
    unfold Oper.quietAt
    have : (execOp a.eval ⟨some d, .call ⟨.value (.func g), xs.toArray, ts⟩, ty, pos, aft, none⟩).run P w = .ok (.enter g vs.toArray) w := by
      rw [execOp_call_go]
      have : (#[] ++ xs.toArray.map a.eval ++ #[] : Array Value) = vs.toArray := by simp [evs_map ha xs vs hx]
      rw [this, run_callFunc hg]
    rw [this]
    exact ⟨rfl, hc.calls hw⟩⟩⟩, fun hs hpl hcl => h hs hpl hcl _ (ha.put hd)⟩
theorem AtM1.guard_y {d : Option Tmp} {op : Op} {ty : TypeId} {pos : String} {aft : Array Edge} {j : Nat} {want : Bool} {t : Nat}
    (hj : (nthO l j).bind (·.dst) = some t) (ht : look t F = some (.bool want)) (htn : Nat.blt t n = true) (h : AtM1 P n w0 F m Rs X K l f s p ⟨d, op, ty, pos, aft, none⟩) :
    AtM1 P n w0 F m Rs X K l f s p ⟨d, op, ty, pos, aft, some (j, want)⟩ := fun a ha => by
  obtain ⟨v, hy, hG⟩ := h a ha
  have hj' : (l.toArray[j]?).bind (·.dst) = some t := by rw [nthO_eq] at hj; simpa using hj
  refine ⟨v, ?_, hG⟩
  rcases hy with ⟨_, h2⟩ | ⟨h1, _⟩
  · exact .inl ⟨by simp [Region.wanted, yielded_of ha hj' ht htn], h2⟩
  · simp [Region.wanted] at h1
theorem AtM1.guard_n {d : Nat} {op : Op} {ty : TypeId} {pos : String} {aft : Array Edge} {j : Nat} {want : Bool} {t : Nat} {v : Value}
    (hj : (nthO l j).bind (·.dst) = some t) (ht : look t F = some v) (hv : v ≠ .bool want) (hd : Nat.blt d n = true) (h : AtM P n w0 ((d, undef) :: F) m Rs X K l f s p) :
    AtM1 P n w0 F m Rs X K l f s p ⟨some d, op, ty, pos, aft, some (j, want)⟩ := fun a ha => by
  have hj' : (l.toArray[j]?).bind (·.dst) = some t := by rw [nthO_eq] at hj; simpa using hj
  exact ⟨undef, .inr ⟨by
    have := yielded_ne (ops := l.toArray) ha hj' ht hv
    simpa [Region.wanted] using this, rfl⟩, fun hs hpl hcl => h hs hpl hcl _ (ha.put hd)⟩
theorem AtM1.guard_s {d : Option Tmp} {op : Op} {ty : TypeId} {pos : String} {aft : Array Edge} {j : Nat} {want : Bool} {t : Nat} {b : Bool}
    (hj : (nthO l j).bind (·.dst) = some t) (ht : look t F = some (.bool b))
    (h1 : b = true → AtM1 P n w0 ((t, .bool true) :: F) m Rs X K l f s p ⟨d, op, ty, pos, aft, some (j, want)⟩)
    (h2 : b = false → AtM1 P n w0 ((t, .bool false) :: F) m Rs X K l f s p ⟨d, op, ty, pos, aft, some (j, want)⟩) :
    AtM1 P n w0 F m Rs X K l f s p ⟨d, op, ty, pos, aft, some (j, want)⟩ := fun a ha => by
  have _ := hj
  cases b
  · exact h2 rfl a (ha.note ht rfl)
  · exact h1 rfl a (ha.note ht rfl)
theorem AtM1.guard_nt {d : Nat} {op : Op} {ty : TypeId} {pos : String} {aft : Array Edge} {j : Nat} {t : Nat}
    (hj : (nthO l j).bind (·.dst) = some t) (ht : look t F = some (.bool false)) (hd : Nat.blt d n = true) (h : AtM P n w0 ((d, undef) :: F) m Rs X K l f s p) :
    AtM1 P n w0 F m Rs X K l f s p ⟨some d, op, ty, pos, aft, some (j, true)⟩ := AtM1.guard_n hj ht (by simp) hd h
theorem AtM1.guard_nf {d : Nat} {op : Op} {ty : TypeId} {pos : String} {aft : Array Edge} {j : Nat} {t : Nat}
    (hj : (nthO l j).bind (·.dst) = some t) (ht : look t F = some (.bool true)) (hd : Nat.blt d n = true) (h : AtM P n w0 ((d, undef) :: F) m Rs X K l f s p) :
    AtM1 P n w0 F m Rs X K l f s p ⟨some d, op, ty, pos, aft, some (j, false)⟩ := AtM1.guard_n hj ht (by simp) hd h
theorem AtM1.guard_nu {d : Nat} {op : Op} {ty : TypeId} {pos : String} {aft : Array Edge} {j : Nat} {want : Bool} {t : Nat}
    (hj : (nthO l j).bind (·.dst) = some t) (ht : look t F = some undef) (hd : Nat.blt d n = true) (h : AtM P n w0 ((d, undef) :: F) m Rs X K l f s p) :
    AtM1 P n w0 F m Rs X K l f s p ⟨some d, op, ty, pos, aft, some (j, want)⟩ := AtM1.guard_n hj ht (by simp [undef]) hd h
/-! ### calls that look at what is owned, and leave it -/
def Rd (P : Program) (f : FuncId) (args : Array Value) (m : Mem) (A : List Res) (V : Value) : Prop := Ct P f args m A (fun v m' B => v = V ∧ m' = m ∧ B = A)
theorem Rd.calls {g : FuncId} {args : Array Value} {A Y : List Res} {V : Value} (h : Rd P g args m A V) {R : List Res} (hR : Eqv R (A ++ Y)) {w : World} (hw : HW w0 m R w) : Calls P g args w fun e w' => e = .returned V ∧ HW w0 m R w' :=
  (h w0 Y w (hw.ent hR.ent)).mono fun _ _ ⟨v, m', B, he, _, ⟨hv, hm', hB⟩, hw'⟩ => by subst hv hm' hB; exact ⟨he, hw'.ent hR.symm.ent⟩
theorem AtM1.callr {d : Nat} {g : FuncId} {xs : List Operand} {ts : Array TypeId} {ty : TypeId} {pos : String} {aft : Array Edge} {vs : List Value} {V : Value} {A Y : List Res}
    (hg : goFn P g = true) (hx : evs F xs = some vs) (hd : Nat.blt d n = true) (hc : ∀ m', m.le m' → Rd P g vs.toArray m' A V) (hA : Take A Rs Y)
    (h : AtM P n w0 ((d, V) :: F) m Rs X K l f s p) : AtM1 P n w0 F m Rs X K l f s p ⟨some d, .call ⟨.value (.func g), xs.toArray, ts⟩, ty, pos, aft, none⟩ := fun a ha =>
  ⟨V, .inl ⟨by simp [Region.wanted], .inl ⟨rfl, fun m' R' hm hR w hw => by
    unfold Oper.quietAt
    have : (execOp a.eval ⟨some d, .call ⟨.value (.func g), xs.toArray, ts⟩, ty, pos, aft, none⟩).run P w = .ok (.enter g vs.toArray) w := by
      rw [execOp_call_go]
      have : (#[] ++ xs.toArray.map a.eval ++ #[] : Array Value) = vs.toArray := by simp [evs_map ha xs vs hx]
      rw [this, run_callFunc hg]
    rw [this]
    obtain ⟨Z, hZ⟩ := hA.sup.trans hR
    exact ⟨rfl, (hc m' hm).calls hZ hw⟩⟩⟩, fun hs hpl hcl => h hs hpl hcl _ (ha.put hd)⟩
theorem AtQ.callr {ops : Array Oper} {rest : List Oper} {Qq : Act → Prop} {d : Nat} {g : FuncId} {xs : List Operand} {ts : Array TypeId} {ty : TypeId} {pos : String} {aft : Array Edge} {vs : List Value} {V : Value} {A Y : List Res}
    (hg : goFn P g = true) (hx : evs F xs = some vs) (hd : Nat.blt d n = true) (hc : ∀ m', m.le m' → Rd P g vs.toArray m' A V) (hA : Take A Rs Y)
    (h : AtQ P n ((d, V) :: F) (HW w0 m Rs) ops Qq rest) : AtQ P n F (HW w0 m Rs) ops Qq (⟨some d, .call ⟨.value (.func g), xs.toArray, ts⟩, ty, pos, aft, none⟩ :: rest) := fun a ha => by
  unfold wpQuiet
  rw [if_pos (by simp [Region.wanted])]
  refine ⟨V, fun w hw => ?_, h _ (ha.put hd)⟩
  unfold Oper.quietAt
  have : (execOp a.eval ⟨some d, .call ⟨.value (.func g), xs.toArray, ts⟩, ty, pos, aft, none⟩).run P w = .ok (.enter g vs.toArray) w := by
    rw [execOp_call_go]
    have : (#[] ++ xs.toArray.map a.eval ++ #[] : Array Value) = vs.toArray := by simp [evs_map ha xs vs hx]
    rw [this, run_callFunc hg]
  rw [this]
  exact ⟨rfl, (hc m (Mem.le_refl _)).calls hA.eqv hw⟩
theorem At.callr {ops : Array Oper} {rest : List Oper} {d : Nat} {g : FuncId} {xs : List Operand} {ts : Array TypeId} {ty : TypeId} {pos : String} {aft : Array Edge} {vs : List Value} {V : Value} {A Y : List Res}
    (hg : goFn P g = true) (hx : evs F xs = some vs) (hd : Nat.blt d n = true) (hc : ∀ m', m.le m' → Rd P g vs.toArray m' A V) (hA : Take A Rs Y)
    (h : At n w0 ((d, V) :: F) m Rs (wpList P ops Q rest)) :
    At n w0 F m Rs (wpList P ops Q (⟨some d, .call ⟨.value (.func g), xs.toArray, ts⟩, ty, pos, aft, none⟩ :: rest)) :=
  At.call (A := A) (Rest := Y) hg hx (by simpa using hd) (hc m (Mem.le_refl _)) hA.eqv.ent fun v m' B _ ⟨hv, hm', hB⟩ => by
    subst hv hm' hB
    exact At.ent hA.eqv.symm.ent h
theorem At.callt {ops : Array Oper} {rest : List Oper} {d : Option Nat} {g : FuncId} {xs : List Operand} {ts : Array TypeId} {ty : TypeId} {pos : String} {aft : Array Edge} {vs : List Value} {A Rest : List Res} {R : Value → Mem → List Res → Prop}
    (hg : goFn P g = true) (hx : evs F xs = some vs) (hd : d.all (Nat.blt · n) = true) (hc : Ct P g vs.toArray m A R) (hA : Take A Rs Rest)
    (h : ∀ v m' B, m.le m' → R v m' B → At n w0 (d.elim F (fun d => (d, v) :: F)) m' (B ++ Rest) (wpList P ops Q rest)) :
    At n w0 F m Rs (wpList P ops Q (⟨d, .call ⟨.value (.func g), xs.toArray, ts⟩, ty, pos, aft, none⟩ :: rest)) := At.call hg hx hd hc hA.eqv.ent h
theorem At.storeB {ops : Array Oper} {rest : List Oper} {t : TypeId} {x y : Operand} {ty : TypeId} {pos : String} {aft : Array Edge} {b o : Nat} {v : Value} {vs cs r : List Value} {E : TypeId} {Rs' : List Res} {k : Nat}
    (hx : ev F x = some (.pointer (some ⟨b, o, none⟩))) (hy : ev F y = some v) (hv : cellsB v = some vs) (hs : sizeB P t = some k) (hk : vs.length = k) (h1 : vs.all oneCell = true)
    (hp : Repl Rs (.blk b E cs) (.blk b E r) Rs') (hr : putl cs o vs = some r)
    (h : At n w0 F m Rs' (wpList P ops Q rest)) : At n w0 F m Rs (wpList P ops Q (⟨none, .store t x y, ty, pos, aft, none⟩ :: rest)) := At.store hx hy hv hs hk h1 ⟨cs, rfl, hr⟩ hp h
/-! the end, what is left shown ahead of what comes back -/
theorem At.retB0 {fn : Func} {R : Value → Mem → List Res → Prop} {m0 : Mem} {Rest B : List Res} (hr : fn.results = #[])  (hm : m0.le m) (hB : Keep B Rs Rest) (hR : R (.tuple #[]) m B) :
    At n w0 F m Rs (bodyPost P fn (fun e w' => ∃ v m' B, e = .returned v ∧ m0.le m' ∧ R v m' B ∧ HW w0 m' (B ++ Rest) w') .normal) := At.ret0 hr  hm hR hB.ent
theorem At.retB1 {fn : Func} {R : Value → Mem → List Res → Prop} {m0 : Mem} {Rest B : List Res} {t : Nat} {vt : Value} (hr : fn.results = #[.tmp t]) (ht : look t F = some vt) (hm : m0.le m) (hB : Keep B Rs Rest) (hR : R vt m B) :
    At n w0 F m Rs (bodyPost P fn (fun e w' => ∃ v m' B, e = .returned v ∧ m0.le m' ∧ R v m' B ∧ HW w0 m' (B ++ Rest) w') .ret) := At.ret1 hr ht hm hR hB.ent
theorem At.retB2 {fn : Func} {R : Value → Mem → List Res → Prop} {m0 : Mem} {Rest B : List Res} {t u : Nat} {vt vu : Value} (hr : fn.results = #[.tmp t, .tmp u]) (ht : look t F = some vt) (hu : look u F = some vu) (hm : m0.le m) (hB : Keep B Rs Rest) (hR : R (.tuple #[vt, vu]) m B) :
    At n w0 F m Rs (bodyPost P fn (fun e w' => ∃ v m' B, e = .returned v ∧ m0.le m' ∧ R v m' B ∧ HW w0 m' (B ++ Rest) w') .ret) := At.ret2 hr ht hu hm hR hB.ent
theorem At.retB3 {fn : Func} {R : Value → Mem → List Res → Prop} {m0 : Mem} {Rest B : List Res} {t u v : Nat} {vt vu vv : Value} (hr : fn.results = #[.tmp t, .tmp u, .tmp v]) (ht : look t F = some vt) (hu : look u F = some vu) (hv : look v F = some vv) (hm : m0.le m) (hB : Keep B Rs Rest) (hR : R (.tuple #[vt, vu, vv]) m B) :
    At n w0 F m Rs (bodyPost P fn (fun e w' => ∃ v m' B, e = .returned v ∧ m0.le m' ∧ R v m' B ∧ HW w0 m' (B ++ Rest) w') .ret) := At.ret3 hr ht hu hv hm hR hB.ent
theorem At.retB4 {fn : Func} {R : Value → Mem → List Res → Prop} {m0 : Mem} {Rest B : List Res} {t u v y : Nat} {vt vu vv vy : Value} (hr : fn.results = #[.tmp t, .tmp u, .tmp v, .tmp y]) (ht : look t F = some vt) (hu : look u F = some vu) (hv : look v F = some vv) (hy : look y F = some vy) (hm : m0.le m) (hB : Keep B Rs Rest) (hR : R (.tuple #[vt, vu, vv, vy]) m B) :
    At n w0 F m Rs (bodyPost P fn (fun e w' => ∃ v m' B, e = .returned v ∧ m0.le m' ∧ R v m' B ∧ HW w0 m' (B ++ Rest) w') .ret) := At.ret4 hr ht hu hv hy hm hR hB.ent
/-! lists that are put together -/
theorem At.app0 {Rest : List Res} (h : At n w0 F m (Rest) K) : At n w0 F m ([] ++ Rest) K := h
theorem At.app1 {Rest : List Res} {R0 : Res} (h : At n w0 F m (R0 :: Rest) K) : At n w0 F m ([R0] ++ Rest) K := h
theorem At.app2 {Rest : List Res} {R0 R1 : Res} (h : At n w0 F m (R0 :: R1 :: Rest) K) : At n w0 F m ([R0, R1] ++ Rest) K := h
theorem At.app3 {Rest : List Res} {R0 R1 R2 : Res} (h : At n w0 F m (R0 :: R1 :: R2 :: Rest) K) : At n w0 F m ([R0, R1, R2] ++ Rest) K := h
theorem At.app4 {Rest : List Res} {R0 R1 R2 R3 : Res} (h : At n w0 F m (R0 :: R1 :: R2 :: R3 :: Rest) K) : At n w0 F m ([R0, R1, R2, R3] ++ Rest) K := h
theorem At.app5 {Rest : List Res} {R0 R1 R2 R3 R4 : Res} (h : At n w0 F m (R0 :: R1 :: R2 :: R3 :: R4 :: Rest) K) : At n w0 F m ([R0, R1, R2, R3, R4] ++ Rest) K := h
theorem At.app6 {Rest : List Res} {R0 R1 R2 R3 R4 R5 : Res} (h : At n w0 F m (R0 :: R1 :: R2 :: R3 :: R4 :: R5 :: Rest) K) : At n w0 F m ([R0, R1, R2, R3, R4, R5] ++ Rest) K := h
theorem At.app7 {Rest : List Res} {R0 R1 R2 R3 R4 R5 R6 : Res} (h : At n w0 F m (R0 :: R1 :: R2 :: R3 :: R4 :: R5 :: R6 :: Rest) K) : At n w0 F m ([R0, R1, R2, R3, R4, R5, R6] ++ Rest) K := h
end
end Go.J
namespace Go.J
open Go
/-- the first is part of the second, in whatever order -/
inductive Low : List Res → List Res → Prop
  | base {R : List Res} : Low R R
  | cons {X : Res} {A R R1 : List Res} : Pick R X R1 → Low A R1 → Low (X :: A) R
  | skip {X : Res} {A R : List Res} : Low A R → Low A (X :: R)
theorem Low.ent {A R : List Res} (h : Low A R) : Ent R A := by
  induction h with
  | base => exact Ent.refl _
  | cons hp _ ih => exact (Ent.of_pick hp).trans (Ent.cons _ ih)
  | skip _ ih => exact (Ent.drop _ _).trans ih
def Res.ex {σ : Type} (I : σ → Prop) (A : σ → List Res) : Res where
  p w s := ∃ x, I x ∧ Sat (A x) w s
  loc := fun ⟨x, h1, h2⟩ he => ⟨x, h1, Sat.loc h2 he⟩
  dom := fun ⟨_, _, h2⟩ hk => Sat.dom h2 hk
theorem Ent.openx {σ : Type} {I : σ → Prop} {A : σ → List Res} {Rs : List Res} {w : World} {s : Nat → Prop} (h : Sat (.ex I A :: Rs) w s) : ∃ x, I x ∧ Sat (A x ++ Rs) w s := by
  obtain ⟨s1, s2, ⟨x, hI, h1⟩, h2, hd, he⟩ := h
  exact ⟨x, hI, Sat_append.2 ⟨s1, s2, h1, h2, hd, he⟩⟩
theorem Ent.closex {σ : Type} {I : σ → Prop} {A : σ → List Res} {Rs : List Res} (x : σ) (hI : I x) : Ent (A x ++ Rs) (.ex I A :: Rs) := fun w s h => by
  obtain ⟨s1, s2, h1, h2, hd, he⟩ := Sat_append.1 h
  exact ⟨s, ⟨s1, s2, ⟨x, hI, h1⟩, h2, hd, he⟩, fun _ x => x⟩
section
variable {P : Program} {n : Nat} {w0 : World} {F : Fr} {m : Mem} {Rs : List Res} {K : Act → World → Prop} {σ : Type} {I : σ → Prop} {A : σ → List Res}
theorem HW.openx {w : World} (h : HW w0 m (.ex I A :: Rs) w) : ∃ x, I x ∧ HW w0 m (A x ++ Rs) w := by
  obtain ⟨s, hs, hm⟩ := h.res
  obtain ⟨x, hI, hs'⟩ := Ent.openx hs
  exact ⟨x, hI, h.os, h.tape, h.output, h.size, h.dr, h.mem, s, hs', hm⟩
theorem At.openx {Rs0 : List Res} (hp : Pick Rs0 (.ex I A) Rs) (h : ∀ x, I x → At n w0 F m (A x ++ Rs) K) : At n w0 F m Rs0 K := fun a w ha hw => by
  obtain ⟨x, hI, hw'⟩ := (hw.ent (Ent.of_pick hp)).openx
  exact h x hI a w ha hw'
theorem Ct.openx {f : FuncId} {args : Array Value} {A0 : List Res} {R : Value → Mem → List Res → Prop} (h : ∀ x, I x → Ct P f args m (A x ++ A0) R) : Ct P f args m (.ex I A :: A0) R := fun w0 Rest w hw => by
  obtain ⟨x, hI, hw'⟩ := HW.openx (Rs := A0 ++ Rest) hw
  exact h x hI w0 Rest w (by rw [List.append_assoc]; exact hw')
theorem Ct.conv {f : FuncId} {args : Array Value} {A0 : List Res} {R R' : Value → Mem → List Res → Prop} (h : Ct P f args m A0 R) (hr : ∀ v m' B, m.le m' → R v m' B → ∃ B', R' v m' B' ∧ ∀ Rest, Ent (B ++ Rest) (B' ++ Rest)) : Ct P f args m A0 R' :=
  fun w0 Rest w hw => (h w0 Rest w hw).mono fun _ _ ⟨v, m', B, he, hm, hR, hw'⟩ => let ⟨B', h1, h2⟩ := hr v m' B hm hR; ⟨v, m', B', he, hm, h1, hw'.ent (h2 Rest)⟩
theorem Rd.openx {f : FuncId} {args : Array Value} {A0 : List Res} {V : Value} (h : ∀ x, I x → Rd P f args m (A x ++ A0) V) : Rd P f args m (.ex I A :: A0) V :=
  Ct.openx fun x hI => Ct.conv (h x hI) fun v m' B _ ⟨h1, h2, h3⟩ => ⟨_, ⟨h1, h2, rfl⟩, fun Rest => by subst h3; rw [List.append_assoc]; exact Ent.closex x hI⟩
theorem Rd.frame {f : FuncId} {args : Array Value} {A0 A1 Y : List Res} {V : Value} (h : Rd P f args m A0 V) (ht : Take A0 A1 Y) : Rd P f args m A1 V := fun w0 Rest w hw => by
  have e : Eqv (A1 ++ Rest) (A0 ++ (Y ++ Rest)) := (Eqv.append ht.eqv (Eqv.refl Rest)).trans (by rw [List.append_assoc]; exact Eqv.refl _)
  exact (h w0 (Y ++ Rest) w (hw.ent e.ent)).mono fun _ _ ⟨v, m', B, he, hm, ⟨h1, h2, h3⟩, hw'⟩ => ⟨v, m', A1, he, hm, ⟨h1, h2, rfl⟩, by subst h3; exact hw'.ent e.symm.ent⟩
theorem At.callt1 {Q : Exit → Act → World → Prop} {F : Fr} {ops : Array Oper} {rest : List Oper} {d : Nat} {g : FuncId} {xs : List Operand} {ts : Array TypeId} {ty : TypeId} {pos : String} {aft : Array Edge} {vs : List Value} {A Rest : List Res} {R : Value → Mem → List Res → Prop}
    (hg : goFn P g = true) (hx : evs F xs = some vs) (hd : Nat.blt d n = true) (hc : Ct P g vs.toArray m A R) (hA : Take A Rs Rest)
    (h : ∀ v m' B, m.le m' → R v m' B → At n w0 ((d, v) :: F) m' (B ++ Rest) (wpList P ops Q rest)) :
    At n w0 F m Rs (wpList P ops Q (⟨some d, .call ⟨.value (.func g), xs.toArray, ts⟩, ty, pos, aft, none⟩ :: rest)) := At.call (d := some d) hg hx (by simpa using hd) hc hA.eqv.ent h
theorem At.callt0 {Q : Exit → Act → World → Prop} {F : Fr} {ops : Array Oper} {rest : List Oper} {g : FuncId} {xs : List Operand} {ts : Array TypeId} {ty : TypeId} {pos : String} {aft : Array Edge} {vs : List Value} {A Rest : List Res} {R : Value → Mem → List Res → Prop}
    (hg : goFn P g = true) (hx : evs F xs = some vs) (hc : Ct P g vs.toArray m A R) (hA : Take A Rs Rest)
    (h : ∀ v m' B, m.le m' → R v m' B → At n w0 F m' (B ++ Rest) (wpList P ops Q rest)) :
    At n w0 F m Rs (wpList P ops Q (⟨none, .call ⟨.value (.func g), xs.toArray, ts⟩, ty, pos, aft, none⟩ :: rest)) := At.call (d := none) hg hx rfl hc hA.eqv.ent h
/-! whole numbers that are not told as natural ones -/
section
variable {α : Type} [Inhabited α] {f : α → List Value} {sz : Nat} {E : TypeId} {p : Option Addr} {c : Nat} {l : List α} {Rs' : List Res} {F : Fr} {C : World → Prop}
/-- so long, at most, and of elements of so many cells -/
def LeSz (C : World → Prop) (_sz c ln : Nat) : Prop := ∀ w, C w → ln ≤ c
theorem own_le (hp : Pick Rs (.own f sz E p c l) Rs') : LeSz (HW w0 m Rs) sz c l.length := fun w hw => by
  obtain ⟨_, ⟨_, _, rfl, _⟩ | ⟨g, o, cur, rfl, _, h3, _⟩⟩ := hw.get hp
  · exact Nat.zero_le _
  · exact h3
theorem mem_le (h : Sl m f sz p c l) : LeSz (HW w0 m Rs) sz c l.length := fun _ _ => h.le
theorem pr_slice_gl {x y : Operand} {t E : TypeId} {ln lo sz : Nat} {k : IntKind} (hx : ev F x = some (.slice p ln c)) (hy : ev F y = some (.int k (lo : Int))) (hle : LeSz C sz c ln) (ht : P.underlying t = some (.slice E)) (hs : sizeB P E = some sz) (h1 : lo ≤ ln) :
    PR P n F C (.slice t x (some y) none none) (.slice (subp p c lo sz) (ln - lo) (c - lo)) := fun d ty pos aft g a w ha hC => pr_slice_l hx hy ht hs h1 (hle w hC) d ty pos aft g a w ha hC
theorem pr_slice_gh {x z : Operand} {t E : TypeId} {ln hi sz : Nat} {k : IntKind} (hx : ev F x = some (.slice p ln c)) (hz : ev F z = some (.int k (hi : Int))) (hle : LeSz C sz c ln) (ht : P.underlying t = some (.slice E)) (hs : sizeB P E = some sz) (h2 : hi ≤ ln) :
    PR P n F C (.slice t x none (some z) none) (.slice (subp p c 0 sz) (hi - 0) (c - 0)) := fun d ty pos aft g a w ha hC => pr_slice_h hx hz ht hs (Nat.le_trans h2 (hle w hC)) d ty pos aft g a w ha hC
theorem pr_slice_glh {x y z : Operand} {t E : TypeId} {ln lo hi sz : Nat} {k k' : IntKind} (hx : ev F x = some (.slice p ln c)) (hy : ev F y = some (.int k (lo : Int))) (hz : ev F z = some (.int k' (hi : Int))) (hle : LeSz C sz c ln) (ht : P.underlying t = some (.slice E)) (hs : sizeB P E = some sz) (h1 : lo ≤ hi) (h2 : hi ≤ ln) :
    PR P n F C (.slice t x (some y) (some z) none) (.slice (subp p c lo sz) (hi - lo) (c - lo)) := fun d ty pos aft g a w ha hC => pr_slice_lh hx hy hz ht hs h1 (Nat.le_trans h2 (hle w hC)) d ty pos aft g a w ha hC
theorem pr_slice_gli {x y : Operand} {t E : TypeId} {ln sz : Nat} {q : Int} {k : IntKind} (hx : ev F x = some (.slice p ln c)) (hy : ev F y = some (.int k q)) (hle : LeSz C sz c ln) (ht : P.underlying t = some (.slice E)) (hs : sizeB P E = some sz) (h0 : 0 ≤ q) (h1 : q ≤ ln) :
    PR P n F C (.slice t x (some y) none none) (.slice (subp p c q.toNat sz) (ln - q.toNat) (c - q.toNat)) := pr_slice_gl hx (lo := q.toNat) (by rw [hy, Int.toNat_of_nonneg h0]) hle ht hs (by omega)
theorem pr_slice_ghi {x z : Operand} {t E : TypeId} {ln sz : Nat} {q : Int} {k : IntKind} (hx : ev F x = some (.slice p ln c)) (hz : ev F z = some (.int k q)) (hle : LeSz C sz c ln) (ht : P.underlying t = some (.slice E)) (hs : sizeB P E = some sz) (h0 : 0 ≤ q) (h2 : q ≤ ln) :
    PR P n F C (.slice t x none (some z) none) (.slice (subp p c 0 sz) (q.toNat - 0) (c - 0)) := pr_slice_gh hx (hi := q.toNat) (by rw [hz, Int.toNat_of_nonneg h0]) hle ht hs (by omega)
theorem pr_slice_glhi {x y z : Operand} {t E : TypeId} {ln sz : Nat} {q r : Int} {k k' : IntKind} (hx : ev F x = some (.slice p ln c)) (hy : ev F y = some (.int k q)) (hz : ev F z = some (.int k' r)) (hle : LeSz C sz c ln) (ht : P.underlying t = some (.slice E)) (hs : sizeB P E = some sz) (h0 : 0 ≤ q) (h1 : q ≤ r) (h2 : r ≤ ln) :
    PR P n F C (.slice t x (some y) (some z) none) (.slice (subp p c q.toNat sz) (r.toNat - q.toNat) (c - q.toNat)) := pr_slice_glh hx (lo := q.toNat) (hi := r.toNat) (by rw [hy, Int.toNat_of_nonneg h0]) (by rw [hz, Int.toNat_of_nonneg (by omega)]) hle ht hs (by omega) (by omega)
theorem pr_minI {x y : Operand} {k : IntKind} {p q : Int} {ts : Array TypeId} (hx : ev F x = some (.int k p)) (hy : ev F y = some (.int k q)) : PR P n F C (.call ⟨.builtin .min, #[x, y], ts⟩) (.int k (min p q)) := by
  rw [show min p q = (if q < p then q else p) by split <;> omega]; exact pr_min hx hy
theorem pr_maxI {x y : Operand} {k : IntKind} {p q : Int} {ts : Array TypeId} (hx : ev F x = some (.int k p)) (hy : ev F y = some (.int k q)) : PR P n F C (.call ⟨.builtin .max, #[x, y], ts⟩) (.int k (max p q)) := by
  rw [show max p q = (if p < q then q else p) by split <;> omega]; exact pr_max hx hy
theorem pr_index_owni {x y : Operand} {t : TypeId} {ln : Nat} {q : Int} {ki : IntKind} (hx : ev F x = some (.slice p ln c)) (hy : ev F y = some (.int ki q)) (hp : Pick Rs (.own f sz E p c l) Rs') (hf : Fl f sz)
    (ht : P.underlying t = some (.slice E)) (hs : sizeB P E = some sz) (hl : ln = l.length) (h0 : 0 ≤ q) (hk : q < l.length) : PR P n F (HW w0 m Rs) (.indexAddr t x y) (.pointer (some (at_ p (q.toNat * sz)))) :=
  pr_index_own hx (k := q.toNat) (by rw [hy, Int.toNat_of_nonneg h0]) hp hf ht hs hl (by omega)
theorem pr_index_memi {x y : Operand} {t E : TypeId} {ln : Nat} {q : Int} {ki : IntKind} (hx : ev F x = some (.slice p ln c)) (hy : ev F y = some (.int ki q)) (h : Sl m f sz p c l)
    (ht : P.underlying t = some (.slice E)) (hs : sizeB P E = some sz) (hl : ln = l.length) (h0 : 0 ≤ q) (hk : q < l.length) : PR P n F (HW w0 m Rs) (.indexAddr t x y) (.pointer (some (at_ p (q.toNat * sz)))) :=
  pr_index_mem hx (k := q.toNat) (by rw [hy, Int.toNat_of_nonneg h0]) h ht hs hl (by omega)
theorem pr_slice_li {x y : Operand} {t E : TypeId} {ln sz : Nat} {q : Int} {k : IntKind} (hx : ev F x = some (.slice p ln c)) (hy : ev F y = some (.int k q)) (ht : P.underlying t = some (.slice E)) (hs : sizeB P E = some sz) (h0 : 0 ≤ q) (h1 : q ≤ ln) (h2 : ln ≤ c) :
    PR P n F C (.slice t x (some y) none none) (.slice (subp p c q.toNat sz) (ln - q.toNat) (c - q.toNat)) := pr_slice_l hx (lo := q.toNat) (by rw [hy, Int.toNat_of_nonneg h0]) ht hs (by omega) h2
theorem pr_slice_hi {x z : Operand} {t E : TypeId} {ln sz : Nat} {q : Int} {k : IntKind} (hx : ev F x = some (.slice p ln c)) (hz : ev F z = some (.int k q)) (ht : P.underlying t = some (.slice E)) (hs : sizeB P E = some sz) (h0 : 0 ≤ q) (h2 : q ≤ c) :
    PR P n F C (.slice t x none (some z) none) (.slice (subp p c 0 sz) (q.toNat - 0) (c - 0)) := pr_slice_h hx (hi := q.toNat) (by rw [hz, Int.toNat_of_nonneg h0]) ht hs (by omega)
theorem pr_slice_lhi {x y z : Operand} {t E : TypeId} {ln sz : Nat} {q r : Int} {k k' : IntKind} (hx : ev F x = some (.slice p ln c)) (hy : ev F y = some (.int k q)) (hz : ev F z = some (.int k' r)) (ht : P.underlying t = some (.slice E)) (hs : sizeB P E = some sz) (h0 : 0 ≤ q) (h1 : q ≤ r) (h2 : r ≤ c) :
    PR P n F C (.slice t x (some y) (some z) none) (.slice (subp p c q.toNat sz) (r.toNat - q.toNat) (c - q.toNat)) := pr_slice_lh hx (lo := q.toNat) (hi := r.toNat) (by rw [hy, Int.toNat_of_nonneg h0]) (by rw [hz, Int.toNat_of_nonneg (by omega)]) ht hs (by omega) (by omega)
end
/-! texts -/
theorem str_eq (a b : ByteArray) : (a.toList == b.toList) = decide (a = b) := by
  rw [ByteArray.toList_eq, ByteArray.toList_eq]
  by_cases h : a = b
  · subst h; simp
  · have : ¬ a.data.toList = b.data.toList := fun e => h (by cases a; cases b; simp at e; subst e; rfl)
    rw [decide_eq_false h]
    exact beq_eq_false_iff_ne.2 this
theorem pr_seql {F : Fr} {C : World → Prop} {x y : Operand} {p q : ByteArray} {t u : TypeId} (hx : ev F x = some (.string p)) (hy : ev F y = some (.string q)) : PR P n F C (.binOp .eql t x y u) (.bool (decide (p = q))) := fun _ _ _ _ _ a w ha hC => by
  have hb : binOp .eql t (.string p) (.string q) = pure (.bool (p.toList == q.toList)) := rfl
  have hg : ∀ w, (eqGuard .eql t x y (.string p) (.string q)).run P w = .ok () w := fun _ => rfl
  simp only [execOp, ha.ev hx, ha.ev hy, hb, str_eq]
  simp [hg]
theorem pr_sneq {F : Fr} {C : World → Prop} {x y : Operand} {p q : ByteArray} {t u : TypeId} (hx : ev F x = some (.string p)) (hy : ev F y = some (.string q)) : PR P n F C (.binOp .neq t x y u) (.bool (!decide (p = q))) := fun _ _ _ _ _ a w ha hC => by
  have hb : binOp .neq t (.string p) (.string q) = pure (.bool !(p.toList == q.toList)) := rfl
  have hg : ∀ w, (eqGuard .neq t x y (.string p) (.string q)).run P w = .ok () w := fun _ => rfl
  simp only [execOp, ha.ev hx, ha.ev hy, hb, str_eq]
  simp [hg]
end
end Go.J
namespace Go.J
open Go
def rvSem (r : ResultVar) (tmps : Array Value) : Sem Value := match r with
  | .tmp t => pure (tmps.getD t undef)
  | .cell a t => do loadVar t (← asAddr (tmps.getD a undef))
def RV (P : Program) (n : Nat) (F : Fr) (C : World → Prop) (r : ResultVar) (v : Value) : Prop := ∀ a w, HF n F a → C w → (rvSem r a.tmps).run P w = .ok v w
def RVs (P : Program) (n : Nat) (F : Fr) (C : World → Prop) : List ResultVar → List Value → Prop
  | [], [] => True
  | r :: rs, v :: vs => RV P n F C r v ∧ RVs P n F C rs vs
  | _, _ => False
def retv : List Value → Value
  | [v] => v
  | vs => .tuple vs.toArray
section
variable {P : Program} {n : Nat} {w0 : World} {F : Fr} {m : Mem} {Rs : List Res} {C : World → Prop}
theorem rv_tmp {t : Nat} {v : Value} (ht : look t F = some v) : RV P n F C (.tmp t) v := fun a w ha _ => by
  show (Pure.pure (a.tmps.getD t undef) : Sem Value).run P w = _
  rw [ha.val t v ht]; rfl
theorem rv_cellN {x b k : Nat} {t E : TypeId} {cs vs : List Value} {Rs' : List Res} (hx : look x F = some (.pointer (some ⟨b, 0, none⟩))) (hp : Pick Rs (.blk b E cs) Rs') (ht : isAggB P t = some true) (hs : sizeB P t = some k) (hv : subl cs 0 k = some vs) : RV P n F (HW w0 m Rs) (.cell x t) (.agg vs.toArray) := fun a w ha hC => by
  have hl := subl_length cs 0 k vs hv
  show ((do loadVar t (← asAddr (a.tmps.getD x undef))) : Sem Value).run P w = _
  rw [ha.val x _ hx]
  have e0 : (asAddr (.pointer (some ⟨b, 0, none⟩)) : Sem Addr).run P w = .ok ⟨b, 0, none⟩ w := rfl
  simp only [Sem.run_bind, e0, Result.andThen]
  exact run_loadVarN ht (by rw [hl]; exact hs) (fun j hj => by
    rw [World.cell_of (hC.blk hp), ← subl_get cs 0 k vs hv j (by omega)]
    simp)
theorem rv_cell1 {x b : Nat} {t E : TypeId} {cs : List Value} {v : Value} {Rs' : List Res} (hx : look x F = some (.pointer (some ⟨b, 0, none⟩))) (hp : Pick Rs (.blk b E cs) Rs') (ht : isAggB P t = some false) (hv : nthl cs 0 = some v) : RV P n F (HW w0 m Rs) (.cell x t) v := fun a w ha hC => by
  show ((do loadVar t (← asAddr (a.tmps.getD x undef))) : Sem Value).run P w = _
  rw [ha.val x _ hx]
  have e0 : (asAddr (.pointer (some ⟨b, 0, none⟩)) : Sem Addr).run P w = .ok ⟨b, 0, none⟩ w := rfl
  simp only [Sem.run_bind, e0, Result.andThen]
  exact run_loadVar1 ht (by rw [World.cell_of (hC.blk hp)]; rw [nthl_eq] at hv; simpa using hv)
theorem RVs.nil : RVs P n F C [] [] := trivial
theorem RVs.cons {r : ResultVar} {v : Value} {rs : List ResultVar} {vs : List Value} (h : RV P n F C r v) (h' : RVs P n F C rs vs) : RVs P n F C (r :: rs) (v :: vs) := ⟨h, h'⟩
theorem run_rvs {a : Act} {w : World} (ha : HF n F a) (hC : C w) : ∀ (rs : List ResultVar) (vs : List Value), RVs P n F C rs vs → (rs.mapM fun r => rvSem r a.tmps).run P w = .ok vs w
  | [], [], _ => rfl
  | r :: rs, v :: vs, ⟨h1, h2⟩ => by
    simp [List.mapM_cons, h1 a w ha hC, run_rvs ha hC rs vs h2]
  | [], _ :: _, h => h.elim
  | _ :: _, [], h => h.elim
theorem At.retV {fn : Func} {R : Value → Mem → List Res → Prop} {m0 : Mem} {Rest B : List Res} {rs : List ResultVar} {vs : List Value} (hr : fn.results = rs.toArray) (hrs : RVs P n F (HW w0 m Rs) rs vs) (hm : m0.le m) (hB : Keep B Rs Rest) (hR : R (retv vs) m B) :
    At n w0 F m Rs (bodyPost P fn (fun e w' => ∃ v m' B, e = .returned v ∧ m0.le m' ∧ R v m' B ∧ HW w0 m' (B ++ Rest) w') .ret) := fun a w ha hw => by
  refine ⟨ha.dfr, retv vs, ?_, _, m, B, rfl, hm, hR, hw.ent hB.ent⟩
  have h := run_rvs ha hw rs vs hrs
  have e : results fn a.tmps = (do let vs ← rs.toArray.mapM fun r => rvSem r a.tmps; Pure.pure (if h : vs.size = 1 then vs[0] else .tuple vs)) := by
    unfold results
    rw [hr]
    rfl
  rw [e]
  have h2 : (rs.toArray.mapM fun r => rvSem r a.tmps).run P w = .ok vs.toArray w := by
    rw [Array.mapM_eq_mapM_toList]
    simp [h]
  simp only [Sem.run_bind, h2, Result.andThen]
  cases vs with
  | nil => rfl
  | cons v vs => cases vs with
    | nil => rfl
    | cons v2 vs => simp [retv]
end
end Go.J
