/- Part 2 of what the law's proof needs: rules of the walk, contracts of functions, plain laws. No condition. -/
import Derived.Test.YtijgnbedilipdaaTdEZ1
import Derived.Deep.AppendSrc
import Derived.Laws.MakeOwn
import Derived.StillTail
import Derived.Laws.Tables
import Derived.Great.BuildSlice
set_option linter.unusedSimpArgs false
set_option linter.unusedVariables false
set_option linter.unusedSectionVars false
set_option maxRecDepth 20000
namespace Go.J
open Go
def at_ (p : Option Addr) (k : Nat) : Addr := match p with
  | some a => ⟨a.block, a.off + k, none⟩
  | none => ⟨0, k, none⟩
theorem at_some (b o k : Nat) : at_ (some ⟨b, o, none⟩) k = ⟨b, o + k, none⟩ := rfl
def subp (p : Option Addr) (c lo sz : Nat) : Option Addr := if c = lo then p else p.map (·.add (lo * sz))
class Fl {α : Type} (f : α → List Value) (sz : outParam Nat) : Prop where
  len : ∀ x, (f x).length = sz
  one : ∀ x, ∀ v ∈ f x, v.oneCell' = true
  pos : 0 < sz
section
variable {α : Type} [Inhabited α] {f : α → List Value} {sz : Nat}
theorem flatMap_length (hf : ∀ x, (f x).length = sz) : ∀ l : List α, (l.flatMap f).length = l.length * sz
  | [] => by simp
  | x :: l => by rw [List.flatMap_cons, List.length_append, hf, flatMap_length hf l, List.length_cons, Nat.add_mul]; omega
theorem flatMap_get (hf : ∀ x, (f x).length = sz) : ∀ (l : List α) (i j : Nat), i < l.length → j < sz → (l.flatMap f)[i * sz + j]? = (f l[i]!)[j]?
  | [], i, _, h, _ => by simp at h
  | x :: l, 0, j, _, hj => by
    rw [List.flatMap_cons, Nat.zero_mul, Nat.zero_add, List.getElem?_append_left (by rw [hf]; exact hj)]
    rfl
  | x :: l, i + 1, j, h, hj => by
    rw [List.flatMap_cons, List.getElem?_append_right (by rw [hf, Nat.add_mul]; omega), hf]
    rw [show (i + 1) * sz + j - sz = i * sz + j by rw [Nat.add_mul]; omega, flatMap_get hf l i j (by simpa using h) hj]
    rfl
/-- a slice's cells, in every world of a class -/
structure Rdb (C : World → Prop) (f : α → List Value) (sz : Nat) (p : Option Addr) (c : Nat) (l : List α) : Prop where
  fl : Fl f sz
  some : ∀ w, C w → l ≠ [] → ∃ b o, p = some ⟨b, o, none⟩
  le : ∀ w, C w → l.length ≤ c
  cell : ∀ w, C w → ∀ i j, i < l.length → j < sz → w.cell? (at_ p (i * sz + j)) = (f l[i]!)[j]?
/-- a slice over memory that stays as it is -/
structure Sl (m : Mem) (f : α → List Value) (sz : Nat) (p : Option Addr) (c : Nat) (l : List α) : Prop where
  fl : Fl f sz
  le : l.length ≤ c
  big : c ≤ maxLen
  nil : p = none → c = 0
  some : ∀ a, p = some a → 0 < c → a.spot = none ∧ ∃ E cs fz, m a.block = some (.cells cs E fz) ∧ a.off + c * sz ≤ cs.size ∧ ∀ i j, i < l.length → j < sz → cs[a.off + (i * sz + j)]? = (f l[i]!)[j]?
theorem Sl.mono {m m' : Mem} {p : Option Addr} {c : Nat} {l : List α} (h : Sl m f sz p c l) (hm : m.le m') : Sl m' f sz p c l :=
  ⟨h.fl, h.le, h.big, h.nil, fun a ha hp => let ⟨h1, E, cs, fz, h2, h3⟩ := h.some a ha hp; ⟨h1, E, cs, fz, hm _ _ h2, h3⟩⟩
theorem Sl.empty (m : Mem) (hf : Fl f sz) : Sl m f sz none 0 ([] : List α) :=
  ⟨hf, Nat.le_refl _, Nat.zero_le _, fun _ => rfl, fun _ h _ => by cases h⟩
theorem Sl.rdb {w0 : World} {m : Mem} {Rs : List Res} {p : Option Addr} {c : Nat} {l : List α} (h : Sl m f sz p c l) : Rdb (HW w0 m Rs) f sz p c l := by
  refine ⟨h.fl, fun _ _ hl => ?_, fun _ _ => h.le, fun w hw i j hi hj => ?_⟩
  · cases p with
    | none => have := h.nil rfl; have := h.le; exact absurd (List.eq_nil_of_length_eq_zero (by omega)) hl
    | some a =>
      obtain ⟨h1, _⟩ := h.some a rfl (by have := h.le; have : 0 < l.length := List.length_pos_iff.2 hl; omega)
      exact ⟨a.block, a.off, by cases a; simp at h1; subst h1; rfl⟩
  · cases p with
    | none => have := h.nil rfl; have := h.le; omega
    | some a =>
      obtain ⟨h1, E, cs, fz, h2, h3, h4⟩ := h.some a rfl (by have := h.le; omega)
      show w.cell? ⟨a.block, a.off + (i * sz + j), none⟩ = _
      rw [World.cell_of (hw.mem _ _ h2)]
      exact h4 i j hi hj
/-- a slice that a function owns, with all of its block -/
def Res.own {α : Type} (f : α → List Value) (sz : Nat) (E : TypeId) (p : Option Addr) (c : Nat) (l : List α) : Res where
  p w s := (p = none ∧ c = 0 ∧ l = [] ∧ ∀ k, ¬ s k) ∨ ∃ g o cur, p = some ⟨g, o, none⟩ ∧ w.heap[g]? = some (.cells cur E (0, 0)) ∧ l.length ≤ c ∧ c ≤ maxLen ∧ o + c * sz ≤ cur.size ∧ (∀ j, j < l.length * sz → cur[o + j]? = (l.flatMap f)[j]?) ∧ ∀ k, s k ↔ k = g
  loc := fun {w w' s} h he => by
    rcases h with h | ⟨g, o, cur, h1, h2, h3, h4, h5, h6, h7⟩
    · exact .inl h
    · exact .inr ⟨g, o, cur, h1, by rw [he g ((h7 g).2 rfl)]; exact h2, h3, h4, h5, h6, h7⟩
  dom := fun {w s k} h hk => by
    rcases h with h | ⟨g, o, cur, h1, h2, h3, h4, h5, h6, h7⟩
    · exact absurd hk (h.2.2.2 k)
    · rw [(h7 k).1 hk]; exact (Array.getElem?_eq_some_iff.1 h2).1
theorem own_cell {w : World} {s : Nat → Prop} {E : TypeId} {p : Option Addr} {c : Nat} {l : List α} (hf : Fl f sz) (h : (Res.own f sz E p c l).p w s) (i j : Nat) (hi : i < l.length) (hj : j < sz) :
    w.cell? (at_ p (i * sz + j)) = (f l[i]!)[j]? := by
  rcases h with ⟨_, _, rfl, _⟩ | ⟨g, o, cur, rfl, h2, h3, h4, h5, h6, h7⟩
  · simp at hi
  · show w.cell? ⟨g, o + (i * sz + j), none⟩ = _
    have : (i + 1) * sz ≤ l.length * sz := Nat.mul_le_mul_right _ hi
    rw [World.cell_of h2, h6 _ (by rw [Nat.add_mul] at this; omega), flatMap_get hf.len l i j hi hj]
theorem own_rdb {w0 : World} {m : Mem} {Rs Rs' : List Res} {E : TypeId} {p : Option Addr} {c : Nat} {l : List α} (hf : Fl f sz) (hp : Pick Rs (.own f sz E p c l) Rs') : Rdb (HW w0 m Rs) f sz p c l := by
  refine ⟨hf, fun w hw hl => ?_, fun w hw => ?_, fun w hw i j hi hj => let ⟨_, h⟩ := hw.get hp; own_cell hf h i j hi hj⟩
  · obtain ⟨_, ⟨_, _, rfl, _⟩ | ⟨g, o, cur, rfl, _⟩⟩ := hw.get hp
    · exact absurd rfl hl
    · exact ⟨_, _, rfl⟩
  · obtain ⟨_, ⟨_, _, rfl, _⟩ | ⟨g, o, cur, rfl, _, h3, _⟩⟩ := hw.get hp
    · exact Nat.zero_le _
    · exact h3
/-- a part of what can be read -/
theorem Rdb.sub {C : World → Prop} {p : Option Addr} {c : Nat} {l : List α} (h : Rdb C f sz p c l) (lo hi : Nat) (h1 : lo ≤ hi) (h2 : hi ≤ l.length) : Rdb C f sz (subp p c lo sz) (c - lo) ((l.take hi).drop lo) := by
  have hlen : ((l.take hi).drop lo).length = hi - lo := by simp; omega
  refine ⟨h.fl, fun w hw hl => ?_, fun w hw => ?_, fun w hw i j hi' hj => ?_⟩
  · have hlt : lo < hi := by
      rcases Nat.lt_or_ge lo hi with h | h
      · exact h
      · exact absurd (List.eq_nil_of_length_eq_zero (by rw [hlen]; omega)) hl
    obtain ⟨b, o, rfl⟩ := h.some w hw (fun e => by subst e; simp at h2; omega)
    unfold subp
    have := h.le w hw
    rw [if_neg (by omega)]
    exact ⟨b, o + lo * sz, by simp [Addr.add_eq]⟩
  · rw [hlen]; have := h.le w hw; omega
  · rw [hlen] at hi'
    have hle := h.le w hw
    obtain ⟨b, o, rfl⟩ := h.some w hw (fun e => by subst e; simp at h2; omega)
    have hx := h.cell w hw (lo + i) j (by omega) hj
    have key : (f ((l.take hi).drop lo)[i]!)[j]? = (f l[lo + i]!)[j]? := by
      congr 2
      rw [List.getElem!_eq_getElem?_getD, List.getElem!_eq_getElem?_getD, List.getElem?_drop, List.getElem?_take, if_pos (by omega)]
    rw [key, ← hx]
    unfold subp
    rw [if_neg (by omega)]
    simp only [Option.map_some, Addr.add_eq, at_]
    congr 2
    rw [Nat.add_mul]; omega
end
section
variable {P : Program} {n : Nat} {w0 : World} {F : Fr} {m : Mem} {Rs : List Res} {Q : Exit → Act → World → Prop} {K : Act → World → Prop} {C : World → Prop}
variable {α : Type} [Inhabited α] {f : α → List Value} {sz : Nat}
theorem At.pure {φ : Prop} (h1 : ∀ w, HW w0 m Rs w → φ) (h : φ → At n w0 F m Rs K) : At n w0 F m Rs K := fun a w ha hw => h (h1 w hw) a w ha hw
/-- what is known of an owned slice's form -/
theorem At.own_form {E : TypeId} {p : Option Addr} {c : Nat} {l : List α} {Rs' : List Res} (hp : Pick Rs (.own f sz E p c l) Rs')
    (h : (l ≠ [] → ∃ b o, p = some ⟨b, o, none⟩) → l.length ≤ c → c ≤ maxLen → At n w0 F m Rs K) : At n w0 F m Rs K := fun a w ha hw => by
  obtain ⟨_, h1⟩ := hw.get hp
  rcases h1 with ⟨_, rfl, rfl, _⟩ | ⟨g, o, cur, rfl, h2, h3, h4, h5, h6, h7⟩
  · exact h (fun hl => absurd rfl hl) (Nat.le_refl _) (Nat.zero_le _) a w ha hw
  · exact h (fun hl => ⟨_, _, rfl⟩) h3 h4 a w ha hw
theorem At.own_nil (f : α → List Value) (sz : Nat) (E : TypeId) (h : At n w0 F m (.own f sz E none 0 ([] : List α) :: Rs) K) : At n w0 F m Rs K := fun a w ha hw => by
  exact h a w ha (hw.add rfl rfl rfl (Nat.le_refl _) (fun _ _ => rfl) ⟨fun _ => False, .inl ⟨rfl, rfl, rfl, fun _ h => h⟩, fun _ h => h.elim⟩)
theorem own_nil_ent (f : α → List Value) (sz : Nat) (E : TypeId) (Rs : List Res) : Ent Rs (.own f sz E none 0 ([] : List α) :: Rs) := fun w s h =>
  ⟨s, ⟨fun _ => False, s, .inl ⟨rfl, rfl, rfl, fun _ h => h⟩, h, fun k x => x.1, fun k => by simp⟩, fun _ x => x⟩
theorem At.own_freeze {E : TypeId} {p : Option Addr} {c : Nat} {l : List α} {Rs' : List Res} (hf : Fl f sz) (hp : Pick Rs (.own f sz E p c l) Rs')
    (h : ∀ m' : Mem, m.le m' → Sl m' f sz p c l → At n w0 F m' Rs' K) : At n w0 F m Rs K := fun a w ha hw => by
  obtain ⟨s, ⟨s1, s2, h1, h2, hd, he⟩, hm⟩ := (hw.ent (Ent.of_pick hp)).res
  rcases h1 with ⟨rfl, rfl, rfl, hs⟩ | ⟨g, o, cur, rfl, h4, h5, h6, h7, h8, hg⟩
  · exact h m (Mem.le_refl _) (Sl.empty m hf) a w ha ⟨hw.os, hw.tape, hw.output, hw.size, hw.dr, hw.mem, s2, h2, fun k hk => hm k ((he k).2 (.inr hk))⟩
  · have hmb : m g = none := hm g ((he g).2 (.inl ((hg g).2 rfl)))
    refine h (fun k => if k = g then some (.cells cur E (0, 0)) else m k) (fun k o hk => ?_) ⟨hf, h5, h6, (fun e => by cases e), fun a' ha' _ => ?_⟩ a w ha
      ⟨hw.os, hw.tape, hw.output, hw.size, hw.dr, fun k o hk => ?_, s2, h2, fun k hk => ?_⟩
    · show (if k = g then _ else _) = _
      rw [if_neg (fun e => by subst e; rw [hmb] at hk; cases hk)]; exact hk
    · cases ha'
      refine ⟨rfl, E, cur, (0, 0), if_pos rfl, h7, fun i j hi hj => ?_⟩
      have : (i + 1) * sz ≤ l.length * sz := Nat.mul_le_mul_right _ hi
      show cur[o + (i * sz + j)]? = _
      rw [h8 _ (by rw [Nat.add_mul] at this; omega), flatMap_get hf.len l i j hi hj]
    · by_cases e : k = g
      · subst e
        rw [if_pos rfl] at hk; cases hk; exact h4
      · rw [if_neg e] at hk; exact hw.mem k o hk
    · show (if k = g then _ else _) = _
      rw [if_neg (fun e => hd k ⟨(hg k).2 e, hk⟩)]
      exact hm k ((he k).2 (.inr hk))
/-! ### an element -/
theorem run_indexAt {t e : TypeId} {sz : Nat} (ht : P.underlying t = some (.slice e)) (hs : sizeB P e = some sz) (b o l c k : Nat) (ki : IntKind) (hk : k < l) (w : World) :
    (Instr.indexAt t (.slice (some ⟨b, o, none⟩) l c) (.int ki (k : Int))).run P w = .ok (.pointer (some ⟨b, o + k * sz, none⟩)) w := by
  have hr : ∀ w, (underlying t).run P w = .ok (.slice e) w := fun w => by simp only [underlying, program, bind, Sem.bind, Sem.run, ht]; rfl
  have h1 : (0 : Int) ≤ (k : Int) ∧ (k : Int) < (l : Int) := ⟨by omega, by omega⟩
  unfold Instr.indexAt
  simp only [asIntOf, pure, Sem.run_bind, Sem.run, Result.andThen, hr, h1, and_self, if_true, run_sizeOf hs, Int.toNat_natCast, Addr.add_eq]
theorem pr_indexAddr {x y : Operand} {t e : TypeId} {p : Option Addr} {l : List α} {ln c k : Nat} {ki : IntKind} (h : Rdb C f sz p c l) (ht : P.underlying t = some (.slice e)) (hs : sizeB P e = some sz)
    (hx : ev F x = some (.slice p ln c)) (hy : ev F y = some (.int ki (k : Int))) (hl : ln = l.length) (hk : k < l.length) : PR P n F C (.indexAddr t x y) (.pointer (some (at_ p (k * sz)))) := fun _ _ _ _ _ a w ha hC => by
  obtain ⟨b, o, rfl⟩ := h.some w hC (fun e => by subst e; simp at hk)
  simp only [execOp, ha.ev hx, ha.ev hy, Sem.run_bind, run_indexAt ht hs b o ln c k ki (by omega)]
  rfl
theorem pr_load_sl1 {x : Operand} {t : TypeId} {p : Option Addr} {l : List α} {k : Nat} {v : Value} {c : Nat} (h : Rdb C f sz p c l) (hk : k < l.length) (ht : isAggB P t = some false) (hx : ev F x = some (.pointer (some (at_ p (k * sz)))))
    (hv : flat (f l[k]!) = some [v]) : PR P n F C (.load t x) v := fun d ty pos aft g a w ha hC => by
  obtain ⟨b, o, rfl⟩ := h.some w hC (fun e => by subst e; simp at hk)
  have := flat_eq _ _ hv
  refine pr_load1 ht hx (fun w hw => ?_) d ty pos aft g a w ha hC
  have hc := h.cell w hw k 0 hk h.fl.pos
  rw [← this] at hc
  exact hc
theorem pr_load_slN {x : Operand} {t : TypeId} {p : Option Addr} {l : List α} {k : Nat} {vs : List Value} {c : Nat} (h : Rdb C f sz p c l) (hk : k < l.length) (ht : isAggB P t = some true) (hs : sizeB P t = some sz) (hx : ev F x = some (.pointer (some (at_ p (k * sz)))))
    (hv : flat (f l[k]!) = some vs) : PR P n F C (.load t x) (.agg vs.toArray) := fun d ty pos aft g a w ha hC => by
  obtain ⟨b, o, rfl⟩ := h.some w hC (fun e => by subst e; simp at hk)
  have e := flat_eq _ _ hv
  have hlen := h.fl.len l[k]!
  rw [← e] at hlen
  refine pr_loadN ht hx (by rw [hlen]; exact hs) (fun w hw j hj => ?_) d ty pos aft g a w ha hC
  have hc := h.cell w hw k j hk (by omega)
  rw [← e] at hc
  rw [show o + k * sz + j = o + (k * sz + j) by omega]
  exact hc
theorem pr_load_slf {x : Operand} {t : TypeId} {p : Option Addr} {l : List α} {k j : Nat} {v : Value} {c : Nat} (h : Rdb C f sz p c l) (hk : k < l.length) (hj : Nat.blt j sz = true) (ht : isAggB P t = some false) (hx : ev F x = some (.pointer (some (at_ p (k * sz + j)))))
    (hv : nthl (f l[k]!) j = some v) : PR P n F C (.load t x) v := fun d ty pos aft g a w ha hC => by
  obtain ⟨b, o, rfl⟩ := h.some w hC (fun e => by subst e; simp at hk)
  refine pr_load1 ht hx (fun w hw => ?_) d ty pos aft g a w ha hC
  have hc := h.cell w hw k j hk (Nat.le_of_ble_eq_true hj)
  rw [nthl_eq] at hv
  rw [hv] at hc
  exact hc
theorem pr_load_slfN {x : Operand} {t : TypeId} {p : Option Addr} {l : List α} {k j q : Nat} {vs : List Value} {c : Nat} (h : Rdb C f sz p c l) (hk : k < l.length) (hj : Nat.ble (j + q) sz = true) (ht : isAggB P t = some true) (hs : sizeB P t = some q) (hx : ev F x = some (.pointer (some (at_ p (k * sz + j)))))
    (hv : subl (f l[k]!) j q = some vs) : PR P n F C (.load t x) (.agg vs.toArray) := fun d ty pos aft g a w ha hC => by
  obtain ⟨b, o, rfl⟩ := h.some w hC (fun e => by subst e; simp at hk)
  have hl := subl_length _ _ _ _ hv
  have hj' := Nat.le_of_ble_eq_true hj
  refine pr_loadN ht hx (by rw [hl]; exact hs) (fun w hw i hi => ?_) d ty pos aft g a w ha hC
  have hc := h.cell w hw k (j + i) hk (by omega)
  rw [subl_get _ _ _ _ hv i (by omega)] at hc
  rw [show o + (k * sz + j) + i = o + (k * sz + (j + i)) by omega]
  exact hc
theorem pr_fieldAddr_at {x : Operand} {s : TypeId} {fi off k : Nat} {p : Option Addr} (hx : ev F x = some (.pointer (some (at_ p k)))) (hf : fieldB P s fi = some off) : PR P n F C (.fieldAddr s x fi) (.pointer (some (at_ p (k + off)))) := fun _ _ _ _ _ a w ha _ => by
  simp only [execOp, ha.ev hx, Sem.run_bind]
  rw [run_fieldAt hf]
  cases p <;> simp only [at_, Addr.add_eq, Result.andThen, pure, Sem.run, Nat.add_assoc]
theorem pr_fieldAddr_at2 {x : Operand} {s : TypeId} {fi off k q j r : Nat} {p : Option Addr} (hx : ev F x = some (.pointer (some (at_ p (k * q + j))))) (hf : fieldB P s fi = some off) (hr : litN (j + off) = some r) : PR P n F C (.fieldAddr s x fi) (.pointer (some (at_ p (k * q + r)))) := by
  rw [litN_eq] at hr; cases hr
  have := pr_fieldAddr_at (C := C) (n := n) hx hf
  rwa [Nat.add_assoc] at this
/-! ### parts of a slice -/
theorem Sl.sub {p : Option Addr} {c lo hi : Nat} {l : List α} (h : Sl m f sz p c l) (h1 : lo ≤ hi) (h2 : hi ≤ l.length) : Sl m f sz (subp p c lo sz) (c - lo) ((l.take hi).drop lo) := by
  have hle := h.le
  have hlen : ((l.take hi).drop lo).length = hi - lo := by simp; omega
  refine ⟨h.fl, by rw [hlen]; omega, by have := h.big; omega, fun hn => ?_, fun a ha hpos => ?_⟩
  · unfold subp at hn
    split at hn
    · omega
    · cases p with
      | none => have := h.nil rfl; omega
      | some a => cases hn
  · have key : ∀ i j, i < hi - lo → j < sz → (f ((l.take hi).drop lo)[i]!)[j]? = (f l[lo + i]!)[j]? := fun i j hi' _ => by
      congr 2
      rw [List.getElem!_eq_getElem?_getD, List.getElem!_eq_getElem?_getD, List.getElem?_drop, List.getElem?_take, if_pos (by omega)]
    unfold subp at ha
    by_cases e : c = lo
    · rw [if_pos e] at ha
      obtain ⟨g1, E, cs, fz, g2, g3, g4⟩ := h.some a ha (by omega)
      exact ⟨g1, E, cs, fz, g2, by rw [show c - lo = 0 by omega]; omega, fun i j hi' => by rw [hlen] at hi'; omega⟩
    · rw [if_neg e] at ha
      cases p with
      | none => cases ha
      | some a0 =>
        obtain ⟨g1, E, cs, fz, g2, g3, g4⟩ := h.some a0 rfl (by omega)
        have ha0 : a = ⟨a0.block, a0.off + lo * sz, none⟩ := by
          have := Option.some.inj ha
          rw [← this]
          cases a0; simp at g1; subst g1
          exact Addr.add_eq _ _ _
        subst ha0
        have hsub : (c - lo) * sz + lo * sz = c * sz := by rw [← Nat.add_mul]; congr 1; omega
        refine ⟨rfl, E, cs, fz, g2, ?_, fun i j hi' hj => ?_⟩
        · show a0.off + lo * sz + (c - lo) * sz ≤ _; omega
        · rw [hlen] at hi'
          rw [key i j hi' hj, ← g4 (lo + i) j (by omega) hj]
          show cs[a0.off + lo * sz + (i * sz + j)]? = _
          rw [show a0.off + lo * sz + (i * sz + j) = a0.off + ((lo + i) * sz + j) by rw [Nat.add_mul]; omega]
theorem run_slice_sl {t e : TypeId} (ht : P.underlying t = some (.slice e)) (hs : sizeB P e = some sz) (p : Option Addr) (l c lo hi : Nat) (h1 : lo ≤ hi) (h2 : hi ≤ c) (vl vh : Option Value)
    (hl : (vl = none ∧ lo = 0) ∨ ∃ k, vl = some (.int k (lo : Int))) (hh : (vh = none ∧ hi = l) ∨ ∃ k, vh = some (.int k (hi : Int))) (w : World) :
    (Instr.sliceAt t (.slice p l c) vl vh none).run P w = .ok (.slice (subp p c lo sz) (hi - lo) (c - lo)) w := by
  have hr : ∀ w, (underlying t).run P w = .ok (.slice e) w := fun w => by simp only [underlying, program, bind, Sem.bind, Sem.run, ht]; rfl
  have a1 : (0 : Int) ≤ (lo : Int) ∧ (lo : Int) ≤ (hi : Int) := ⟨by omega, by omega⟩
  have a2 : (0 : Int) ≤ (hi : Int) ∧ (hi : Int) ≤ (c : Int) := ⟨by omega, by omega⟩
  unfold Instr.sliceAt
  simp only [Sem.run_bind, hr, Result.andThen]
  unfold Instr.slice
  simp only [Sem.run_bind, hr, Result.andThen]
  have hb : (Instr.sliceBounds true l c vl vh none).run P w = .ok (lo, hi, c) w := by
    unfold Instr.sliceBounds Instr.sliceBound
    rcases hl with ⟨rfl, rfl⟩ | ⟨k, rfl⟩ <;> rcases hh with ⟨rfl, rfl⟩ | ⟨k', rfl⟩ <;>
      simp [asIntOf, pure, Sem.run, bind, Sem.bind, h1, h2]
  rw [hb]
  simp only [run_sizeOf hs, pure, Sem.run, subp]
theorem pr_slice {x : Operand} {t e : TypeId} {p : Option Addr} {l c : Nat} (lo hi : Nat) (vl vh : Option Operand) (ht : P.underlying t = some (.slice e)) (hs : sizeB P e = some sz) (hx : ev F x = some (.slice p l c))
    (hl : (vl = none ∧ lo = 0) ∨ ∃ y k, vl = some y ∧ ev F y = some (.int k (lo : Int))) (hh : (vh = none ∧ hi = l) ∨ ∃ y k, vh = some y ∧ ev F y = some (.int k (hi : Int))) (h1 : lo ≤ hi) (h2 : hi ≤ c) :
    PR P n F C (.slice t x vl vh none) (.slice (subp p c lo sz) (hi - lo) (c - lo)) := fun _ _ _ _ _ a w ha _ => by
  simp only [execOp, ha.ev hx, Sem.run_bind, Option.map_none]
  rw [run_slice_sl ht hs p l c lo hi h1 h2 (vl.map a.eval) (vh.map a.eval) ?_ ?_ w]
  · rfl
  · rcases hl with ⟨rfl, rfl⟩ | ⟨y, k, rfl, hy⟩
    · exact .inl ⟨rfl, rfl⟩
    · exact .inr ⟨k, by simp [ha.ev hy]⟩
  · rcases hh with ⟨rfl, rfl⟩ | ⟨y, k, rfl, hy⟩
    · exact .inl ⟨rfl, rfl⟩
    · exact .inr ⟨k, by simp [ha.ev hy]⟩
/-! ### append -/
theorem rdb_cells {w : World} {p : Option Addr} {l : List α} {c : Nat} (h : Rdb C f sz p c l) (hw : C w) (b o : Nat) (hp : p = some ⟨b, o, none⟩) (j : Nat) (hj : j < l.length * sz) : w.cell? ⟨b, o + j, none⟩ = (l.flatMap f)[j]? := by
  have hpos := h.fl.pos
  have hd : j / sz < l.length := Nat.div_lt_of_lt_mul (by rw [Nat.mul_comm]; exact hj)
  have hm : j % sz < sz := Nat.mod_lt _ hpos
  have hc := h.cell w hw (j / sz) (j % sz) hd hm
  rw [← flatMap_get h.fl.len l _ _ hd hm] at hc
  have e : j / sz * sz + j % sz = j := by rw [Nat.mul_comm]; exact Nat.div_add_mod j sz
  rw [e] at hc
  subst hp
  exact hc
theorem rdb_src {w : World} {p : Option Addr} {c : Nat} {l : List α} {t e : TypeId} (h : Rdb C f sz p c l) (hw : C w) (ht : P.underlying t = some (.slice e)) : Src P sz t (.slice p l.length c) l.length (l.flatMap f) w := by
  have hlen := flatMap_length h.fl.len l
  have run : ∀ w', (∀ b o j, w'.cell? ⟨b, o + j, none⟩ = w.cell? ⟨b, o + j, none⟩) → (Builtin.firstCells sz l.length (.slice p l.length c)).run P w' = .ok (l.flatMap f).toArray w' := fun w' he => by
    by_cases hl : l = []
    · subst hl
      cases p with
      | none => rfl
      | some a => simp [Builtin.firstCells, loadCells, loadCellsFrom, pure, Sem.run]
    · obtain ⟨b, o, rfl⟩ := h.some w hw hl
      show (loadCells ⟨b, o, none⟩ (l.length * sz)).run P w' = _
      rw [← hlen]
      refine run_loadCells w' b o _ fun j hj => ?_
      rw [he, rdb_cells h hw b o rfl j (by rw [← hlen]; exact hj)]
  refine ⟨.inl ⟨e, ht⟩, fun _ => rfl, run w fun _ _ _ => rfl, run w.drew fun _ _ _ => rfl, hlen, fun u hu => ?_⟩
  obtain ⟨x, _, hx⟩ := List.mem_flatMap.1 hu
  exact h.fl.one x u hx
/-- a part of what one owns is owned -/
theorem own_sub (hf : Fl f sz) {E : TypeId} {p : Option Addr} {c : Nat} {l : List α} (lo hi : Nat) (h1 : lo ≤ hi) (h2 : hi ≤ l.length) (Rs : List Res) :
    Ent (.own f sz E p c l :: Rs) (.own f sz E (subp p c lo sz) (c - lo) ((l.take hi).drop lo) :: Rs) := fun w s ⟨s1, s2, hs1, hs2, hd, he⟩ => by
  refine ⟨s, ⟨s1, s2, ?_, hs2, hd, he⟩, fun _ x => x⟩
  have hlen : ((l.take hi).drop lo).length = hi - lo := by simp; omega
  rcases hs1 with ⟨rfl, rfl, rfl, hs⟩ | ⟨g, o, cur, rfl, h4, h5, h6, h7, h8, hg⟩
  · simp only [List.length_nil] at h2
    have : lo = 0 := by omega
    subst this
    refine .inl ⟨by simp [subp], rfl, by simp, hs⟩
  · by_cases e : c = lo
    · have hl0 : (l.take hi).drop lo = [] := List.eq_nil_of_length_eq_zero (by rw [hlen]; omega)
      refine .inr ⟨g, o, cur, by unfold subp; rw [if_pos e], h4, by rw [hlen]; omega, by omega, by subst e; simp; omega, fun j hj => by rw [hl0] at hj; simp at hj, hg⟩
    · have hsub : (c - lo) * sz + lo * sz = c * sz := by rw [← Nat.add_mul]; congr 1; omega
      refine .inr ⟨g, o + lo * sz, cur, by unfold subp; rw [if_neg e]; simp [Addr.add_eq], h4, by rw [hlen]; omega, by omega, by omega, fun j hj => ?_, hg⟩
      rw [hlen] at hj
      have hpos := hf.pos
      have hdv : j / sz < hi - lo := Nat.div_lt_of_lt_mul (by rw [Nat.mul_comm]; exact hj)
      have hmd : j % sz < sz := Nat.mod_lt _ hpos
      have ej : j = j / sz * sz + j % sz := by rw [Nat.mul_comm]; exact (Nat.div_add_mod j sz).symm
      have hb : (lo + j / sz + 1) * sz ≤ l.length * sz := Nat.mul_le_mul_right _ (by omega)
      have hx := h8 (lo * sz + j) (by
        rw [Nat.add_mul, Nat.add_mul] at hb; omega)
      rw [Nat.add_assoc, hx]
      generalize j / sz = q at *
      generalize j % sz = r at *
      subst ej
      rw [show lo * sz + (q * sz + r) = (lo + q) * sz + r by rw [Nat.add_mul]; omega, flatMap_get hf.len l _ _ (by omega) hmd, flatMap_get hf.len _ _ _ (by rw [hlen]; omega) hmd]
      congr 2
      rw [List.getElem!_eq_getElem?_getD, List.getElem!_eq_getElem?_getD, List.getElem?_drop, List.getElem?_take, if_pos (by omega)]
/-- append to what one owns, of whatever can be read; where it goes -/
theorem run_append_own (hf : Fl f sz) {w : World} {t tx ty e : TypeId} {i : TypeInfo} {z : Value} (ht : P.underlying t = some (.slice e)) (hi : P.info? e = some i) (hz : i.zero = some z) (hsz : i.size = sz) (hzs : z.cells.size = sz)
    {p : Option Addr} {c : Nat} {l l2 : List α} {s : Nat → Prop} (hown : (Res.own f sz e p c l).p w s) {x : Value} (hs : Src P sz tx x l2.length (l2.flatMap f) w) (h63 : l.length + l2.length ≤ maxLen) (hbytes : (l.length + l2.length) * i.bytes ≤ 140737488355328) :
    ∃ p' c' w' s', (Builtin.append_ #[t, tx] ty #[.slice p l.length c, x]).run P w = .ok (.slice p' (l ++ l2).length c') w' ∧ (Res.own f sz e p' c' (l ++ l2)).p w' s' ∧ w'.os = w.os ∧ w'.tape = w.tape ∧ w'.output = w.output ∧ w.heap.size ≤ w'.heap.size ∧
      (∀ k, k < w.heap.size → ¬ s k → w'.heap[k]? = w.heap[k]?) ∧ (∀ k, s' k → s k ∨ w.heap.size ≤ k) := by
  have hsmall : ((l.length + l2.length : Nat) : Int) ≤ 9223372036854775807 := by simp only [maxLen] at h63; omega
  have hl1 := flatMap_length hf.len l
  have hl2 := flatMap_length hf.len l2
  have hll : (l ++ l2).length = l.length + l2.length := by simp
  by_cases hg : c < l.length + l2.length
  · have hold : (Builtin.firstCells i.size l.length (.slice p l.length c)).run P w.drew = .ok (l.flatMap f).toArray w.drew := by
      rcases hown with ⟨rfl, rfl, rfl, _⟩ | ⟨g, o, cur, rfl, h4, h5, h6, h7, h8, _⟩
      · rfl
      · show (loadCells ⟨g, o, none⟩ (l.length * i.size)).run P w.drew = _
        rw [hsz, ← hl1]
        refine run_loadCells w.drew g o _ fun j hj => ?_
        rw [World.cell_of (w := w.drew) (show w.drew.heap[g]? = _ from h4), h8 j (by omega)]
    have hr := run_append_grow_src (P := P) (ty := ty) (w := w) t tx e i z ht hi hz p l.length c (l.flatMap f) hold x l2.length (l2.flatMap f) (by rw [hsz]; exact hs) hg hsmall (growslice_fits hg hbytes)
    have hge := grownCap_ge w (l.length + l2.length) c e
    have hcm : grownCap w (l.length + l2.length) c e ≤ maxLen := grownCap_le_maxLen w (l.length + l2.length) c e h63
    rw [← hll] at hr hge hcm
    refine ⟨_, _, _, fun k => k = w.heap.size, hr, .inr ⟨w.heap.size, 0, _, rfl, heap_alloc_new w.drew _, hge, hcm, ?_, fun j hj => ?_, fun _ => Iff.rfl⟩, rfl, rfl, rfl, by simp, fun k hk _ => heap_alloc_old w.drew _ hk, fun k hk => .inr (by omega)⟩
    · simp only [Array.size_append, List.size_toArray, size_zeroCells, hzs, List.length_append, hl1, hl2, ← Nat.add_mul]
      rw [List.length_append] at hge
      rw [Nat.add_sub_cancel' hge, Nat.zero_add]
      exact Nat.le_refl _
    · rw [Nat.zero_add, List.flatMap_append, Array.getElem?_append_left (by
        rw [hll, Nat.add_mul] at hj
        simp only [List.size_toArray, List.length_append, hl1, hl2]; omega)]
      simp
  · have hroom : l.length + l2.length ≤ c := by omega
    rcases hown with ⟨rfl, rfl, rfl, hno⟩ | ⟨g, o, cur, rfl, h4, h5, h6, h7, h8, hgs⟩
    · have : l2 = [] := List.eq_nil_of_length_eq_zero (by simp only [List.length_nil] at hroom; omega)
      subst this
      refine ⟨none, 0, w, s, ?_, .inl ⟨rfl, rfl, rfl, hno⟩, rfl, rfl, rfl, Nat.le_refl _, fun _ _ _ => rfl, fun k hk => .inl hk⟩
      have hc := hs.cells
      have hln := hs.len
      simp only [List.length_nil, List.flatMap_nil] at hc hln
      rw [← hsz] at hc
      rcases hs.kind with ⟨e', hk⟩ | hk <;>
        simp [Builtin.append_, run_underlying ht, run_underlying hk, sizeOf, typeInfo, hi, hln, hc]
    · have hmul : (l.length + l2.length) * sz ≤ c * sz := Nat.mul_le_mul_right _ hroom
      rw [Nat.add_mul] at hmul
      have hfit : o + l.length * sz + (l2.flatMap f).length ≤ cur.size := by rw [hl2]; omega
      have hst := run_storeCells_at P g (o + l.length * sz) e (l2.flatMap f) 0 cur w h4 (by simpa using hfit) hs.one
      simp only [Nat.add_zero] at hst
      have hc := hs.cells
      have hln := hs.len
      rw [← hsz] at hst hc
      have hr : (Builtin.append_ #[t, tx] ty #[.slice (some ⟨g, o, none⟩) l.length c, x]).run P w = .ok (.slice (some ⟨g, o, none⟩) (l.length + l2.length) c) (w.setRow g (cur.toList.take (o + l.length * i.size) ++ l2.flatMap f ++ cur.toList.drop (o + l.length * i.size + (l2.flatMap f).length)).toArray) := by
        rcases hs.kind with ⟨e', hk⟩ | hk <;>
          simp [Builtin.append_, run_underlying ht, run_underlying hk, sizeOf, typeInfo, hi, hln, hc, hroom, Addr.add_eq, hst]
      rw [hsz, ← hll] at hr
      refine ⟨_, _, _, s, hr, .inr ⟨g, o, _, rfl, setRow_heap w g cur _ e _ h4, by rw [hll]; exact hroom, h6, ?_, fun j hj => ?_, hgs⟩, rfl, rfl, rfl, by simp, fun k _ hk => setRow_other w g k _ (fun e => hk ((hgs k).2 e)), fun k hk => .inl hk⟩
      · simp only [List.size_toArray, List.length_append, List.length_take, List.length_drop, Array.length_toList]
        omega
      · rw [hll, Nat.add_mul] at hj
        rw [List.getElem?_toArray, List.flatMap_append]
        have htk : (cur.toList.take (o + l.length * sz)).length = o + l.length * sz := by simp; omega
        by_cases hjl : j < l.length * sz
        · rw [List.getElem?_append_left (by rw [List.length_append, htk]; omega), List.getElem?_append_left (by rw [htk]; omega), List.getElem?_append_left (by rw [hl1]; omega), List.getElem?_take, if_pos (by omega), Array.getElem?_toList]
          exact h8 j hjl
        · rw [List.getElem?_append_left (by rw [List.length_append, htk, hl2]; omega), List.getElem?_append_right (by rw [htk]; omega), List.getElem?_append_right (by rw [hl1]; omega), htk, hl1]
          congr 1
          omega
def elemB (P : Program) (e : TypeId) (sz : Nat) : Bool := match P.info? e with
  | some i => match i.zero with
    | some z => Nat.beq i.size sz && Nat.beq z.cells.size sz && Nat.ble i.bytes 4096
    | none => false
  | none => false
theorem elemB_spec {e : TypeId} {sz : Nat} (h : elemB P e sz = true) : ∃ i z, P.info? e = some i ∧ i.zero = some z ∧ i.size = sz ∧ i.bytes ≤ 4096 ∧ z.cells.size = sz := by
  unfold elemB at h
  cases hi : P.info? e with
  | none => rw [hi] at h; cases h
  | some i =>
    rw [hi] at h
    simp only at h
    cases hz : i.zero with
    | none => rw [hz] at h; simp at h
    | some z =>
      rw [hz] at h
      simp only [Bool.and_eq_true] at h
      exact ⟨i, z, rfl, hz, Nat.eq_of_beq_eq_true h.1.1, Nat.le_of_ble_eq_true h.2, Nat.eq_of_beq_eq_true h.1.2⟩
/-- one resource turns, where the run says so -/
theorem HW.turn {w : World} (h : HW w0 m Rs w) {R R' : Res} {Rs' : List Res} (hp : Pick Rs R Rs') {w' : World}
    (hrun : ∀ s, R.p w s → ∃ s', R'.p w' s' ∧ w'.os = w.os ∧ w'.tape = w.tape ∧ w'.output = w.output ∧ w.heap.size ≤ w'.heap.size ∧ (∀ k, k < w.heap.size → ¬ s k → w'.heap[k]? = w.heap[k]?) ∧ (∀ k, s' k → s k ∨ w.heap.size ≤ k)) (hdr : w.drawn ≤ w'.drawn := by first | exact Nat.le_refl _ | exact Nat.le_succ _ | exact run_drawn _ (by assumption)) : HW w0 m (R' :: Rs') w' := by
  obtain ⟨s, ⟨s1, s2, g1, g2, hdj, hse⟩, hm⟩ := (h.ent (Ent.of_pick hp)).res
  obtain ⟨s', h2, ho, ht, hou, hsz, hold, h4⟩ := hrun s1 g1
  refine ⟨ho.trans h.os, ht.trans h.tape, hou.trans h.output, Nat.le_trans h.size hsz, Nat.le_trans h.dr hdr, fun k o hk => ?_,
    fun k => s' k ∨ s2 k, ⟨_, s2, h2, ?_, ?_, fun _ => Iff.rfl⟩, ?_⟩
  · have hk' := h.mem k o hk
    rw [hold k (Array.getElem?_eq_some_iff.1 hk').1 (fun e => by have := hm k ((hse k).2 (.inl e)); rw [this] at hk; cases hk)]
    exact hk'
  · exact Sat.loc g2 fun k hk => hold k (Sat.dom g2 hk) (fun e => hdj k ⟨e, hk⟩)
  · rintro k ⟨e1, e2⟩
    rcases h4 k e1 with e3 | e3
    · exact hdj k ⟨e3, e2⟩
    · have := Sat.dom g2 e2; omega
  · rintro k (e1 | e1)
    · rcases h4 k e1 with e3 | e3
      · exact hm k ((hse k).2 (.inl e3))
      · cases hk : m k with
        | none => rfl
        | some o => have := (Array.getElem?_eq_some_iff.1 (h.mem k o hk)).1; omega
    · exact hm k ((hse k).2 (.inr e1))
theorem At.append {ops : Array Oper} {rest : List Oper} {d : Nat} {x y : Operand} {t tx : TypeId} {ty : TypeId} {pos : String} {aft : Array Edge} {E : TypeId} {p : Option Addr} {c : Nat} {l l2 : List α} {Rs' : List Res} {xv : Value} {ln : Nat}
    (hf : Fl f sz) (hp : Pick Rs (.own f sz E p c l) Rs') (ht : P.underlying t = some (.slice E)) (he : elemB P E sz = true)
    (hx : ev F x = some (.slice p ln c)) (hln : ln = l.length) (hy : ev F y = some xv) (hsrc : ∀ w, HW w0 m Rs w → Src P sz tx xv l2.length (l2.flatMap f) w)
    (hsm : l.length + l2.length ≤ 34359738368) (hd : Nat.blt d n = true)
    (h : ∀ p' c', At n w0 ((d, .slice p' (l ++ l2).length c') :: F) m (.own f sz E p' c' (l ++ l2) :: Rs') (wpList P ops Q rest)) :
    At n w0 F m Rs (wpList P ops Q (⟨some d, .call ⟨.builtin .append, #[x, y], #[t, tx]⟩, ty, pos, aft, none⟩ :: rest)) := fun a w ha hw =>
  wpList_plain rfl fun K hK => by
    subst hln
    obtain ⟨i, z, hi, hz, hsz, hbt, hzs⟩ := elemB_spec he
    have hby : (l.length + l2.length) * i.bytes ≤ 140737488355328 := Nat.le_trans (Nat.mul_le_mul hsm hbt) (by omega)
    have hsm : l.length + l2.length ≤ maxLen := by simp only [maxLen]; omega
    have hsr := hsrc w hw
    obtain ⟨s0, hown⟩ := hw.get hp
    obtain ⟨p', c', w', _, hr, _⟩ := run_append_own (P := P) (ty := ty) hf ht hi hz hsz hzs hown hsr hsm hby
    unfold Oper.wp
    have hrun : (execOp a.eval ⟨some d, .call ⟨.builtin .append, #[x, y], #[t, tx]⟩, ty, pos, aft, none⟩).run P w = .ok (.value (.slice p' (l ++ l2).length c')) w' := by
      rw [BigFrame.execOp_builtin]
      simp [BigFrame.builtin_append, ha.ev hx, ha.ev hy, hr]
    rw [hrun]
    refine hK _ _ (h p' c' _ w' (ha.put hd) (hw.turn hp fun s hs => ?_))
    obtain ⟨p2, c2, w2, s2, hr2, h2⟩ := run_append_own (P := P) (ty := ty) hf ht hi hz hsz hzs hs hsr hsm hby
    rw [hr] at hr2
    injection hr2 with e1 e2
    injection e1 with e1 _ e3
    subst e1 e3 e2
    exact ⟨s2, h2⟩
/-! ### a store into what one owns -/
theorem putl_get : ∀ (cs : List Value) (o : Nat) (vs r : List Value), putl cs o vs = some r → o + vs.length ≤ cs.length ∧ r.length = cs.length ∧ ∀ b, r[b]? = if o ≤ b ∧ b < o + vs.length then vs[b - o]? else cs[b]?
  | cs, 0, [], r, h => by
    have : r = cs := by cases cs <;> simp [putl] at h <;> first | exact h | exact h.symm
    subst this
    exact ⟨by simp, rfl, fun b => by rw [if_neg (by simp)]⟩
  | [], 0, _ :: _, _, h => by simp [putl] at h
  | c :: cs, 0, v :: vs, r, h => by
    simp only [putl] at h
    cases hh : putl cs 0 vs with
    | none => rw [hh] at h; cases h
    | some r' =>
      rw [hh] at h; cases h
      obtain ⟨h1, h2, h3⟩ := putl_get cs 0 vs r' hh
      refine ⟨by simp; omega, by simp [h2], fun b => ?_⟩
      cases b with
      | zero => simp
      | succ b =>
        have := h3 b
        simp only [Nat.zero_le, Nat.zero_add, true_and, Nat.sub_zero] at this
        simp only [List.getElem?_cons_succ, this, List.length_cons, Nat.zero_le, true_and, Nat.zero_add, Nat.sub_zero, Nat.add_lt_add_iff_right]
  | [], _ + 1, _, _, h => by simp [putl] at h
  | c :: cs, o + 1, vs, r, h => by
    simp only [putl] at h
    cases hh : putl cs o vs with
    | none => rw [hh] at h; cases h
    | some r' =>
      rw [hh] at h; cases h
      obtain ⟨h1, h2, h3⟩ := putl_get cs o vs r' hh
      refine ⟨by simp; omega, by simp [h2], fun b => ?_⟩
      cases b with
      | zero => simp
      | succ b =>
        simp only [List.getElem?_cons_succ, h3 b]
        by_cases hc : o ≤ b ∧ b < o + vs.length
        · rw [if_pos hc, if_pos (by omega)]; congr 1; omega
        · rw [if_neg hc, if_neg (by omega)]
theorem At.store_own {ops : Array Oper} {rest : List Oper} {t : TypeId} {x y : Operand} {ty : TypeId} {pos : String} {aft : Array Edge} {E : TypeId} {p : Option Addr} {c : Nat} {l : List α} {Rs' : List Res} {k j q : Nat} {v : Value} {vs : List Value}
    (x' : α) (hf : Fl f sz) (hp : Pick Rs (.own f sz E p c l) Rs') (hk : k < l.length)
    (hx : ev F x = some (.pointer (some (at_ p (k * sz + j))))) (hy : ev F y = some v) (hv : cellsB v = some vs) (hs : sizeB P t = some q) (hq : vs.length = q) (h1 : vs.all oneCell = true)
    (hr : putl (f l[k]!) j vs = some (f x'))
    (h : At n w0 F m (.own f sz E p c (l.set k x') :: Rs') (wpList P ops Q rest)) : At n w0 F m Rs (wpList P ops Q (⟨none, .store t x y, ty, pos, aft, none⟩ :: rest)) := fun a w ha hw =>
  wpList_plain rfl fun K hK => by
    have hvc : v.cells.toList = vs := by rw [cellsB_eq hv]
    have hone : ∀ u ∈ vs, u.oneCell' = true := fun u hu => by
      have := List.all_eq_true.1 h1 u hu
      cases u <;> first | rfl | (simp [oneCell] at this)
    obtain ⟨p1, p2, p3⟩ := putl_get _ _ _ _ hr
    rw [hf.len] at p1
    have hrow : ∀ s, (Res.own f sz E p c l).p w s → ∃ w', (storeVar t (at_ p (k * sz + j)) v).run P w = .ok () w' ∧ (Res.own f sz E p c (l.set k x')).p w' s ∧ w'.os = w.os ∧ w'.tape = w.tape ∧ w'.output = w.output ∧ w.heap.size ≤ w'.heap.size ∧ (∀ k, k < w.heap.size → ¬ s k → w'.heap[k]? = w.heap[k]?) := fun s hown => by
      rcases hown with ⟨rfl, rfl, rfl, hno⟩ | ⟨g, o, cur, rfl, h4, h5, h6, h7, h8, hgs⟩
      · simp at hk
      · have hks : (k + 1) * sz ≤ l.length * sz := Nat.mul_le_mul_right _ hk
        have hcs : l.length * sz ≤ c * sz := Nat.mul_le_mul_right _ h5
        rw [Nat.add_mul] at hks
        have hst := run_storeCells_at P g (o + (k * sz + j)) E vs 0 cur w h4 (by omega) hone
        simp only [Nat.add_zero] at hst
        refine ⟨w.setRow g (cur.toList.take (o + (k * sz + j)) ++ vs ++ cur.toList.drop (o + (k * sz + j) + vs.length)).toArray, ?_, .inr ⟨g, o, (cur.toList.take (o + (k * sz + j)) ++ vs ++ cur.toList.drop (o + (k * sz + j) + vs.length)).toArray, rfl, setRow_heap w g cur _ E _ h4, by simpa using h5, h6, ?_, fun i hi => ?_, hgs⟩, rfl, rfl, rfl, by simp, fun i _ hi => setRow_other w g i _ (fun e => hi ((hgs i).2 e))⟩
        · simp only [storeVar, Sem.run_bind, run_sizeOf hs, Result.andThen]
          have : v.cells.size = q := by rw [← hq, ← hvc]; simp
          simp only [this, ne_eq, not_true, if_false]
          rw [hvc]
          exact hst
        · simp only [List.size_toArray, List.length_append, List.length_take, List.length_drop, Array.length_toList]
          omega
        · rw [List.length_set] at hi
          have hpos := hf.pos
          have hdv : i / sz < l.length := Nat.div_lt_of_lt_mul (by rw [Nat.mul_comm]; exact hi)
          have hmd : i % sz < sz := Nat.mod_lt _ hpos
          have ei : i = i / sz * sz + i % sz := by rw [Nat.mul_comm]; exact (Nat.div_add_mod i sz).symm
          have h8' := h8 i hi
          generalize i / sz = a1 at *
          generalize i % sz = b1 at *
          subst ei
          rw [flatMap_get hf.len l a1 b1 hdv hmd] at h8'
          rw [flatMap_get hf.len _ a1 b1 (by simpa using hdv) hmd, List.getElem?_toArray]
          have htk : (cur.toList.take (o + (k * sz + j))).length = o + (k * sz + j) := by simp; omega
          have hin : ∀ i1, (cur.toList.take (o + (k * sz + j)) ++ vs ++ cur.toList.drop (o + (k * sz + j) + vs.length))[i1]? = if o + (k * sz + j) ≤ i1 ∧ i1 < o + (k * sz + j) + vs.length then vs[i1 - (o + (k * sz + j))]? else cur[i1]? := fun i1 => by
            by_cases c1 : i1 < o + (k * sz + j)
            · rw [if_neg (by omega), List.getElem?_append_left (by rw [List.length_append, htk]; omega), List.getElem?_append_left (by rw [htk]; exact c1), List.getElem?_take, if_pos c1, Array.getElem?_toList]
            · by_cases c2 : i1 < o + (k * sz + j) + vs.length
              · rw [if_pos ⟨by omega, c2⟩, List.getElem?_append_left (by rw [List.length_append, htk]; omega), List.getElem?_append_right (by rw [htk]; omega), htk]
              · rw [if_neg (by omega), List.getElem?_append_right (by rw [List.length_append, htk]; omega), List.length_append, htk, List.getElem?_drop, Array.getElem?_toList]
                congr 1; omega
          rw [hin]
          by_cases e : a1 = k
          · subst e
            have : (l.set a1 x')[a1]! = x' := by
              rw [List.getElem!_eq_getElem?_getD, List.getElem?_set_self hdv]; rfl
            rw [this, p3 b1]
            by_cases c1 : j ≤ b1 ∧ b1 < j + vs.length
            · rw [if_pos c1, if_pos (by omega)]; congr 1; omega
            · rw [if_neg c1, if_neg (by omega)]; exact h8'
          · have : (l.set k x')[a1]! = l[a1]! := by
              rw [List.getElem!_eq_getElem?_getD, List.getElem!_eq_getElem?_getD, List.getElem?_set_ne (Ne.symm e)]
            rw [this, ← h8', if_neg]
            rcases Nat.lt_or_gt_of_ne e with e | e
            · have : (a1 + 1) * sz ≤ k * sz := Nat.mul_le_mul_right _ e
              rw [Nat.add_mul] at this; omega
            · have : (k + 1) * sz ≤ a1 * sz := Nat.mul_le_mul_right _ e
              rw [Nat.add_mul] at this; omega
    obtain ⟨s0, hown⟩ := hw.get hp
    obtain ⟨w', hr', _⟩ := hrow s0 hown
    have hrun' : (execOp a.eval ⟨none, .store t x y, ty, pos, aft, none⟩).run P w = .ok .skip w' := by
      have e0 : (Pure.pure (at_ p (k * sz + j)) : Sem Addr).run P w = .ok (at_ p (k * sz + j)) w := rfl
      simp only [execOp, ha.ev hx, ha.ev hy, Instr.storeAt, Instr.sureAddr, Sem.run_bind, e0, Result.andThen, hr']
      rfl
    unfold Oper.wp
    rw [hrun']
    refine hK _ _ (h _ _ ha (hw.turn hp fun s hs => ?_))
    obtain ⟨w2, hr2, h2, g1, g2, g3, g4, g5⟩ := hrow s hs
    rw [hr'] at hr2
    injection hr2 with _ e2
    subst e2
    exact ⟨s, h2, g1, g2, g3, g4, g5, fun k hk => .inl hk⟩
theorem At.store_own0 {ops : Array Oper} {rest : List Oper} {t : TypeId} {x y : Operand} {ty : TypeId} {pos : String} {aft : Array Edge} {E : TypeId} {p : Option Addr} {c : Nat} {l : List α} {Rs' : List Res} {k q : Nat} {v : Value} {vs : List Value}
    (x' : α) (hf : Fl f sz) (hp : Pick Rs (.own f sz E p c l) Rs') (hk : k < l.length)
    (hx : ev F x = some (.pointer (some (at_ p (k * sz))))) (hy : ev F y = some v) (hv : cellsB v = some vs) (hs : sizeB P t = some q) (hq : vs.length = q) (h1 : vs.all oneCell = true)
    (hr : putl (f l[k]!) 0 vs = some (f x'))
    (h : At n w0 F m (.own f sz E p c (l.set k x') :: Rs') (wpList P ops Q rest)) : At n w0 F m Rs (wpList P ops Q (⟨none, .store t x y, ty, pos, aft, none⟩ :: rest)) :=
  At.store_own (j := 0) x' hf hp hk hx hy hv hs hq h1 hr h
/-! ### the same, the operands first, for a walk -/
variable {E : TypeId} {p : Option Addr} {c : Nat} {l : List α} {Rs' : List Res}
theorem pr_index_own {x y : Operand} {t : TypeId} {ln k : Nat} {ki : IntKind} (hx : ev F x = some (.slice p ln c)) (hy : ev F y = some (.int ki (k : Int))) (hp : Pick Rs (.own f sz E p c l) Rs') (hf : Fl f sz)
    (ht : P.underlying t = some (.slice E)) (hs : sizeB P E = some sz) (hl : ln = l.length) (hk : k < l.length) : PR P n F (HW w0 m Rs) (.indexAddr t x y) (.pointer (some (at_ p (k * sz)))) :=
  pr_indexAddr (own_rdb hf hp) ht hs hx hy hl hk
theorem pr_load_own1 {x : Operand} {t : TypeId} {k : Nat} {v : Value} (hx : ev F x = some (.pointer (some (at_ p (k * sz))))) (hp : Pick Rs (.own f sz E p c l) Rs') (hf : Fl f sz) (hk : k < l.length) (ht : isAggB P t = some false)
    (hv : flat (f l[k]!) = some [v]) : PR P n F (HW w0 m Rs) (.load t x) v := pr_load_sl1 (own_rdb hf hp) hk ht hx hv
theorem pr_load_ownN {x : Operand} {t : TypeId} {k : Nat} {vs : List Value} (hx : ev F x = some (.pointer (some (at_ p (k * sz))))) (hp : Pick Rs (.own f sz E p c l) Rs') (hf : Fl f sz) (hk : k < l.length) (ht : isAggB P t = some true) (hs : sizeB P t = some sz)
    (hv : flat (f l[k]!) = some vs) : PR P n F (HW w0 m Rs) (.load t x) (.agg vs.toArray) := pr_load_slN (own_rdb hf hp) hk ht hs hx hv
theorem pr_load_ownf {x : Operand} {t : TypeId} {k j : Nat} {v : Value} (hx : ev F x = some (.pointer (some (at_ p (k * sz + j))))) (hp : Pick Rs (.own f sz E p c l) Rs') (hf : Fl f sz) (hk : k < l.length) (hj : Nat.blt j sz = true) (ht : isAggB P t = some false)
    (hv : nthl (f l[k]!) j = some v) : PR P n F (HW w0 m Rs) (.load t x) v := pr_load_slf (own_rdb hf hp) hk hj ht hx hv
theorem pr_index_mem {x y : Operand} {t E : TypeId} {ln k : Nat} {ki : IntKind} (hx : ev F x = some (.slice p ln c)) (hy : ev F y = some (.int ki (k : Int))) (h : Sl m f sz p c l)
    (ht : P.underlying t = some (.slice E)) (hs : sizeB P E = some sz) (hl : ln = l.length) (hk : k < l.length) : PR P n F (HW w0 m Rs) (.indexAddr t x y) (.pointer (some (at_ p (k * sz)))) :=
  pr_indexAddr h.rdb ht hs hx hy hl hk
theorem pr_load_meme1 {x : Operand} {t : TypeId} {k : Nat} {v : Value} (hx : ev F x = some (.pointer (some (at_ p (k * sz))))) (h : Sl m f sz p c l) (hk : k < l.length) (ht : isAggB P t = some false)
    (hv : flat (f l[k]!) = some [v]) : PR P n F (HW w0 m Rs) (.load t x) v := pr_load_sl1 h.rdb hk ht hx hv
theorem pr_load_memeN {x : Operand} {t : TypeId} {k : Nat} {vs : List Value} (hx : ev F x = some (.pointer (some (at_ p (k * sz))))) (h : Sl m f sz p c l) (hk : k < l.length) (ht : isAggB P t = some true) (hs : sizeB P t = some sz)
    (hv : flat (f l[k]!) = some vs) : PR P n F (HW w0 m Rs) (.load t x) (.agg vs.toArray) := pr_load_slN h.rdb hk ht hs hx hv
theorem pr_load_memef {x : Operand} {t : TypeId} {k j : Nat} {v : Value} (hx : ev F x = some (.pointer (some (at_ p (k * sz + j))))) (h : Sl m f sz p c l) (hk : k < l.length) (hj : Nat.blt j sz = true) (ht : isAggB P t = some false)
    (hv : nthl (f l[k]!) j = some v) : PR P n F (HW w0 m Rs) (.load t x) v := pr_load_slf h.rdb hk hj ht hx hv
theorem pr_slice_l {x y : Operand} {t E : TypeId} {ln lo sz : Nat} {k : IntKind} (hx : ev F x = some (.slice p ln c)) (hy : ev F y = some (.int k (lo : Int))) (ht : P.underlying t = some (.slice E)) (hs : sizeB P E = some sz) (h1 : lo ≤ ln) (h2 : ln ≤ c) :
    PR P n F C (.slice t x (some y) none none) (.slice (subp p c lo sz) (ln - lo) (c - lo)) := pr_slice lo ln (some y) none ht hs hx (.inr ⟨y, k, rfl, hy⟩) (.inl ⟨rfl, rfl⟩) h1 h2
theorem pr_slice_h {x z : Operand} {t E : TypeId} {ln hi sz : Nat} {k : IntKind} (hx : ev F x = some (.slice p ln c)) (hz : ev F z = some (.int k (hi : Int))) (ht : P.underlying t = some (.slice E)) (hs : sizeB P E = some sz) (h2 : hi ≤ c) :
    PR P n F C (.slice t x none (some z) none) (.slice (subp p c 0 sz) (hi - 0) (c - 0)) := pr_slice 0 hi none (some z) ht hs hx (.inl ⟨rfl, rfl⟩) (.inr ⟨z, k, rfl, hz⟩) (Nat.zero_le _) h2
theorem pr_slice_lh {x y z : Operand} {t E : TypeId} {ln lo hi sz : Nat} {k k' : IntKind} (hx : ev F x = some (.slice p ln c)) (hy : ev F y = some (.int k (lo : Int))) (hz : ev F z = some (.int k' (hi : Int))) (ht : P.underlying t = some (.slice E)) (hs : sizeB P E = some sz) (h1 : lo ≤ hi) (h2 : hi ≤ c) :
    PR P n F C (.slice t x (some y) (some z) none) (.slice (subp p c lo sz) (hi - lo) (c - lo)) := pr_slice lo hi (some y) (some z) ht hs hx (.inr ⟨y, k, rfl, hy⟩) (.inr ⟨z, k', rfl, hz⟩) h1 h2
theorem At.append_rdb {ops : Array Oper} {rest : List Oper} {d : Nat} {x y : Operand} {t tx e2 : TypeId} {ty : TypeId} {pos : String} {aft : Array Edge} {ln : Nat} {p2 : Option Addr} {ln2 c2 : Nat} {l2 : List α}
    (hx : ev F x = some (.slice p ln c)) (hy : ev F y = some (.slice p2 ln2 c2)) (hp : Pick Rs (.own f sz E p c l) Rs') (hf : Fl f sz) (h2 : Rdb (HW w0 m Rs) f sz p2 c2 l2) (hl2 : ln2 = l2.length) (ht : P.underlying t = some (.slice E)) (ht2 : P.underlying tx = some (.slice e2)) (he : elemB P E sz = true)
    (hln : ln = l.length) (hsm : l.length + l2.length ≤ 34359738368) (hd : Nat.blt d n = true)
    (h : ∀ p' c', At n w0 ((d, .slice p' (l ++ l2).length c') :: F) m (.own f sz E p' c' (l ++ l2) :: Rs') (wpList P ops Q rest)) :
    At n w0 F m Rs (wpList P ops Q (⟨some d, .call ⟨.builtin .append, #[x, y], #[t, tx]⟩, ty, pos, aft, none⟩ :: rest)) :=
  At.append hf hp ht he hx hln hy (fun w hw => by subst hl2; exact rdb_src h2 hw ht2) hsm hd h
/-! ### a slice that is written out, and one that is made -/
theorem At.make {ops : Array Oper} {rest : List Oper} {d : Nat} {x y : Operand} {t E : TypeId} {ty : TypeId} {pos : String} {aft : Array Edge} {k1 k2 : IntKind} {cp : Nat} {q : Int}
    (f : α → List Value) (hf : Fl f sz) (ht : P.underlying t = some (.slice E)) (he : elemB P E sz = true) (hx : ev F x = some (.int k1 0)) (hy : ev F y = some (.int k2 q)) (hq : q = (cp : Int)) (hsm : cp ≤ 34359738368) (hd : Nat.blt d n = true)
    (h : ∀ b, At n w0 ((d, .slice (some ⟨b, 0, none⟩) 0 cp) :: F) m (.own f sz E (some ⟨b, 0, none⟩) cp ([] : List α) :: Rs) (wpList P ops Q rest)) :
    At n w0 F m Rs (wpList P ops Q (⟨some d, .makeSlice t x y, ty, pos, aft, none⟩ :: rest)) := fun a w ha hw =>
  wpList_plain rfl fun K hK => by
    subst hq
    obtain ⟨i, z, hi, hz, hsz, hbt, hzs⟩ := elemB_spec he
    have hby : i.bytes * cp ≤ 281474976710656 := Nat.le_trans (Nat.mul_le_mul hbt hsm) (by omega)
    have h63 : cp ≤ maxLen := by simp only [maxLen]; omega
    obtain ⟨w', hr, h1, h2⟩ := run_make_own (P := P) w w.heap.size t E i z sz ht hi hz hsz k1 k2 cp hby h63 (Nat.le_refl _)
    unfold Oper.wp
    have hrun : (execOp a.eval ⟨some d, .makeSlice t x y, ty, pos, aft, none⟩).run P w = .ok (.value (.slice (some ⟨w.heap.size, 0, none⟩) 0 cp)) w' := by
      simp [execOp, ha.ev hx, ha.ev hy, hr]
    rw [hrun]
    refine hK _ _ (h _ _ _ (ha.put hd) (hw.add h2.os h2.tape h2.output h2.size (fun k hk => h2.block k hk (by simp)) ⟨fun k => k = w.heap.size, ?_, fun k hk => by omega⟩))
    · obtain ⟨g1, g2⟩ := h1
      rcases g2 with g2 | ⟨g, cap, cur, hv, _, h4, h5, h6, h7, _⟩
      · cases g2.1
      · injection hv with e1 e2 e3
        injection e1 with e1
        injection e1 with e1 _ _
        subst e1 e3
        exact .inr ⟨_, 0, cur, rfl, h4, Nat.zero_le _, h6, by omega, fun j hj => by simp at hj, fun _ => Iff.rfl⟩
end
section
variable {P : Program} {n : Nat} {w0 : World} {F : Fr} {m : Mem} {Rs : List Res} {Q : Exit → Act → World → Prop} {α : Type} [Inhabited α] {f : α → List Value} {sz : Nat} {E : TypeId} {p : Option Addr} {c : Nat} {l : List α} {Rs' : List Res}
theorem At.appendW {ops : Array Oper} {rest : List Oper} {d : Nat} {x y : Operand} {t tx e2 : TypeId} {ty : TypeId} {pos : String} {aft : Array Edge} {ln : Nat} {p2 : Option Addr} {ln2 c2 : Nat} {l2 : List α}
    (hx : ev F x = some (.slice p ln c)) (hy : ev F y = some (.slice p2 ln2 c2)) (hp : Pick Rs (.own f sz E p c l) Rs') (hf : Fl f sz) (h2 : Rdb (HW w0 m Rs) f sz p2 c2 l2) (hl2 : ln2 = l2.length) (ht : P.underlying t = some (.slice E)) (ht2 : P.underlying tx = some (.slice e2)) (he : elemB P E sz = true)
    (hln : ln = l.length) (hsm : l.length + l2.length ≤ 34359738368) (hd : Nat.blt d n = true)
    (h : ∀ p' c', At n w0 ((d, .slice p' (l ++ l2).length c') :: F) m (.own f sz E p' c' (l ++ l2) :: Rs') (wpList P ops Q rest)) :
    At n w0 F m Rs (wpList P ops Q (⟨some d, .call ⟨.builtin .append, #[x, y], #[t, tx]⟩, ty, pos, aft, none⟩ :: rest)) := At.append_rdb hx hy hp hf h2 hl2 ht ht2 he hln hsm hd h
theorem At.storeW {ops : Array Oper} {rest : List Oper} {t : TypeId} {x y : Operand} {ty : TypeId} {pos : String} {aft : Array Edge} {k q : Nat} {v : Value} {vs : List Value}
    (hx : ev F x = some (.pointer (some (at_ p (k * sz))))) (hy : ev F y = some v) (hv : cellsB v = some vs) (hp : Pick Rs (.own f sz E p c l) Rs') (x' : α) (hr : putl (f l[k]!) 0 vs = some (f x')) (hf : Fl f sz) (hk : k < l.length)
    (hs : sizeB P t = some q) (hq : vs.length = q) (h1 : vs.all oneCell = true)
    (h : At n w0 F m (.own f sz E p c (l.set k x') :: Rs') (wpList P ops Q rest)) : At n w0 F m Rs (wpList P ops Q (⟨none, .store t x y, ty, pos, aft, none⟩ :: rest)) :=
  At.store_own0 x' hf hp hk hx hy hv hs hq h1 hr h
theorem At.storeWf {ops : Array Oper} {rest : List Oper} {t : TypeId} {x y : Operand} {ty : TypeId} {pos : String} {aft : Array Edge} {k j q : Nat} {v : Value} {vs : List Value}
    (hx : ev F x = some (.pointer (some (at_ p (k * sz + j))))) (hy : ev F y = some v) (hv : cellsB v = some vs) (hp : Pick Rs (.own f sz E p c l) Rs') (x' : α) (hr : putl (f l[k]!) j vs = some (f x')) (hf : Fl f sz) (hk : k < l.length)
    (hs : sizeB P t = some q) (hq : vs.length = q) (h1 : vs.all oneCell = true)
    (h : At n w0 F m (.own f sz E p c (l.set k x') :: Rs') (wpList P ops Q rest)) : At n w0 F m Rs (wpList P ops Q (⟨none, .store t x y, ty, pos, aft, none⟩ :: rest)) :=
  At.store_own x' hf hp hk hx hy hv hs hq h1 hr h
theorem At.makeW {ops : Array Oper} {rest : List Oper} {d : Nat} {x y : Operand} {t : TypeId} {ty : TypeId} {pos : String} {aft : Array Edge} {k1 k2 : IntKind} {cp : Nat} {q : Int}
    (f : α → List Value) (hf : Fl f sz) (ht : P.underlying t = some (.slice E)) (he : elemB P E sz = true) (hx : ev F x = some (.int k1 0)) (hy : ev F y = some (.int k2 q)) (hq : q = (cp : Int)) (hsm : cp ≤ 34359738368) (hd : Nat.blt d n = true)
    (h : ∀ b, At n w0 ((d, .slice (some ⟨b, 0, none⟩) 0 cp) :: F) m (.own f sz E (some ⟨b, 0, none⟩) cp ([] : List α) :: Rs) (wpList P ops Q rest)) :
    At n w0 F m Rs (wpList P ops Q (⟨some d, .makeSlice t x y, ty, pos, aft, none⟩ :: rest)) := At.make f hf ht he hx hy hq hsm hd h
end
end Go.J
namespace Go.J
open Go
def edgesBack (l : List Oper) : Bool := l.zipIdx.all fun (o, i) => o.after.all (fun e => !Region.binds .any e || decide (e.on < i)) && (match o.guard with | some (j, _) => decide (j < i) | none => true)
/-- what is asked of a region whose first N operations are quiet, the others forced -/
def tailB (l : List Oper) (N : Nat) : Bool :=
  decide (N < l.length) && edgesBack (l.take N) && Region.lexB .any (l.take N).toArray && Region.sinkB .any l.toArray N && Region.chainB .any l.toArray N &&
  Region.seqB .any l.toArray (l.length - N) N (Array.replicate N true ++ Array.replicate (l.length - N) false)
theorem edgesBack_spec {l : List Oper} (h : edgesBack l = true) {i : Nat} {o : Oper} (ho : l[i]? = some o) : (∀ e ∈ o.after, Region.binds .any e = true → e.on < i) ∧ (∀ j b, o.guard = some (j, b) → j < i) := by
  unfold edgesBack at h
  have hm : (o, i) ∈ l.zipIdx := by
    rw [List.mem_zipIdx_iff_getElem?]; exact ho
  have := List.all_eq_true.1 h _ hm
  simp only [Bool.and_eq_true] at this
  refine ⟨fun e he hb => ?_, fun j b hg => ?_⟩
  · have h1 := Array.all_eq_true_iff_forall_mem.1 this.1 e he
    simpa [hb] using h1
  · have h2 := this.2
    rw [hg] at h2
    simpa using h2
section
variable {P : Program} {n : Nat} {w0 : World} {F : Fr} {m : Mem} {Rs : List Res} {Q : Exit → Act → World → Prop} {C : World → Prop}
theorem getD_app (lh : Array Bool) (g i : Nat) (b : Bool) (hi : i < lh.size) : (lh ++ Array.replicate g false).getD i b = lh.getD i b := by
  simp [Array.getElem?_append_left hi]
/-- the head's part: whatever order it comes in -/
theorem head_any {l : List Oper} {N g : Nat} {T : Act → Prop} (hN : N < l.length) (hg : g = l.length - N) (hE : edgesBack (l.take N) = true) (hs : Region.sinkB .any l.toArray N = true) (hc : Region.chainB .any l.toArray N = true)
    (hT : ∀ a w, C w → T a → wpAny P .any l.toArray Q g (Array.replicate N true ++ Array.replicate g false) a w) :
    ∀ (f : Nat) (lh : Array Bool) (a : Act) (w : World), lh.size = N → lh.toList.count false = f → HeadInv .any l.toArray N (lh ++ Array.replicate g false) → C w → wpAnyQ P .any (l.take N).toArray C T f lh a →
      wpAny P .any l.toArray Q (f + g) (lh ++ Array.replicate g false) a w := by
  have hget : ∀ i, i < N → (l.take N).toArray[i]? = l.toArray[i]? := fun i hi => by simp [List.getElem?_take, hi]
  intro f
  induction f with
  | zero =>
    intro lh a w hsz hcnt _ hw h
    have hall : lh = Array.replicate N true := by
      apply Array.ext (by simp [hsz])
      intro i h1 h2
      have := List.count_eq_zero.1 hcnt
      simp only [Array.getElem_replicate]
      cases hb : lh[i] with
      | true => rfl
      | false => exact absurd (by rw [← hb]; simp) this
    rw [Nat.zero_add, hall]
    exact hT a w hw h.2
  | succ f ih =>
    intro lh a w hsz hcnt inv hw h
    -- the least one that has not come up
    have hex : ∃ i, i < N ∧ lh.getD i true = false := by
      have : false ∈ lh.toList := by
        apply Classical.byContradiction; intro hn
        rw [List.count_eq_zero.2 hn] at hcnt; omega
      obtain ⟨i, hi, he⟩ := List.getElem_of_mem this
      simp only [Array.length_toList] at hi
      refine ⟨i, by omega, ?_⟩
      simp only [Array.getElem_toList] at he
      simp [hi, he]
    have hmin : ∃ i, (i < N ∧ lh.getD i true = false) ∧ ∀ j, j < i → ¬ (j < N ∧ lh.getD j true = false) := by
      have key : ∀ k, (∃ i, i ≤ k ∧ i < N ∧ lh.getD i true = false) → ∃ i, (i < N ∧ lh.getD i true = false) ∧ ∀ j, j < i → ¬ (j < N ∧ lh.getD j true = false) := by
        intro k
        induction k with
        | zero => rintro ⟨i, h1, h2⟩; exact ⟨i, h2, fun j hj => by omega⟩
        | succ k ihk =>
          rintro ⟨i, h1, h2⟩
          by_cases hb : ∃ i, i ≤ k ∧ i < N ∧ lh.getD i true = false
          · exact ihk hb
          · exact ⟨i, h2, fun j hj hj' => hb ⟨j, by omega, hj'⟩⟩
      obtain ⟨i, h1⟩ := hex
      exact key i ⟨i, Nat.le_refl _, h1⟩
    obtain ⟨i0, ⟨hi0, hun0⟩, hleast⟩ := hmin
    have hlt : ∀ t, N ≤ t → t ∉ Region.ready .any l.toArray (lh ++ Array.replicate g false) :=
      tail_waits hs hc (by simpa using hN) inv _ i0 rfl hi0 (by rw [getD_app _ _ _ _ (by omega)]; exact hun0)
    -- what may come up is the head's
    have hready : ∀ i, i < N → (i ∈ Region.ready .any l.toArray (lh ++ Array.replicate g false) ↔ i ∈ Region.ready .any (l.take N).toArray lh) := fun i hi => by
      rw [mem_ready, mem_ready, getD_app _ _ _ _ (by omega), hget i hi]
      constructor
      · rintro ⟨h1, o, ho, h2⟩
        have ho' : (l.take N)[i]? = some o := by rw [← ho]; simp [List.getElem?_take, hi]
        refine ⟨h1, o, ho, fun e he hb => ?_⟩
        have := (edgesBack_spec hE ho').1 e he hb
        have h3 := h2 e he hb
        rwa [getD_app _ _ _ _ (by omega)] at h3
      · rintro ⟨h1, o, ho, h2⟩
        have ho' : (l.take N)[i]? = some o := by rw [← ho]; simp [List.getElem?_take, hi]
        refine ⟨h1, o, ho, fun e he hb => ?_⟩
        have := (edgesBack_spec hE ho').1 e he hb
        rw [getD_app _ _ _ _ (by omega)]
        exact h2 e he hb
    rw [show f + 1 + g = (f + g) + 1 by omega]
    refine ⟨fun h0 => ?_, fun i hi => ?_⟩
    · exfalso
      have hol : i0 < l.length := by omega
      have ho' : (l.take N)[i0]? = some l[i0] := by simp [hi0, hol]
      have : i0 ∈ Region.ready .any l.toArray (lh ++ Array.replicate g false) := by
        rw [hready i0 hi0, mem_ready]
        refine ⟨hun0, l[i0], by simpa using ho', fun e he hb => ?_⟩
        have hb' := (edgesBack_spec hE ho').1 e he hb
        have hl := hleast e.on hb'
        cases hc' : lh.getD e.on true with
        | false => exact absurd ⟨by omega, hc'⟩ hl
        | true =>
          have : e.on < lh.size := by omega
          simp [this] at hc' ⊢; exact hc'
      rw [h0] at this; cases this
    · have hiN : i < N := Nat.lt_of_not_le fun hle => hlt i hle hi
      have hir := (hready i hiN).1 hi
      have hq := h.2 i hir
      have hun := (mem_ready.1 hir).1
      have hset : (lh ++ Array.replicate g false).setIfInBounds i true = lh.setIfInBounds i true ++ Array.replicate g false := by
        rw [Array.setIfInBounds_append]
        simp [show i < lh.size by omega]
      rw [hset]
      have hcnt' : (lh.setIfInBounds i true).toList.count false = f := by
        have hi' : i < lh.size := by omega
        have : lh[i] = false := by simpa [hi'] using hun
        rw [Array.toList_setIfInBounds]
        have h1 := List.count_set (a := true) (b := false) (l := lh.toList) (i := i) (by simpa using hi')
        rw [h1]
        simp [this, hcnt]
      have inv' : HeadInv .any l.toArray N (lh.setIfInBounds i true ++ Array.replicate g false) := by
        rw [← hset]; exact inv.set hi hiN
      -- the step itself
      unfold qOp at hq
      unfold wpOp
      rw [hget i hiN] at hq
      have hio : i < l.length := by omega
      have ho : l.toArray[i]? = some l[i] := by simp [hio]
      rw [ho] at hq ⊢
      simp only at hq ⊢
      have hwant : Region.wanted l[i] (yielded (l.take N).toArray a.tmps) = Region.wanted l[i] (yielded l.toArray a.tmps) := by
        unfold Region.wanted
        cases hgd : l[i].guard with
        | none => rfl
        | some jb =>
          obtain ⟨j, b⟩ := jb
          have := (edgesBack_spec hE (show (l.take N)[i]? = some l[i] by simp [hiN, hio])).2 j b hgd
          simp only [yielded, hget j (by omega)]
      rw [hwant] at hq
      by_cases hw' : Region.wanted l[i] (yielded l.toArray a.tmps) = true
      · simp only [hw', if_true] at hq ⊢
        exact .inl (Oper.wp_of_quiet hw (fun a' w' hw' h' => ih _ a' w' (by simp [hsz]) hcnt' inv' hw' h') hq)
      · simp only [hw', if_false, Bool.false_eq_true] at hq ⊢
        exact ih _ _ w (by simp [hsz]) hcnt' inv' hw hq
theorem At.quiet_tail {id : Nat} {l0 l : List Oper} (N : Nat) (e : flat l0 = some l) (hm : P.follows .mixedOrders = true) (hB : tailB l N = true)
    (h : AtQ P n F (HW w0 m Rs) (l.take N).toArray (fun a' => ∀ w', HW w0 m Rs w' → wpList P l.toArray Q (l.drop N) a' w') (l.take N)) : At n w0 F m Rs ((Code.region id l0.toArray true).wp P Q) := fun a w ha hw => by
  have := flat_eq l0 l e; subst this
  simp only [tailB, Bool.and_eq_true, decide_eq_true_eq] at hB
  obtain ⟨⟨⟨⟨⟨hN, hE⟩, hL⟩, hs⟩, hc⟩, hseq⟩ := hB
  have htl : (l.take N).length = N := by simp; omega
  simp only [Region.lexB, Bool.and_eq_true] at hL
  refine wp_region_any hm ?_
  have h1 := wpAnyQ_lex (C := HW w0 m Rs) (md := .any) hL.1 (l.take N) 0 (Array.replicate (l.take N).toArray.size false) a (by simp) (by simpa using hL.2) (h a ha)
  have hrep : Array.replicate l.toArray.size false = Array.replicate N false ++ Array.replicate (l.length - N) false := by
    rw [Array.replicate_append_replicate]; congr 1; simp; omega
  rw [hrep]
  have := head_any (P := P) (Q := Q) (C := HW w0 m Rs) (T := fun a' => ∀ w', HW w0 m Rs w' → wpList P l.toArray Q (l.drop N) a' w') hN rfl hE hs hc
    (fun a' w' hw' hT => by
      have hx := wpAny_of_seq (P := P) (md := .any) (Q' := Q) (l.drop N) N (Array.replicate N true ++ Array.replicate (l.length - N) false) a' w' (fun j => by simp [List.getElem?_drop]) (by simpa using hseq) (hT w' hw')
      simpa using hx)
    N (Array.replicate N false) a { w with drawn := w.drawn + 1 } (by simp) (by simp) ?_ (hw.drawn _) (by simpa [htl, Nat.min_eq_left (Nat.le_of_lt hN)] using h1)
  · have e2 : l.toArray.size = N + (l.length - N) := by simp; omega
    rw [e2]; exact this
  · refine ⟨by simp; omega, fun j oj _ hl => ?_, fun t _ ht => ?_⟩
    · exfalso
      rw [Array.replicate_append_replicate, getD_replicate_false] at hl; cases hl
    · rw [Array.replicate_append_replicate]
      exact getD_in (by simp at ht ⊢; omega) (getD_replicate_false _ _)
theorem AtQ.done {ops : Array Oper} {l : List Oper} {K : Act → World → Prop} (h : At n w0 F m Rs K) : AtQ P n F (HW w0 m Rs) ops (fun a' => ∀ w', HW w0 m Rs w' → K a' w') [] := fun a ha => wpQuiet_nil fun w' hw' => h a w' ha hw'
end
end Go.J
namespace Go.J
open Go
theorem putl_step {v : Value} {vs : List Value} : ∀ (k : Nat) (cs r : List Value), putl cs k (v :: vs) = some r → k < cs.length ∧ putl (cs.set k v) (k + 1) vs = some r := by
  intro k
  induction k with
  | zero =>
    intro cs r hp
    cases cs with
    | nil => simp [putl] at hp
    | cons c cs =>
      simp only [putl] at hp
      cases hh : putl cs 0 vs with
      | none => rw [hh] at hp; cases hp
      | some r' => rw [hh] at hp; cases hp; exact ⟨by simp, by simp [putl, hh]⟩
  | succ k ih =>
    intro cs r hp
    cases cs with
    | nil => simp [putl] at hp
    | cons c cs =>
      simp only [putl] at hp
      cases hh : putl cs k (v :: vs) with
      | none => rw [hh] at hp; cases hp
      | some r' =>
        rw [hh] at hp; cases hp
        have := ih cs r' hh
        exact ⟨by simp; omega, by simp [putl, this.2]⟩
theorem foldl_putl (off : Nat) : ∀ (vs : List Value) (k : Nat) (cs r : List Value), putl cs (off + k) vs = some r → ((vs.zipIdx k).foldl (fun (a : Array Value) (x : Value × Nat) => a.setIfInBounds (off + x.2) x.1) cs.toArray) = r.toArray
  | [], k, cs, r, h => by
    have : r = cs := by
      have := putl_get _ _ _ _ h
      apply List.ext_getElem?
      intro i
      rw [this.2.2 i, if_neg (by simp)]
    subst this
    rfl
  | v :: vs, k, cs, r, h => by
    obtain ⟨h1, h2⟩ := putl_step _ _ _ h
    rw [List.zipIdx_cons, List.foldl_cons]
    have e : (cs.toArray.setIfInBounds (off + k) v) = (cs.set (off + k) v).toArray := by simp
    rw [e]
    exact foldl_putl off vs (k + 1) _ r (by rw [← Nat.add_assoc]; exact h2)
def fillL (place : Nat → Option (Nat × Nat)) : List Value → List (Nat × Value) → Option (List Value)
  | cs, [] => some cs
  | cs, (i, v) :: rest => match place i with
    | some (off, size) => match cellsB v with
      | some vs => match Nat.beq vs.length size with
        | true => match putl cs off vs with
          | some r => fillL place r rest
          | none => none
        | false => none
      | none => none
    | none => none
theorem fillL_eq (place : Nat → Option (Nat × Nat)) : ∀ (ps : List (Nat × Value)) (cs r : List Value), fillL place cs ps = some r → Instr.fill place cs.toArray ps = some r.toArray
  | [], cs, r, h => by cases h; rfl
  | (i, v) :: rest, cs, r, h => by
    simp only [fillL] at h
    unfold Instr.fill
    cases hp : place i with
    | none => rw [hp] at h; cases h
    | some q =>
      obtain ⟨off, size⟩ := q
      rw [hp] at h
      simp only at h ⊢
      cases hv : cellsB v with
      | none => rw [hv] at h; cases h
      | some vs =>
        rw [hv] at h
        simp only at h
        have hvc := cellsB_eq hv
        cases hb : Nat.beq vs.length size with
        | false => rw [hb] at h; cases h
        | true =>
          rw [hb] at h
          simp only at h
          cases hq : putl cs off vs with
          | none => rw [hq] at h; cases h
          | some r' =>
            rw [hq] at h
            simp only at h
            have hlen := Nat.eq_of_beq_eq_true hb
            have hg := putl_get _ _ _ _ hq
            have hz : v.cells.size = vs.length := by rw [hvc]; simp
            rw [if_neg (by have := hg.1; simp [hz, hlen]; omega)]
            have hf := foldl_putl off vs 0 cs r' (by simpa using hq)
            have : v.cells.zipIdx.foldl (fun (a : Array Value) (x : Value × Nat) => a.setIfInBounds (off + x.2) x.1) cs.toArray = r'.toArray := by
              rw [hvc, ← hf, ← Array.foldl_toList]
              simp
            rw [show (v.cells.zipIdx.foldl (fun cs (c, j) => cs.setIfInBounds (off + j) c) cs.toArray) = r'.toArray from this]
            exact fillL_eq place rest r' r h
def placesL (P : Program) : List Field → Option (List (Nat × Nat))
  | [] => some []
  | f :: fs => match P.info? f.type with
    | some i => match placesL P fs with
      | some r => some ((f.offset, i.size) :: r)
      | none => none
    | none => none
theorem placesL_eq {P : Program} : ∀ (fs : List Field) (r : List (Nat × Nat)), placesL P fs = some r → fs.mapM (fun f => (P.info? f.type).map fun i => (f.offset, i.size)) = some r
  | [], r, h => by cases h; rfl
  | f :: fs, r, h => by
    simp only [placesL] at h
    cases hi : P.info? f.type with
    | none => rw [hi] at h; cases h
    | some i =>
      rw [hi] at h
      simp only at h
      cases hr : placesL P fs with
      | none => rw [hr] at h; cases h
      | some r' =>
        rw [hr] at h
        cases h
        simp [List.mapM_cons, hi, placesL_eq fs r' hr]
def nthP : List (Nat × Nat) → Nat → Option (Nat × Nat)
  | [], _ => none
  | c :: _, 0 => some c
  | _ :: cs, o + 1 => nthP cs o
theorem nthP_eq : ∀ (cs : List (Nat × Nat)) (o : Nat), nthP cs o = cs[o]?
  | [], _ => by simp [nthP]
  | _ :: _, 0 => rfl
  | _ :: cs, o + 1 => by rw [nthP, nthP_eq cs o]; rfl
/-- the parts of a written value, by their operands -/
def evps (F : Fr) : List (Nat × Operand) → Option (List (Nat × Value))
  | [] => some []
  | (i, x) :: xs => match ev F x with
    | some v => match evps F xs with
      | some vs => some ((i, v) :: vs)
      | none => none
    | none => none
theorem evps_map {n : Nat} {F : Fr} {a : Act} (ha : HF n F a) : ∀ (xs : List (Nat × Operand)) (vs : List (Nat × Value)), evps F xs = some vs → xs.map (fun (i, x) => (i, a.eval x)) = vs
  | [], vs, h => by cases h; rfl
  | (i, x) :: xs, vs, h => by
    simp only [evps] at h
    cases hx : ev F x with
    | none => rw [hx] at h; cases h
    | some v =>
      rw [hx] at h
      simp only at h
      cases hxs : evps F xs with
      | none => rw [hxs] at h; cases h
      | some us =>
        rw [hxs] at h; cases h
        simp only [List.map_cons, ha.ev hx]
        rw [evps_map ha xs us hxs]
def zeroL (P : Program) (t : TypeId) : Option (List Value) := match P.info? t with
  | some i => match i.zero with
    | some z => cellsB z
    | none => none
  | none => none
def buildL (P : Program) (t : TypeId) (ps : List (Nat × Value)) : Option (List Value) :=
  match P.underlying t with
  | some (.struct fields) => match zeroL P t with
    | some z => match placesL P fields.toList with
      | some places => match fillL (nthP places) z ps with
        | some r => flat r
        | none => none
      | none => none
    | none => none
  | _ => none
section
variable {P : Program} {n : Nat} {w0 : World} {F : Fr} {m : Mem} {Rs : List Res} {Q : Exit → Act → World → Prop} {K : Act → World → Prop} {C : World → Prop}
theorem zeroL_spec {t : TypeId} {zs : List Value} (h : zeroL P t = some zs) : ∃ i z, P.info? t = some i ∧ i.zero = some z ∧ z.cells = zs.toArray := by
  unfold zeroL at h
  cases hi : P.info? t with
  | none => rw [hi] at h; cases h
  | some i =>
    rw [hi] at h
    simp only at h
    cases hz : i.zero with
    | none => rw [hz] at h; cases h
    | some z => rw [hz] at h; exact ⟨i, z, rfl, hz, cellsB_eq h⟩
theorem buildL_eq {t : TypeId} {ps : List (Nat × Value)} {r : List Value} (h : buildL P t ps = some r) : P.built t ps = some r.toArray := by
  unfold buildL at h
  unfold Program.built
  cases hu : P.underlying t with
  | none => rw [hu] at h; cases h
  | some d =>
    rw [hu] at h
    cases d <;> simp at h
    rename_i fields
    cases hz : zeroL P t with
    | none => rw [hz] at h; simp at h
    | some zs =>
      obtain ⟨i, z, hi, hzz, hzc⟩ := zeroL_spec hz
      rw [hz] at h
      simp only at h
      cases hp : placesL P fields.toList with
      | none => rw [hp] at h; simp at h
      | some places =>
        rw [hp] at h
        simp only at h
        cases hf : fillL (nthP places) zs ps with
        | none => rw [hf] at h; cases h
        | some r' =>
          rw [hf] at h
          have := flat_eq _ _ h
          subst this
          simp only [hi, hzz, placesL_eq _ _ hp, hzc]
          have e : (fun (x : Nat) => places.toArray[x]?) = nthP places := by funext x; rw [nthP_eq]; simp
          rw [e]
          exact fillL_eq _ _ _ _ hf
theorem pr_build {t : TypeId} {xs : List (Nat × Operand)} {ps : List (Nat × Value)} {r : List Value} (hx : evps F xs = some ps) (hb : buildL P t ps = some r) : PR P n F C (.build t xs.toArray) (.agg r.toArray) := fun _ _ _ _ _ a w ha _ => by
  have e : (xs.toArray.map fun (i, x) => (i, a.eval x)) = ps.toArray := by simp [evps_map ha xs ps hx]
  simp only [execOp, e, Sem.run_bind]
  rw [run_build w t ps.toArray r.toArray (by simpa using buildL_eq hb)]
  rfl
def copies : Nat → List Value → List Value
  | 0, _ => []
  | k + 1, zs => zs ++ copies k zs
theorem copies_eq (zs : List Value) : ∀ k, copies k zs = (List.replicate k ()).flatMap (fun _ => zs)
  | 0 => rfl
  | k + 1 => by rw [copies, copies_eq zs k]; rfl
theorem copies_arr (z : Array Value) (zs : List Value) (hz : z = zs.toArray) (k : Nat) : ((Array.range (k * zs.length)).map (z[· % z.size]!)) = (copies k zs).toArray := by
  subst hz
  rw [copies_eq]
  have hl := flatMap_length (f := fun _ : Unit => zs) (sz := zs.length) (fun _ => rfl) (List.replicate k ())
  rw [List.length_replicate] at hl
  apply Array.ext_getElem?
  intro i
  by_cases hi : i < k * zs.length
  · have hpos : 0 < zs.length := by
      rcases Nat.eq_zero_or_pos zs.length with h | h
      · rw [h] at hi; simp at hi
      · exact h
    have hd : i / zs.length < k := Nat.div_lt_of_lt_mul (by rw [Nat.mul_comm]; exact hi)
    have hm : i % zs.length < zs.length := Nat.mod_lt _ hpos
    have hg := flatMap_get (f := fun _ : Unit => zs) (sz := zs.length) (fun _ => rfl) (List.replicate k ()) (i / zs.length) (i % zs.length) (by simpa using hd) hm
    rw [Nat.mul_comm, Nat.div_add_mod] at hg
    simp only [Array.getElem?_map, List.getElem?_toArray, hg]
    simp [hi, hm]
  · rw [Array.getElem?_eq_none (by simp; omega), Array.getElem?_eq_none (by simp only [List.size_toArray, hl]; omega)]
def litL (P : Program) (E : TypeId) (sz len : Nat) (ps : List (Nat × Value)) : Option (List Value) := match zeroL P E with
  | some zs => match fillL (fun i => some (i * sz, sz)) (copies len zs) ps with
    | some r => flat r
    | none => none
  | none => none
theorem At.lit {α : Type} [Inhabited α] {ops : Array Oper} {rest : List Oper} {d : Nat} {t E : TypeId} {len : Nat} {xs : List (Nat × Operand)} {ps : List (Nat × Value)} {ty : TypeId} {pos : String} {aft : Array Edge} {sz : Nat}
    (f : α → List Value) (l : List α) (hf : Fl f sz) (ht : P.underlying t = some (.slice E)) (he : elemB P E sz = true) (hx : evps F xs = some ps) (hsm : Nat.ble (len * sz) 16777216 = true) (hl : l.length = len)
    (hb : litL P E sz len ps = flat (l.flatMap f)) (hd : Nat.blt d n = true)
    (h : ∀ b, At n w0 ((d, .slice (some ⟨b, 0, none⟩) len len) :: F) m (.own f sz E (some ⟨b, 0, none⟩) len l :: Rs) (wpList P ops Q rest)) :
    At n w0 F m Rs (wpList P ops Q (⟨some d, .buildSlice t len xs.toArray, ty, pos, aft, none⟩ :: rest)) := fun a w ha hw =>
  wpList_plain rfl fun K hK => by
    obtain ⟨i, z, hi, hz, hsz, _, hzs⟩ := elemB_spec he
    have hll := flatMap_length hf.len l
    have hb' : litL P E sz len ps = some (l.flatMap f) := by rw [hb, flat_self]
    unfold litL at hb'
    cases hzl : zeroL P E with
    | none => rw [hzl] at hb'; cases hb'
    | some zs =>
      obtain ⟨i', z', hi', hz', hzc⟩ := zeroL_spec hzl
      rw [hi] at hi'; cases hi'
      rw [hz] at hz'; cases hz'
      rw [hzl] at hb'
      simp only at hb'
      cases hfl : fillL (fun i => some (i * sz, sz)) (copies len zs) ps with
      | none => rw [hfl] at hb'; cases hb'
      | some r =>
        rw [hfl] at hb'
        have hr := flat_eq _ _ hb'
        subst hr
        have hfill := fillL_eq _ _ _ _ hfl
        have hzl' : zs.length = sz := by rw [← hzs, hzc]; simp
        have hsm' := Nat.le_of_ble_eq_true hsm
        have e : (xs.toArray.map fun (i, x) => (i, a.eval x)) = ps.toArray := by simp [evps_map ha xs ps hx]
        have hrun : (Instr.buildSlice t len ps.toArray).run P w = .ok (.slice (some ⟨w.heap.size, 0, none⟩) len len) (w.alloc (.cells (l.flatMap f).toArray E)) := by
          have h0 : ¬ (len * i.size > 2 ^ 24) := by rw [hsz]; omega
          have hcp := copies_arr z.cells zs hzc len
          rw [hzl'] at hcp
          subst hsz
          by_cases hlz : len * i.size = 0
          · have hlen0 : len = 0 := by
              have := hf.pos
              rcases Nat.eq_zero_or_pos len with h | h
              · exact h
              · have := Nat.mul_pos h this; omega
            subst hlen0
            simp only [copies] at hfill
            have he0 : (Array.map (fun _ => (default : Value)) (Array.range 0)) = #[] := by simp [Array.range]
            simp [Instr.buildSlice, run_underlying ht, sizeOf, typeInfo, hi, he0, hfill, newRow]
          · exact run_buildSlice w t E len ps.toArray _ i z ht hi hz h0 hlz (by rw [hcp]; exact hfill)
        unfold Oper.wp
        have hex : (execOp a.eval ⟨some d, .buildSlice t len xs.toArray, ty, pos, aft, none⟩).run P w = .ok (.value (.slice (some ⟨w.heap.size, 0, none⟩) len len)) (w.alloc (.cells (l.flatMap f).toArray E)) := by
          simp only [execOp, e, Sem.run_bind, hrun]
          rfl
        rw [hex]
        refine hK _ _ (h _ _ _ (ha.put hd) (hw.add rfl rfl rfl (by simp) (fun k hk => heap_alloc_old w _ hk) ⟨fun k => k = w.heap.size, .inr ⟨w.heap.size, 0, _, rfl, heap_alloc_new w _, by omega, ?_, ?_, fun j hj => ?_, fun _ => Iff.rfl⟩, fun k hk => by omega⟩))
        · have hpos := hf.pos
          have : len * 1 ≤ len * sz := Nat.mul_le_mul_left _ hpos
          simp only [maxLen]; omega
        · rw [List.size_toArray, hll, hl]; omega
        · rw [Nat.zero_add]; simp
end
end Go.J
