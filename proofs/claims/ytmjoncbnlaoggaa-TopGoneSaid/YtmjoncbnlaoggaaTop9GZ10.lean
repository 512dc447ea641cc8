/- Part 10 of what the law's proof needs: rules of the walk, contracts of functions, plain laws. No condition. -/
import Derived.Test.YtmjoncbnlaoggaaTop9GZ9
import Derived.WideShapes
import Derived.OpenShut
/- A law's arguments of any plain make: structs of whole numbers, truth values, texts, and slices, opened into their cells. -/
set_option linter.unusedSimpArgs false
set_option linter.unusedVariables false
set_option linter.unusedSectionVars false
set_option maxRecDepth 20000
namespace Go.J
open Go Go.ChangeShapes Go.WideShapes Go.ChangeAt Go.RowKit

inductive LK
  | int (k : IntKind)
  | bool
  | str
  | sl (t : TypeId)

section
variable {H : Type} {enc : TypeId × Value → H} {P : Program} {W : World}

def Fit1 (enc : TypeId × Value → H) (P : Program) (W : World) : LK → Value → Prop
  | .int k, v => ∃ a, v = .int k a ∧ (Lit.int k a).wf = true
  | .bool, v => ∃ b, v = .bool b
  | .str, v => ∃ l, v = .string (str l) ∧ l.length ≤ maxLen
  | .sl t, v => ∃ n y, DataW.trod enc P W 0 (fun _ => true) true n t [v] = some y
def Fit (enc : TypeId × Value → H) (P : Program) (W : World) : List LK → List Value → Prop
  | [], [] => True
  | k :: ks, v :: vs => Fit1 enc P W k v ∧ Fit enc P W ks vs
  | _, _ => False
theorem Fit.append : ∀ {a b : List LK} {x y : List Value}, Fit enc P W a x → Fit enc P W b y → Fit enc P W (a ++ b) (x ++ y)
  | [], _, [], _, _, h => h
  | _ :: _, _, _ :: _, _, ⟨h1, h2⟩, h => ⟨h1, Fit.append h2 h⟩
  | [], _, _ :: _, _, h, _ => h.elim
  | _ :: _, _, [], _, h, _ => h.elim

theorem Fit.cons {k : LK} {ks : List LK} {cs : List Value} (h : Fit enc P W (k :: ks) cs) : ∃ v vs, cs = v :: vs ∧ Fit1 enc P W k v ∧ Fit enc P W ks vs := by
  cases cs with
  | nil => exact h.elim
  | cons v vs => exact ⟨v, vs, rfl, h.1, h.2⟩
theorem Fit.nil {cs : List Value} (h : Fit enc P W [] cs) : cs = [] := by
  cases cs with
  | nil => rfl
  | cons v vs => exact h.elim
theorem Fit1.int {k : IntKind} {v : Value} (h : Fit1 enc P W (.int k) v) : ∃ a, v = .int k a ∧ (Lit.int k a).wf = true := h
theorem Fit1.bool {v : Value} (h : Fit1 enc P W .bool v) : ∃ b, v = .bool b := h
theorem Fit1.str {v : Value} (h : Fit1 enc P W .str v) : ∃ l, v = .string (J.str l) ∧ l.length ≤ maxLen := h

def leavesF (P : Program) (rec : TypeId → Option (List LK)) (total : Nat) : Nat → List Field → Option (List LK)
  | off, [] => match Nat.beq off total with
    | true => some []
    | false => none
  | off, f :: fs => match Nat.beq f.offset off with
    | true => match rec f.type with
      | some a => match leavesF P rec total (off + P.cellsOf f.type) fs with
        | some b => some (a ++ b)
        | none => none
      | none => none
    | false => none
def leavesB (P : Program) : Nat → TypeId → Option (List LK)
  | 0, _ => none
  | d + 1, t => match P.underlying t with
    | some (.int k) => some [.int k]
    | some .bool => some [.bool]
    | some .string => some [.str]
    | some (.slice _) => some [.sl t]
    | some (.struct fs) => leavesF P (leavesB P d) (P.cellsOf t) 0 fs.toList
    | some (.array n e) => match leavesB P d e with
      | some a => match Nat.beq (P.cellsOf t) (n * P.cellsOf e) with
        | true => some (List.replicate n a).flatten
        | false => none
      | none => none
    | _ => none

theorem trod_bool' {t : TypeId} {n : Nat} {cs : List Value} {x : DataW H × List MemPlace} (ht : P.underlying t = some .bool) (h : DataW.trod enc P W 0 (fun _ => true) true n t cs = some x) : ∃ b, cs = [.bool b] := by
  cases n with
  | zero => simp [DataW.trod] at h
  | succ n =>
    unfold DataW.trod at h
    rw [ht] at h
    split at h <;> simp_all

theorem trod_fit : ∀ (d n : Nat) (t : TypeId) (cs : List Value) (x : DataW H × List MemPlace) (ks : List LK), leavesB P d t = some ks → DataW.trod enc P W 0 (fun _ => true) true n t cs = some x → Fit enc P W ks cs
  | 0, _, _, _, _, _, h, _ => by cases h
  | d + 1, n, t, cs, x, ks, h, hx => by
    have ih := trod_fit d
    unfold leavesB at h
    cases hu : P.underlying t with
    | none => rw [hu] at h; cases h
    | some u =>
      rw [hu] at h
      cases u <;> simp only at h <;> try (cases h; done)
      case int k =>
        cases h
        obtain ⟨a, rfl, _, h3⟩ := DataW.trod_int hu hx
        exact ⟨⟨a, rfl, h3⟩, trivial⟩
      case bool =>
        cases h
        obtain ⟨b, rfl⟩ := trod_bool' hu hx
        exact ⟨⟨b, rfl⟩, trivial⟩
      case string =>
        cases h
        obtain ⟨s, rfl, _, h3⟩ := DataW.trod_string hu hx
        obtain ⟨l, rfl⟩ := str_of s
        exact ⟨⟨l, rfl, by rw [str_size] at h3; exact h3⟩, trivial⟩
      case slice e =>
        cases h
        have : ∃ v, cs = [v] := by
          rcases DataW.trod_slice hu hx with ⟨rfl, _⟩ | ⟨a, len, cap, _, _, _, _, rfl, _⟩
          · exact ⟨_, rfl⟩
          · exact ⟨_, rfl⟩
        obtain ⟨v, rfl⟩ := this
        exact ⟨⟨n, x, hx⟩, trivial⟩
      case array k e =>
        cases h1 : leavesB P d e with
        | none => rw [h1] at h; cases h
        | some a =>
          rw [h1] at h
          simp only at h
          cases hb : Nat.beq (P.cellsOf t) (k * P.cellsOf e) with
          | false => rw [hb] at h; cases h
          | true =>
            rw [hb] at h
            cases h
            have hl0 := Nat.eq_of_beq_eq_true hb
            obtain ⟨xs, m, _, _, hlen, hxl, hf⟩ := DataW.trod_array hu hx
            have key : ∀ i, i ≤ k → Fit enc P W ((List.replicate i a).flatten) (cs.drop ((k - i) * P.cellsOf e)) := by
              intro i
              induction i with
              | zero =>
                intro _
                rw [List.drop_eq_nil_of_le (by rw [hlen, hl0, Nat.sub_zero]; exact Nat.le_refl _)]
                trivial
              | succ i ih2 =>
                intro hi
                have e1 := hf (k - (i + 1)) (by omega)
                have hj : k - (i + 1) < xs.length := by omega
                rw [List.getElem?_eq_getElem hj] at e1
                have g1 := ih m e _ _ a h1 e1
                have g2 := ih2 (by omega)
                have e2 : (k - (i + 1)) * P.cellsOf e + P.cellsOf e = (k - i) * P.cellsOf e := by rw [← Nat.succ_mul]; congr 1; omega
                rw [List.replicate_succ, List.flatten_cons, show cs.drop ((k - (i + 1)) * P.cellsOf e) = (cs.drop ((k - (i + 1)) * P.cellsOf e)).take (P.cellsOf e) ++ cs.drop ((k - i) * P.cellsOf e) by
                  rw [← e2, ← List.drop_drop, List.take_append_drop]]
                exact Fit.append g1 g2
            have := key k (Nat.le_refl _)
            simpa using this
      case struct fs =>
        obtain ⟨xs, n', _, _, hlen, hxs, hf⟩ := DataW.trod_struct hu hx
        have hf' : ∀ f ∈ fs.toList, ∃ y, DataW.trod enc P W 0 (fun _ => true) true n' f.type ((cs.drop f.offset).take (P.cellsOf f.type)) = some y := fun f hm => by
          obtain ⟨i, hi, he⟩ := List.mem_iff_getElem.1 hm
          have hi' : i < fs.size := by simpa using hi
          have h1 : fs[i]? = some f := by
            rw [Array.getElem?_eq_getElem hi']
            congr 1
          exact ⟨xs[i], by rw [hf i f h1, List.getElem?_eq_getElem]⟩
        have key : ∀ (l : List Field) (off : Nat) (ks : List LK), (∀ f ∈ l, ∃ y, DataW.trod enc P W 0 (fun _ => true) true n' f.type ((cs.drop f.offset).take (P.cellsOf f.type)) = some y) →
            leavesF P (leavesB P d) (P.cellsOf t) off l = some ks → Fit enc P W ks (cs.drop off) := by
          intro l
          induction l with
          | nil =>
            intro off ks _ h
            unfold leavesF at h
            cases hb : Nat.beq off (P.cellsOf t) with
            | false => rw [hb] at h; cases h
            | true =>
              rw [hb] at h
              cases h
              have := Nat.eq_of_beq_eq_true hb
              rw [List.drop_eq_nil_of_le (by omega)]
              trivial
          | cons f l ihl =>
            intro off ks hl h
            unfold leavesF at h
            cases hb : Nat.beq f.offset off with
            | false => rw [hb] at h; cases h
            | true =>
              rw [hb] at h
              simp only at h
              have hoff := Nat.eq_of_beq_eq_true hb
              cases h1 : leavesB P d f.type with
              | none => rw [h1] at h; cases h
              | some a =>
                rw [h1] at h
                simp only at h
                cases h2 : leavesF P (leavesB P d) (P.cellsOf t) (off + P.cellsOf f.type) l with
                | none => rw [h2] at h; cases h
                | some b =>
                  rw [h2] at h
                  cases h
                  obtain ⟨y, hy⟩ := hl f (List.mem_cons_self ..)
                  rw [hoff] at hy
                  have g1 := ih n' f.type _ y a h1 hy
                  have g2 := ihl (off + P.cellsOf f.type) b (fun g hg => hl g (List.mem_cons_of_mem _ hg)) h2
                  rw [show cs.drop off = (cs.drop off).take (P.cellsOf f.type) ++ cs.drop (off + P.cellsOf f.type) by
                    rw [← List.drop_drop, List.take_append_drop]]
                  exact Fit.append g1 g2
        have := key fs.toList 0 ks hf' h
        simpa using this

/-- an element of a slice, by its leaves -/
theorem dec_flat {α : Type} {f : α → List Value} {φ : α → Prop} {e : TypeId} (ks : List LK) (hk : leavesB P 6 e = some ks) (h : ∀ cs, Fit enc P W ks cs → ∃ a, cs = f a ∧ φ a) :
    ∀ n cs' y, cs'.length = P.cellsOf e → DataW.trod enc P W 0 (fun _ => true) true n e cs' = some y → ∃ a, cs' = f a ∧ φ a := fun n cs' y _ hy =>
  h cs' (trod_fit 6 n e cs' y ks hk hy)
theorem dec_flat' {α : Type} {f : α → List Value} {φ : α → Prop} {e : TypeId} {sz : Nat} (ks : List LK) (hk : leavesB P 6 e = some ks) (h : ∀ cs, Fit enc P W ks cs → ∃ a, cs = f a ∧ φ a) :
    ∀ n cs' y, cs'.length = sz → DataW.trod enc P W 0 (fun _ => true) true n e cs' = some y → ∃ a, cs' = f a ∧ φ a := fun n cs' y _ hy =>
  h cs' (trod_fit 6 n e cs' y ks hk hy)
/-- an argument that is a struct -/
theorem open_flat_arg {α : Type} {f : α → List Value} {φ : α → Prop} {t : TypeId} {fs : Array Field} {base : Nat} {v : Value} {d : DataW H} {ps : List MemPlace} (ks : List LK) (ht : P.underlying t = some (.struct fs)) (hk : leavesB P 6 t = some ks)
    (h : ∀ cs, Fit enc P W ks cs → ∃ a, cs = f a ∧ φ a) {r : Reach} (hv : Value.okWide P W r base t v) (hx : DataW.Trod enc P W 0 (fun _ => true) true t v d ps) : ∃ a, v = .agg (f a).toArray ∧ φ a := by
  obtain ⟨cs, rfl, _⟩ := okWide_struct ht hv
  obtain ⟨fuel, hfl⟩ := hx
  obtain ⟨a, h1, h2⟩ := h _ (trod_fit 6 fuel t _ _ ks hk hfl)
  refine ⟨a, ?_, h2⟩
  have : cs.toList = f a := by simpa [Value.cells] using h1
  rw [← this]
/-- a slice that is part of something -/
theorem Fit1.sl {α : Type} [Inhabited α] {f : α → List Value} {sz : Nat} (hf : Fl f sz) (φ : α → Prop) {t e : TypeId} {v : Value} (ht : P.underlying t = some (.slice e)) (hc : P.cellsOf e = sz)
    (hdec : ∀ n cs' y, cs'.length = sz → DataW.trod enc P W 0 (fun _ => true) true n e cs' = some y → ∃ a, cs' = f a ∧ φ a) (h : Fit1 enc P W (.sl t) v) : ∃ p c l, v = .slice p l.length c ∧ Sl (memOf W) f sz p c l ∧ ∀ a ∈ l, φ a := by
  obtain ⟨n, y, hy⟩ := h
  obtain ⟨p, c, l, h1, h2⟩ := open_sl hf φ ht hc hdec hy
  exact ⟨p, c, l, by simpa using h1, h2⟩
end
end Go.J
/- A law's arguments that are events. -/
set_option linter.unusedSimpArgs false
set_option linter.unusedVariables false
set_option linter.unusedSectionVars false
set_option maxRecDepth 20000
set_option maxHeartbeats 4000000
namespace Go.Proofs.Ytmjoncbnlaoggaa
open Go Go.J
attribute [local irreducible] At AtQ AtM AtM1 PR Ct Pu Rd Res.blk Res.own Res.ex RVs RV
namespace Ev
def In (e : Ev) : Prop := -9223372036854775808 ≤ e.T ∧ e.T ≤ 9223372036854775807 ∧ e.V < 18446744073709551616 ∧ -9223372036854775808 ≤ e.C ∧ e.C ≤ 9223372036854775807
theorem dec_ev {H : Type} {enc : TypeId × Value → H} {P : Program} {W : World} : ∀ cs, Fit enc P W [.int .i64, .int .u64, .int .i64, .bool] cs → ∃ a : Ev, cs = a.cells ∧ In a := by
  intro cs h
  obtain ⟨_, _, rfl, h1, h⟩ := h.cons
  obtain ⟨_, _, rfl, h2, h⟩ := h.cons
  obtain ⟨_, _, rfl, h3, h⟩ := h.cons
  obtain ⟨_, _, rfl, h4, h⟩ := h.cons
  obtain rfl := h.nil
  obtain ⟨a, rfl, wa⟩ := h1.int
  obtain ⟨b, rfl, wb⟩ := h2.int
  obtain ⟨c, rfl, wc⟩ := h3.int
  obtain ⟨t, rfl⟩ := h4.bool
  have hb := bounds_u64 wb
  have ha := bounds_i64 wa
  have hc := bounds_i64 wc
  refine ⟨⟨a, b.toNat, c, t⟩, ?_, ha.1, ha.2, by show b.toNat < _; omega, hc.1, hc.2⟩
  show _ = [_, Value.int .u64 (b.toNat : Int), _, _]
  rw [Int.toNat_of_nonneg (by omega)]
end Ev
end Go.Proofs.Ytmjoncbnlaoggaa
/- A law's arguments that are cells. -/
set_option linter.unusedSimpArgs false
set_option linter.unusedVariables false
set_option linter.unusedSectionVars false
set_option maxRecDepth 20000
set_option maxHeartbeats 4000000
namespace Go.Proofs.Ytmjoncbnlaoggaa
open Go Go.J
attribute [local irreducible] At AtQ AtM AtM1 PR Ct Pu Rd Res.blk Res.own Res.ex RVs RV
namespace Cell
open Go.RowKit
theorem dec_cell {H : Type} {enc : TypeId × Value → H} {P : Program} {W : World} : ∀ cs, Go.J.Fit enc P W [.int .i64, .int .i64, .int .u64, .int .i64, .bool, .int .i64, .int .u64, .int .i64, .bool, .int .u64, .int .u64, .int .i64, .int .i64, .int .i64] cs → ∃ a : Cell, cs = a.cells ∧ In a := by
  intro cs h
  obtain ⟨_, _, rfl, h0, h⟩ := h.cons
  obtain ⟨_, _, rfl, h1, h⟩ := h.cons
  obtain ⟨_, _, rfl, h2, h⟩ := h.cons
  obtain ⟨_, _, rfl, h3, h⟩ := h.cons
  obtain ⟨_, _, rfl, h4, h⟩ := h.cons
  obtain ⟨_, _, rfl, h5, h⟩ := h.cons
  obtain ⟨_, _, rfl, h6, h⟩ := h.cons
  obtain ⟨_, _, rfl, h7, h⟩ := h.cons
  obtain ⟨_, _, rfl, h8, h⟩ := h.cons
  obtain ⟨_, _, rfl, h9, h⟩ := h.cons
  obtain ⟨_, _, rfl, h10, h⟩ := h.cons
  obtain ⟨_, _, rfl, h11, h⟩ := h.cons
  obtain ⟨_, _, rfl, h12, h⟩ := h.cons
  obtain ⟨_, _, rfl, h13, h⟩ := h.cons
  obtain rfl := h.nil
  obtain ⟨x0, rfl, g0⟩ := h0.int
  obtain ⟨x1, rfl, g1⟩ := h1.int
  obtain ⟨x2, rfl, g2⟩ := h2.int
  obtain ⟨x3, rfl, g3⟩ := h3.int
  obtain ⟨x4, rfl⟩ := h4.bool
  obtain ⟨x5, rfl, g5⟩ := h5.int
  obtain ⟨x6, rfl, g6⟩ := h6.int
  obtain ⟨x7, rfl, g7⟩ := h7.int
  obtain ⟨x8, rfl⟩ := h8.bool
  obtain ⟨x9, rfl, g9⟩ := h9.int
  obtain ⟨x10, rfl, g10⟩ := h10.int
  obtain ⟨x11, rfl, g11⟩ := h11.int
  obtain ⟨x12, rfl, g12⟩ := h12.int
  obtain ⟨x13, rfl, g13⟩ := h13.int
  have b0 := bounds_i64 g0
  have b2 := bounds_u64 g2
  have b6 := bounds_u64 g6
  have b9 := bounds_u64 g9
  have b10 := bounds_u64 g10
  obtain ⟨n2, rfl⟩ : ∃ n : Nat, x2 = n := ⟨x2.toNat, by omega⟩
  obtain ⟨n6, rfl⟩ : ∃ n : Nat, x6 = n := ⟨x6.toNat, by omega⟩
  obtain ⟨n9, rfl⟩ : ∃ n : Nat, x9 = n := ⟨x9.toNat, by omega⟩
  obtain ⟨n10, rfl⟩ : ∃ n : Nat, x10 = n := ⟨x10.toNat, by omega⟩
  obtain ⟨I, hI⟩ : ∃ I : Nat, n9 = I / 18446744073709551616 ∧ n10 = I % 18446744073709551616 := ⟨n9 * 18446744073709551616 + n10, by omega, by omega⟩
  obtain ⟨hI1, hI2⟩ := hI
  refine ⟨⟨x0, ⟨x1, n2, x3, x4⟩, ⟨x5, n6, x7, x8⟩, I, x11, x12, x13⟩, ?_, b0, by show n2 < _; omega, by show n6 < _; omega, by show I < _; omega⟩
  rw [hI1, hI2]
end Cell
end Go.Proofs.Ytmjoncbnlaoggaa
/- A law's arguments that are states, labels, events. -/
set_option linter.unusedSimpArgs false
set_option linter.unusedVariables false
set_option linter.unusedSectionVars false
set_option maxRecDepth 20000
set_option maxHeartbeats 4000000
namespace Go.Proofs.Ytmjoncbnlaoggaa
open Go Go.J
attribute [local irreducible] At AtQ AtM AtM1 PR Ct Pu Rd Res.blk Res.own Res.ex RVs RV
namespace St
open Go.RowKit
theorem dec_slot {H : Type} {enc : TypeId × Value → H} {P : Program} {W : World} : ∀ cs, Go.J.Fit enc P W [.int .i64, .int .i64, .int .i64, .int .u64, .int .i64, .bool, .int .i64, .int .u64, .int .i64, .bool, .int .u64, .int .u64, .int .i64, .int .i64, .int .i64] cs → ∃ a : Slot, cs = Slot.cells a ∧ Slot.In a := by
  intro cs h
  obtain ⟨_, _, rfl, h0, h⟩ := h.cons
  obtain ⟨c, rfl, hc⟩ := Cell.dec_cell _ h
  obtain ⟨x, rfl, g⟩ := h0.int
  exact ⟨⟨x, c⟩, rfl, bounds_i64 g, hc.1, hc.2.1, hc.2.2.1, hc.2.2.2⟩
theorem dec_lab {H : Type} {enc : TypeId × Value → H} {P : Program} {W : World} : ∀ cs, Go.J.Fit enc P W [.str, .str] cs → ∃ a : Lab, cs = Lb.cells a ∧ True := by
  intro cs h
  obtain ⟨_, _, rfl, h1, h⟩ := h.cons
  obtain ⟨_, _, rfl, h2, h⟩ := h.cons
  obtain rfl := h.nil
  obtain ⟨a, rfl, _⟩ := h1.str
  obtain ⟨t, rfl, _⟩ := h2.str
  exact ⟨⟨a, t⟩, rfl, trivial⟩
theorem dec_ser {H : Type} {enc : TypeId × Value → H} {W : World} : ∀ cs, Go.J.Fit enc Try.prog W [.sl 29, .int .i64, .int .i64, .int .i64, .sl 40, .sl 43, .sl 43, .sl 43, .int .i64, .int .i64, .int .i64, .int .u64, .int .i64, .bool, .int .i64, .int .u64, .int .i64, .bool, .int .u64, .int .u64, .int .i64, .int .i64, .int .i64] cs → ∃ a : Ser, cs = Ser.cells a ∧ Ser.Lay (memOf W) a := by
  intro cs h
  obtain ⟨_, _, rfl, h1, h⟩ := h.cons
  obtain ⟨_, _, rfl, h2, h⟩ := h.cons
  obtain ⟨_, _, rfl, h3, h⟩ := h.cons
  obtain ⟨_, _, rfl, h4, h⟩ := h.cons
  obtain ⟨_, _, rfl, h5, h⟩ := h.cons
  obtain ⟨_, _, rfl, h6, h⟩ := h.cons
  obtain ⟨_, _, rfl, h7, h⟩ := h.cons
  obtain ⟨_, _, rfl, h8, h⟩ := h.cons
  obtain ⟨o, rfl, ho⟩ := dec_slot _ h
  obtain ⟨x2, rfl, g2⟩ := h2.int
  obtain ⟨x3, rfl, g3⟩ := h3.int
  obtain ⟨x4, rfl, g4⟩ := h4.int
  obtain ⟨p1, c1, l1, rfl, s1, _⟩ := Fit1.sl (f := Lb.cells) inferInstance (fun _ => True) Try.underlying29 (by rfl) (dec_flat' [.str, .str] (by kernel_rfl) dec_lab) h1
  obtain ⟨p5, c5, l5, rfl, s5, f5⟩ := Fit1.sl (f := Ev.cells) inferInstance Ev.In Try.underlying40 (by rfl) (dec_flat' [.int .i64, .int .u64, .int .i64, .bool] (by kernel_rfl) Ev.dec_ev) h5
  obtain ⟨p6, c6, l6, rfl, s6, f6⟩ := Fit1.sl (f := Slot.cells) inferInstance Slot.In Try.underlying43 (by rfl) (dec_flat' [.int .i64, .int .i64, .int .i64, .int .u64, .int .i64, .bool, .int .i64, .int .u64, .int .i64, .bool, .int .u64, .int .u64, .int .i64, .int .i64, .int .i64] (by kernel_rfl) dec_slot) h6
  obtain ⟨p7, c7, l7, rfl, s7, f7⟩ := Fit1.sl (f := Slot.cells) inferInstance Slot.In Try.underlying43 (by rfl) (dec_flat' [.int .i64, .int .i64, .int .i64, .int .u64, .int .i64, .bool, .int .i64, .int .u64, .int .i64, .bool, .int .u64, .int .u64, .int .i64, .int .i64, .int .i64] (by kernel_rfl) dec_slot) h7
  obtain ⟨p8, c8, l8, rfl, s8, f8⟩ := Fit1.sl (f := Slot.cells) inferInstance Slot.In Try.underlying43 (by rfl) (dec_flat' [.int .i64, .int .i64, .int .i64, .int .u64, .int .i64, .bool, .int .i64, .int .u64, .int .i64, .bool, .int .u64, .int .u64, .int .i64, .int .i64, .int .i64] (by kernel_rfl) dec_slot) h8
  exact ⟨⟨⟨p1, c1, l1⟩, x2, x3, x4, ⟨p5, c5, l5⟩, ⟨p6, c6, l6⟩, ⟨p7, c7, l7⟩, ⟨p8, c8, l8⟩, o⟩, rfl, s1, s5, s6, s7, s8, f6, f7, f8, ho, fun e he => (f5 e he).2.2.1, bounds_i64 g2⟩
theorem dec_sta {H : Type} {enc : TypeId × Value → H} {W : World} : ∀ cs, Go.J.Fit enc Try.prog W [.int .i64, .int .i64, .int .i64, .int .i64, .int .i64, .int .i64, .int .i64, .int .i64, .int .i64, .int .i64, .int .i64, .sl 26] cs → ∃ a : Sta, cs = Sta.cells a ∧ Sta.Lay (memOf W) a := by
  intro cs h
  obtain ⟨_, _, rfl, h0, h⟩ := h.cons
  obtain ⟨_, _, rfl, h1, h⟩ := h.cons
  obtain ⟨_, _, rfl, h2, h⟩ := h.cons
  obtain ⟨_, _, rfl, h3, h⟩ := h.cons
  obtain ⟨_, _, rfl, h4, h⟩ := h.cons
  obtain ⟨_, _, rfl, h5, h⟩ := h.cons
  obtain ⟨_, _, rfl, h6, h⟩ := h.cons
  obtain ⟨_, _, rfl, h7, h⟩ := h.cons
  obtain ⟨_, _, rfl, h8, h⟩ := h.cons
  obtain ⟨_, _, rfl, h9, h⟩ := h.cons
  obtain ⟨_, _, rfl, h10, h⟩ := h.cons
  obtain ⟨_, _, rfl, h11, h⟩ := h.cons
  obtain rfl := h.nil
  obtain ⟨x0, rfl, g0⟩ := h0.int
  obtain ⟨x1, rfl, g1⟩ := h1.int
  obtain ⟨x2, rfl, g2⟩ := h2.int
  obtain ⟨x3, rfl, g3⟩ := h3.int
  obtain ⟨x4, rfl, g4⟩ := h4.int
  obtain ⟨x5, rfl, g5⟩ := h5.int
  obtain ⟨x6, rfl, g6⟩ := h6.int
  obtain ⟨x7, rfl, g7⟩ := h7.int
  obtain ⟨x8, rfl, g8⟩ := h8.int
  obtain ⟨x9, rfl, g9⟩ := h9.int
  obtain ⟨x10, rfl, g10⟩ := h10.int
  obtain ⟨p, c, l, rfl, s, f⟩ := Fit1.sl (f := Ser.cells) inferInstance (Ser.Lay (memOf W)) Try.underlying26 (by rfl) (dec_flat' [.sl 29, .int .i64, .int .i64, .int .i64, .sl 40, .sl 43, .sl 43, .sl 43, .int .i64, .int .i64, .int .i64, .int .u64, .int .i64, .bool, .int .i64, .int .u64, .int .i64, .bool, .int .u64, .int .u64, .int .i64, .int .i64, .int .i64] (by kernel_rfl) dec_ser) h11
  exact ⟨⟨⟨x0, x1, x2, x3, x4, x5, x6, x7, x8⟩, x9, x10, ⟨p, c, l⟩⟩, rfl, s, f, bounds_i64 g9, bounds_i64 g10⟩
end St
end Go.Proofs.Ytmjoncbnlaoggaa
/- What the laws of the ninth stage ask first: answers that the document gives. -/
set_option linter.unusedSimpArgs false
set_option linter.unusedVariables false
set_option linter.unusedSectionVars false
set_option maxRecDepth 20000
set_option maxHeartbeats 4000000
namespace Go.Proofs.Ytmjoncbnlaoggaa
open Go Go.J
attribute [local irreducible] At AtQ AtM AtM1 PR Ct Pu Rd Res.blk Res.own Res.ex RVs RV
namespace Ru
open Se Win St
theorem Rd.cast {P : Program} {f : FuncId} {a a' : Array Value} {m : Mem} {A : List Res} {V V' : Value} (h : Rd P f a m A V) (ha : a = a') (hV : V = V') : Rd P f a' m A V' := ha ▸ hV ▸ h
abbrev fitK : Cfg := ⟨20, 10, 20, 60, 4, 5, 6, 3, 9⟩
abbrev u27 (p : Option Addr) (c : Nat) : Sta := ⟨fitK, 27, -1, ⟨p, c, [Ser.z, Ser.z, Ser.z]⟩⟩
abbrev la : List Lab := [⟨[97], []⟩]
theorem fit_ok : fitK.ok := Conf.fit_ok
theorem u27_ok {m : Mem} {p : Option Addr} {c : Nat} (sl : Sl m Ser.cells 23 p c [Ser.z, Ser.z, Ser.z]) : (u27 p c).Ok m where
  sl := sl
  pk := fun x hx => by
    have : x = Ser.z := by simpa using hx
    rw [this]; exact zok m
  np := by show 3 ≤ 1000000; decide
  bn := ⟨(by decide : (-9223372036854775808 : Int) ≤ 27), (by decide : (27 : Int) ≤ 9223372036854775807)⟩
  bs := ⟨(by decide : (-9223372036854775808 : Int) ≤ -1), (by decide : (-1 : Int) ≤ 9223372036854775807)⟩
theorem uz_ok (m : Mem) : Sta.z.Ok m where
  sl := Sl.empty m inferInstance
  pk := fun x hx => by cases hx
  np := Nat.zero_le _
  bn := ⟨by decide, by decide⟩
  bs := ⟨by decide, by decide⟩
theorem la_len : la.length ≤ 1000000000 := by decide
theorem mid_la : Lb.Mid la := fun i hi => by
  have : i = 0 := by simp at hi; omega
  subst this
  exact ⟨by decide, by decide⟩
theorem opA27 (p : Option Addr) (c : Nat) : opA (u27 p c) = 20 := by kernel_rfl
theorem opB27 (p : Option Addr) (c : Nat) : opB (u27 p c) = 30 := by kernel_rfl
theorem w20 (p : Option Addr) (c : Nat) : whr (u27 p c) la ⟨20, 0, 0, false⟩ = (0, true, 0) := by kernel_rfl
theorem w25 (p : Option Addr) (c : Nat) : whr (u27 p c) la ⟨25, 0, 0, false⟩ = (0, true, 0) := by kernel_rfl
theorem w19 (p : Option Addr) (c : Nat) : whr (u27 p c) la ⟨19, 0, 0, false⟩ = (0, false, 9) := by kernel_rfl
theorem w30 (p : Option Addr) (c : Nat) : whr (u27 p c) la ⟨30, 0, 0, false⟩ = (0, false, 9) := by kernel_rfl
theorem wn (p : Option Addr) (c : Nat) : whr (u27 p c) [] ⟨25, 0, 0, false⟩ = (0, false, 8) := by kernel_rfl
theorem ws (p : Option Addr) (c : Nat) : whr (u27 p c) la ⟨25, 0, 0, true⟩ = (0, false, 3) := by kernel_rfl
theorem wc (p : Option Addr) (c : Nat) : whr (u27 p c) la ⟨25, 0, 26, false⟩ = (0, false, 2) := by kernel_rfl
theorem wz : whr Sta.z la ⟨25, 0, 0, false⟩ = (0, false, 2) := by kernel_rfl
theorem begins9 {m : Mem} : Rd Try.prog 5 #[] m [] (.bool true) := by
  unfold Rd
  refine Ct.forget (R := fun v m' B => v = .bool true ∧ B = []) ?_ (fun v m' B hm hr => ⟨hr.1, rfl, hr.2⟩)
  have k0 := Conf.fit
  have k1 := fun (m' : Mem) => new (m := m') fitK 3 fit_ok rfl (by decide)
  refine Ct.enterV (by rfl) Try.func5 rfl Try.ntmps5 rfl (fun w0 Rest => ?_)
  (repeat' (first | refine zss ?_ | refine zs0 ?_ | ((with_reducible first | apply AtM1.callp | apply AtQ.callp | apply At.callp); kernel_rfl; exact rfl; exact rfl; exact k0) | ((with_reducible first | apply At.c1 | apply At.c0); exact rfl; exact rfl; exact k1 _; exact ztk; kernel_rfl; rintro v' m' B' hm' ⟨rfl, p', c', rfl, sl1⟩; (try replace sl1 := sl1.mono hm'); (try replace sl2 := sl2.mono hm'); (try (have hq0 : hm' = Mem.le_refl _ := rfl; clear hq0 hm'))) | ((with_reducible apply At.litF Lb.cells la); exact inferInstance; (iterate 7 exact rfl); intro b' m' hm' sl2; (try replace sl1 := sl1.mono hm')) | ((with_reducible apply At.alloc (d := 1)); exact rfl; exact rfl; intro b1) | (refine zsp ?_ ?_ <;> (intro hc; (try simp only [zhcs, reduceCtorEq] at hc); (try (exfalso; first | (first | omega | exact absurd rfl hc) | contradiction | omega | exact absurd rfl hc | exact absurd (by decide) hc))))))
  replace sl1 : Sl _ Ser.cells 23 p' c' [Ser.z, Ser.z, Ser.z] := sl1
  have a0 := fun (m2 : Mem) h => Rd.cast (where_ (m := m2) (u27 p' c') ⟨_, _, la⟩ ⟨25, 0, 0, false⟩ (u27_ok (sl1.mono h)) la_len mid_la (sl2.mono h)) rfl (by rw [w25])
  have a2 := fun (m2 : Mem) h => Rd.cast (accept (m := m2) (u27 p' c') ⟨_, _, la⟩ ⟨30, 0, 0, false⟩ (u27_ok (sl1.mono h)) la_len mid_la (sl2.mono h)) rfl (by rw [w30])
  clear k0 k1
  (repeat' (first | refine zss ?_ | refine zs0 ?_ | ((with_reducible first | apply AtM1.cr | apply AtQ.cr | apply At.cr); exact rfl; exact rfl; exact fun _ hmm => a0 _ zml; exact ztk; kernel_rfl) | ((with_reducible first | apply AtM1.cr | apply AtQ.cr | apply At.cr); exact rfl; exact rfl; exact fun _ hmm => a2 _ zml; exact ztk; kernel_rfl) | ((with_reducible apply At.alloc (d := 1)); exact rfl; exact rfl; intro b1) | (refine zsp ?_ ?_ <;> (intro hc; (try simp only [zhcs, reduceCtorEq] at hc); (try (exfalso; first | (first | omega | exact absurd rfl hc) | contradiction | omega | exact absurd rfl hc | exact absurd (by decide) hc))))))
  all_goals ((with_reducible apply At.retB1 (B := [])); exact rfl; exact rfl; exact zml; exact zkp; exact ⟨rfl, rfl⟩)
end Ru
end Go.Proofs.Ytmjoncbnlaoggaa
/- WindowTells, WindowOwn, WindowWithin: whatever the numbers, each law's call returns true; no condition. -/
set_option linter.unusedSimpArgs false
set_option linter.unusedVariables false
set_option linter.unusedSectionVars false
set_option maxRecDepth 20000
set_option maxHeartbeats 4000000
namespace Go.Proofs.Ytmjoncbnlaoggaa
open Go Go.J
attribute [local irreducible] At AtQ PR Ct Pu
open Win

end Go.Proofs.Ytmjoncbnlaoggaa
/- WindowOwn, WindowWithin. -/
set_option linter.unusedSimpArgs false
set_option linter.unusedVariables false
set_option linter.unusedSectionVars false
set_option maxRecDepth 20000
set_option maxHeartbeats 4000000
namespace Go.Proofs.Ytmjoncbnlaoggaa
open Go Go.J
attribute [local irreducible] At AtQ PR Ct Pu
open Win

theorem own_begin {t w : Int} (h : ofE t w = 0) : beginE (ofV t w) w = 0 ∧ beginV (ofV t w) w ≤ t ∧ t - beginV (ofV t w) w < w ∧ 0 ≤ beginV (ofV t w) w := by
  rcases ofE_cases t w with ⟨⟨h1, h2, h3, h4⟩, _, e⟩ | ⟨_, h', _⟩
  · have hd := div_bd h1 h3
    have hm := @mod_bd t w h3
    have hs := Int.emod_add_mul_ediv t w
    have hc : t / w * w = w * (t / w) := Int.mul_comm _ _
    have hle : t / w ≤ 35184372088832 / w := Int.ediv_le_ediv (by omega) (by omega)
    have hok : beginOk (t / w) w := ⟨h3, h4, hd.1, hle⟩
    rw [e]
    unfold beginE beginV
    rw [if_pos hok, if_pos hok]
    have := Int.mul_nonneg hd.1 (by omega : 0 ≤ w)
    omega
  · omega
theorem own_err {t w n : Int} (h : oldE t w n ≠ 0 ∨ ofE t w ≠ 0) : oldE t w n = 1 := by
  unfold oldE; split
  · rename_i ho
    exfalso
    rcases h with h | h
    · exact h (if_pos ho)
    · exact h (if_pos ho.1)
  · rfl
theorem own_old {t w n : Int} (h : oldE t w n = 0) : ofE t w = 0 ∧ 1 ≤ n ∧ n ≤ 4096 ∧ ofV t w = t / w ∧ oldV t w n ≤ ofV t w ∧ ofV t w - oldV t w n < n ∧ 0 ≤ oldV t w n ∧ (oldV t w n = 0 ∨ oldV t w n = t / w + 1 - n) := by
  have ho : oldOk t w n := by
    unfold oldE at h; split at h
    · assumption
    · omega
  have := ofV_bd t w
  have e : ofV t w = t / w := if_pos ho.1
  have e2 : ofE t w = 0 := if_pos ho.1
  have hn := ho.2
  refine ⟨e2, hn.1, hn.2, e, ?_⟩
  unfold oldV
  rw [if_pos ho]
  split <;> omega
theorem mod_one {i k n o c : Int} (hn : 1 ≤ n) (h0 : 0 ≤ o) (h1 : o ≤ i) (h2 : i ≤ c) (h3 : o ≤ k) (h4 : k ≤ c) (h5 : c - o < n) : (slotV i n = slotV k n) ↔ i = k := by
  constructor
  · intro h
    unfold slotV at h
    rw [if_neg (by omega), if_neg (by omega)] at h
    have e1 := Int.emod_add_mul_ediv i n
    have e2 := Int.emod_add_mul_ediv k n
    have e3 : i - k = n * (i / n - k / n) := by rw [Int.mul_sub]; omega
    have hz : i / n - k / n = 0 := by
      rcases Int.lt_trichotomy (i / n - k / n) 0 with hlt | h0 | hgt
      · exfalso
        have : n * (i / n - k / n) ≤ n * (-1) := Int.mul_le_mul_of_nonneg_left (by omega) (by omega)
        omega
      · exact h0
      · exfalso
        have : n * 1 ≤ n * (i / n - k / n) := Int.mul_le_mul_of_nonneg_left (by omega) (by omega)
        omega
    rw [hz] at e3
    omega
  · rintro rfl; rfl
theorem slot_same {i k n o c : Int} (hn : 1 ≤ n) (h0 : 0 ≤ o) (h1 : o ≤ i) (h2 : i ≤ c) (h3 : o ≤ k) (h4 : k ≤ c) (h5 : c - o < n) : (decide (slotV i n = slotV k n) == decide (i = k)) = true := by
  have := mod_one hn h0 h1 h2 h3 h4 h5
  simp [this]
theorem gone_later {t now th w n : Int} (h : goneV t now w n = true) (hle : now ≤ th) (hth : th < 35184372088832) : goneV t th w n = true := by
  unfold goneV at *
  simp only [decide_eq_true_eq] at *
  obtain ⟨h1, h2, h3⟩ := h
  obtain ⟨g1, g2, g3, g4, g5, g6, g7, g8⟩ := own_old h2
  have hok : ofOk now w := by
    rcases ofE_cases now w with ⟨a, _⟩ | ⟨_, b, _⟩
    · exact a
    · omega
  obtain ⟨k1, k2, k3, k4⟩ := hok
  have hok2 : ofOk th w := ⟨by omega, by omega, k3, k4⟩
  have ho2 : oldOk th w n := ⟨hok2, g2, g3⟩
  have hmono : now / w ≤ th / w := Int.ediv_le_ediv (by omega) hle
  refine ⟨h1, by unfold oldE; rw [if_pos ho2], ?_⟩
  have : oldV th w n = if 0 < th / w + 1 - n then th / w + 1 - n else 0 := if_pos ho2
  have h0 := ofV_bd t w
  rw [this]
  split <;> omega

theorem within_e {t w k : Int} (hw : 1 ≤ w) (hw2 : w ≤ 16777216) (hk : 1 ≤ k) (hk2 : k ≤ 65535) : 1 ≤ w * k ∧ w * k ≤ 1099511627776 ∧ ofE t w = ofE t (w * k) := by
  have h1 : 1 * 1 ≤ w * k := Int.mul_le_mul hw hk (by omega) (by omega)
  have h2 : w * k ≤ 16777216 * 65535 := Int.mul_le_mul hw2 hk2 (by omega) (by omega)
  refine ⟨by omega, by omega, ?_⟩
  unfold ofE
  by_cases h : ofOk t w
  · rw [if_pos h, if_pos ⟨h.1, h.2.1, by omega, by omega⟩]
  · rw [if_neg h, if_neg (fun g => h ⟨g.1, g.2.1, by omega, by omega⟩)]
theorem within_q {t w k : Int} (hw : 1 ≤ w) (hk : 1 ≤ k) (h : ofE t w = 0) (h' : ofE t (w * k) = 0) : ofV t w / k = ofV t (w * k) := by
  rcases ofE_cases t w with ⟨_, _, e⟩ | ⟨_, c, _⟩
  · rcases ofE_cases t (w * k) with ⟨_, _, e'⟩ | ⟨_, c, _⟩
    · rw [e, e', Int.ediv_ediv, if_neg (by omega), Int.sub_zero]
    · omega
  · omega
theorem within_s {t w k : Int} (hw : 1 ≤ w) (hw2 : w ≤ 16777216) (hk : 1 ≤ k) (hk2 : k ≤ 65535) (h : ofE t w = 0) (h' : ofE t (w * k) = 0) (hle : beginV (ofV t (w * k)) (w * k) + w * k ≤ 35184372088832) :
    spanE (beginV (ofV t (w * k)) (w * k)) (beginV (ofV t (w * k)) (w * k) + w * k) w = 0 ∧ spanA (beginV (ofV t (w * k)) (w * k)) (beginV (ofV t (w * k)) (w * k) + w * k) w ≤ ofV t w ∧
    ofV t w < spanB (beginV (ofV t (w * k)) (w * k)) (beginV (ofV t (w * k)) (w * k) + w * k) w ∧
    spanB (beginV (ofV t (w * k)) (w * k)) (beginV (ofV t (w * k)) (w * k) + w * k) w - spanA (beginV (ofV t (w * k)) (w * k)) (beginV (ofV t (w * k)) (w * k) + w * k) w = k := by
  have hb := own_begin h'
  have hq := within_q hw hk h h'
  obtain ⟨g1, g2, g3⟩ := @within_e t w k hw hw2 hk hk2
  have hv := ofV_bd t w
  have hv' := ofV_bd t (w * k)
  generalize hx : ofV t w = x at *
  generalize hy : ofV t (w * k) = y at *
  have hok : beginOk y (w * k) := by
    apply Classical.byContradiction; intro hn
    have := hb.1
    unfold beginE at this
    rw [if_neg hn] at this
    omega
  have hbv : beginV y (w * k) = y * (w * k) := if_pos hok
  rw [hbv] at hle hb ⊢
  have e1 : y * (w * k) = y * k * w := by rw [Int.mul_comm w k, Int.mul_assoc]
  have e2 : y * (w * k) + w * k = (y + 1) * k * w := by rw [Int.add_mul, Int.add_mul, e1, Int.one_mul, Int.mul_comm w k]
  have hA : y * (w * k) / w = y * k := by rw [e1]; exact Int.mul_ediv_cancel _ (by omega)
  have hB : (y * (w * k) + w * k) / w = (y + 1) * k := by rw [e2]; exact Int.mul_ediv_cancel _ (by omega)
  have hU : spanU (y * (w * k)) (y * (w * k) + w * k) w = true := decide_eq_true ⟨by rw [e1]; exact Int.mul_emod_left _ _, by rw [e2]; exact Int.mul_emod_left _ _⟩
  have hR : spanR (y * (w * k)) (y * (w * k) + w * k) w = true := decide_eq_true ⟨hw, by omega, by omega, hle, by omega⟩
  simp only [spanE, spanA, spanB, hU, hR, if_true, Bool.and_self, hA, hB]
  have hd := Int.emod_add_mul_ediv x k
  have hm := @mod_bd x k hk
  rw [hq] at hd
  have e3 : (y + 1) * k = y * k + k := by rw [Int.add_mul, Int.one_mul]
  have e4 : k * y = y * k := Int.mul_comm _ _
  refine ⟨trivial, ?_, ?_, ?_⟩

  all_goals omega
end Go.Proofs.Ytmjoncbnlaoggaa
/- Rules (plain): a series alone in a state, and one that is gone. -/
set_option linter.unusedSimpArgs false
set_option linter.unusedVariables false
set_option linter.unusedSectionVars false
set_option maxRecDepth 20000
set_option maxHeartbeats 4000000
namespace Go.Proofs.Ytmjoncbnlaoggaa
open Go Go.J
namespace Ru
open Se Win St
theorem emp_z : emp Ser.z = true := by decide
theorem liv_z (s : Sta) : liv s Ser.z = false := by unfold liv; rw [emp_z]; rfl
theorem liv_emp {s : Sta} {x : Ser} (h : liv s x = true) : emp x = false := by
  unfold liv at h
  cases he : emp x
  · rfl
  · rw [he] at h; exact absurd h (by simp)
theorem rgt_rgh {s : Sta} {i : Nat} (h : rgt s i = true) (he : emp s.pl.l[i]! = false) : rgh s s.pl.l[i]! ∧ twn s i = false := by
  unfold rgt at h
  rw [he, Bool.false_or, Bool.and_eq_true, decide_eq_true_eq] at h
  exact ⟨h.1, by simpa using h.2⟩
/-- just one series, in a place -/
abbrev sing (s : Sta) (p : Option Addr) (c j : Nat) (x : Ser) : Sta := { s with pl := ⟨p, c, (List.replicate s.pl.l.length Ser.z).set j x⟩ }
theorem sing_len (s : Sta) (p : Option Addr) (c j : Nat) (x : Ser) : (sing s p c j x).pl.l.length = s.pl.l.length := by
  show ((List.replicate s.pl.l.length Ser.z).set j x).length = _
  rw [List.length_set, List.length_replicate]
theorem sing_get (s : Sta) (p : Option Addr) (c j : Nat) (x : Ser) {i : Nat} (hi : i < s.pl.l.length) : (sing s p c j x).pl.l[i]! = if i = j then x else Ser.z := by
  show ((List.replicate s.pl.l.length Ser.z).set j x)[i]! = _
  rw [getElem!_pos _ i (by rw [List.length_set, List.length_replicate]; exact hi), List.getElem_set, List.getElem_replicate]
  by_cases h : i = j
  · rw [if_pos h, if_pos h.symm]
  · rw [if_neg h, if_neg (Ne.symm h)]
theorem sing_ok {s : Sta} {p : Option Addr} {c j i : Nat} (hok : okU s) (hi : i < s.pl.l.length) (hj : j < s.pl.l.length) (hl : liv s s.pl.l[i]! = true) : okU (sing s p c j s.pl.l[i]!) := by
  obtain ⟨r1, r2⟩ := rgt_rgh (hok.2.2 i hi) (liv_emp hl)
  refine ⟨⟨hok.1.1, by rw [sing_len]; exact hok.1.2⟩, hok.2.1, fun k hk => ?_⟩
  rw [sing_len] at hk
  unfold rgt
  rw [sing_get s p c j _ hk]
  by_cases h : k = j
  · rw [if_pos h]
    subst h
    have ht : twn (sing s p c k s.pl.l[i]!) k = false := by
      unfold twn
      rw [Bool.and_eq_false_iff]
      right
      rw [List.any_eq_false]
      intro q hq
      have hq' := List.mem_range.1 hq
      rw [sing_get s p c k _ (by omega), if_neg (by omega), liv_z, Bool.false_and]
      exact Bool.false_ne_true
    rw [ht, decide_eq_true (show rgh (sing s p c k s.pl.l[i]!) s.pl.l[i]! from r1)]
    simp
  · rw [if_neg h, emp_z]; rfl
theorem sing_fst {s : Sta} {p : Option Addr} {c j i : Nat} {l : List Lab} (hj : j < s.pl.l.length) (hl : liv s s.pl.l[i]! = true) (hlab : s.pl.l[i]!.lab.l = l) :
    fstO (sing s p c j s.pl.l[i]!).pl.l.length (fnd (sing s p c j s.pl.l[i]!) l) = some j := by
  rw [sing_len]
  refine fst_some hj ?_ ?_
  · unfold fnd
    rw [sing_get s p c j _ hj, if_pos rfl, decide_eq_true hlab, Bool.true_and]
    exact hl
  · intro k hk
    unfold fnd
    rw [sing_get s p c j _ (by omega), if_neg (by omega), liv_z, Bool.and_false]
/-- where an event goes, when its series lives -/
def wAt (s : Sta) (l : List Lab) (e : Ev) (x : Ser) : Int := if ¬ Lb.right l then 8 else if ¬ e.ok then 2 else if e.T < mk s ∨ toB s ≤ e.T then 9 else if e.T ≤ x.last then 9 else 0
theorem whr_at {s : Sta} {l : List Lab} {e : Ev} {i : Nat} (hok : okU s) (hf : fstO s.pl.l.length (fnd s l) = some i) : whr s l e = (if wAt s l e s.pl.l[i]! = 0 then (i : Int) else 0, false, wAt s l e s.pl.l[i]!) := by
  unfold whr wAt
  rw [if_neg (not_not_intro hok)]
  by_cases h1 : Lb.right l
  · rw [if_neg (not_not_intro h1), if_neg (not_not_intro h1)]
    by_cases h2 : e.ok
    · rw [if_neg (not_not_intro h2), if_neg (not_not_intro h2)]
      by_cases h3 : e.T < mk s ∨ toB s ≤ e.T
      · rw [if_pos h3, if_pos h3]; rfl
      · rw [if_neg h3, if_neg h3, hf]
        dsimp only
        by_cases h4 : e.T ≤ s.pl.l[i]!.last
        · rw [if_pos h4, if_pos h4]; rfl
        · rw [if_neg h4, if_neg h4]; rfl
    · rw [if_pos h2, if_pos h2]; rfl
  · rw [if_pos h1, if_pos h1]; rfl
theorem sing_whr {s : Sta} {p : Option Addr} {c j i : Nat} {l : List Lab} {e : Ev} (hok : okU s) (hi : i < s.pl.l.length) (hj : j < s.pl.l.length) (hl : liv s s.pl.l[i]! = true) (hlab : s.pl.l[i]!.lab.l = l) :
    whr (sing s p c j s.pl.l[i]!) l e = (if wAt s l e s.pl.l[i]! = 0 then (j : Int) else 0, false, wAt s l e s.pl.l[i]!) := by
  rw [whr_at (sing_ok hok hi hj hl) (sing_fst hj hl hlab), sing_get s p c j _ hj, if_pos rfl]
  rfl
/-! ### gone -/
theorem goneV_mono {t now th w n : Int} (h : goneV t now w n = true) (hle : now ≤ th) (hth : th < 35184372088832) : goneV t th w n = true := gone_later h hle hth
theorem dead_mono {k : Cfg} {last now th : Int} (h : dead k last now = true) (hle : now ≤ th) (hth : th < 35184372088832) : dead k last th = true := by
  unfold dead at h ⊢
  simp only [Bool.and_eq_true] at h ⊢
  exact ⟨⟨⟨h.1.1.1, goneV_mono h.1.1.2 hle hth⟩, goneV_mono h.1.2 hle hth⟩, goneV_mono h.2 hle hth⟩
theorem lab_emp {s : Sta} {i : Nat} (hok : okU s) (hi : i < s.pl.l.length) : s.pl.l[i]!.lab.l.length = 0 ↔ emp s.pl.l[i]! = true := by
  constructor
  · intro h
    cases he : emp s.pl.l[i]!
    · have := (rgt_rgh (hok.2.2 i hi) he).1.1.2.1.1
      omega
    · rfl
  · intro h
    have := (eqS_iff.1 h).1.1
    rw [this]; rfl
theorem liv_not {s : Sta} {x : Ser} (h : liv s x = false) (he : emp x = false) : s.swept ≠ -1 ∧ dead s.k x.last s.swept = true := by
  unfold liv at h
  rw [he] at h
  simp only [Bool.not_false, Bool.true_and, Bool.or_eq_false_iff, decide_eq_false_iff_not, Bool.not_eq_eq_eq_not] at h
  exact ⟨h.1, by simpa using h.2⟩
/-- a state of which some that do not live are away -/
theorem away_liv {s t : Sta} (hk : t.k = s.k) (hsw : t.swept = s.swept) {i : Nat} (h : t.pl.l[i]! = s.pl.l[i]! ∨ (t.pl.l[i]! = Ser.z ∧ liv s s.pl.l[i]! = false)) : liv t t.pl.l[i]! = liv s s.pl.l[i]! := by
  rcases h with h | ⟨h, h2⟩
  · rw [h]; unfold liv; rw [hk, hsw]
  · rw [h, liv_z, h2]
structure Away (s t : Sta) : Prop where
  hk : t.k = s.k
  hn : t.now = s.now
  hs : t.swept = s.swept
  len : t.pl.l.length = s.pl.l.length
  at_ : ∀ i, i < s.pl.l.length → t.pl.l[i]! = s.pl.l[i]! ∨ (t.pl.l[i]! = Ser.z ∧ liv s s.pl.l[i]! = false)
theorem Away.liv {s t : Sta} (h : Away s t) {i : Nat} (hi : i < s.pl.l.length) : St.liv t t.pl.l[i]! = St.liv s s.pl.l[i]! := away_liv h.hk h.hs (h.at_ i hi)
theorem Away.ok {s t : Sta} (h : Away s t) (hok : okU s) : okU t := by
  refine ⟨⟨by rw [h.hk]; exact hok.1.1, by rw [h.len, h.hk]; exact hok.1.2⟩, by unfold clk; rw [h.hn, h.hs]; exact hok.2.1, fun i hi => ?_⟩
  rw [h.len] at hi
  have hr := hok.2.2 i hi
  rcases h.at_ i hi with e | ⟨e, -⟩
  · have hrg : rgh t t.pl.l[i]! ↔ rgh s s.pl.l[i]! := by
      unfold rgh St.mk
      rw [e, h.hk, h.hn]
    have htw : twn t i = true → twn s i = true := by
      unfold twn
      rw [h.liv hi]
      simp only [Bool.and_eq_true]
      rintro ⟨h1, h2⟩
      refine ⟨h1, ?_⟩
      rw [List.any_eq_true] at h2 ⊢
      obtain ⟨k, hk, h3⟩ := h2
      have hk' := List.mem_range.1 hk
      refine ⟨k, hk, ?_⟩
      rw [Bool.and_eq_true, h.liv (show k < s.pl.l.length by omega)] at h3
      rw [Bool.and_eq_true]
      refine ⟨h3.1, ?_⟩
      rcases h.at_ k (by omega) with e2 | ⟨e2, h5⟩
      · rw [e2, e] at h3; exact h3.2
      · rw [h5] at h3; exact absurd h3.1 (by decide)
    unfold rgt at hr ⊢
    rw [Bool.or_eq_true] at hr ⊢
    rcases hr with hr | hr
    · left; rw [e]; exact hr
    · right
      rw [Bool.and_eq_true, decide_eq_true_eq] at hr ⊢
      refine ⟨hrg.2 hr.1, ?_⟩
      cases hc : twn t i
      · rfl
      · rw [htw hc] at hr; exact hr.2
  · unfold rgt
    rw [e, emp_z]; rfl
theorem find_congr {n : Nat} {p q : Nat → Bool} (h : ∀ i, i < n → p i = q i) : fstO n p = fstO n q := by
  cases hq : fstO n q with
  | none => exact fst_none fun i hi => by rw [h i hi]; exact fstO_none hq i hi
  | some k =>
    obtain ⟨h1, h2, h3⟩ := fstO_spec hq
    exact fst_some h1 (by rw [h k h1]; exact h2) fun j hj => by rw [h j (by omega)]; exact h3 j hj
theorem Away.fnd {s t : Sta} (h : Away s t) (l : List Lab) : fstO t.pl.l.length (St.fnd t l) = fstO s.pl.l.length (St.fnd s l) := by
  rw [h.len]
  refine find_congr fun i hi => ?_
  unfold St.fnd
  rw [h.liv hi]
  rcases h.at_ i hi with e | ⟨_, e⟩
  · rw [e]
  · rw [e, Bool.and_false, Bool.and_false]
theorem Away.roo {s t : Sta} (h : Away s t) : fstO t.pl.l.length (St.roo t) = fstO s.pl.l.length (St.roo s) := by
  rw [h.len]
  refine find_congr fun i hi => ?_
  unfold St.roo
  rw [h.liv hi]
theorem Away.whr {s t : Sta} (h : Away s t) (hok : okU s) (l : List Lab) (e : Ev) : Ru.whr t l e = Ru.whr s l e := by
  unfold Ru.whr
  rw [if_neg (not_not_intro hok), if_neg (not_not_intro (h.ok hok)), h.fnd, h.roo, show St.mk t = St.mk s by unfold St.mk; rw [h.hn, h.hk], show toB t = toB s by unfold toB St.mk; rw [h.hn, h.hk]]
  cases hf : fstO s.pl.l.length (St.fnd s l) with
  | none => rfl
  | some i =>
    obtain ⟨h1, h2, -⟩ := fstO_spec hf
    rcases h.at_ i h1 with e2 | ⟨_, e2⟩
    · dsimp only
      rw [e2]
    · unfold St.fnd at h2
      rw [e2, Bool.and_false] at h2
      cases h2
theorem Away.many {s t : Sta} (h : Away s t) (hok : okU s) : St.many t = St.many s := by
  unfold St.many St.lvs
  rw [if_pos hok.1, if_pos (h.ok hok).1, h.len, List.length_map, List.length_map]
  congr 1
  refine List.filter_congr fun i hi => ?_
  exact h.liv (List.mem_range.1 hi)
/-- later -/
abbrev late (s : Sta) (t : Int) : Sta := ⟨s.k, t, t, s.pl⟩
theorem mk_mono {s : Sta} {t : Int} (hk : s.k.ok) (h0 : 0 ≤ s.now) (hle : s.now ≤ t) : mk s ≤ t - t % s.k.a := by
  have ha := hk.ha
  unfold mk
  have e1 := Int.emod_add_mul_ediv s.now s.k.a
  have e2 := Int.emod_add_mul_ediv t s.k.a
  have h1 : s.now / s.k.a ≤ t / s.k.a := Int.ediv_le_ediv (by omega) hle
  have h2 : s.k.a * (s.now / s.k.a) ≤ s.k.a * (t / s.k.a) := Int.mul_le_mul_of_nonneg_left h1 (by omega)
  omega
theorem late_liv {s : Sta} {t : Int} (hok : okU s) (hle : s.now ≤ t) (ht : t < 35184372088832) {x : Ser} (h : liv (late s t) x = true) : liv s x = true := by
  have he := liv_emp h
  cases hs : liv s x
  · obtain ⟨h1, h2⟩ := liv_not hs he
    have hd := dead_mono (th := t) h2 (Int.le_trans hok.2.1.2.2 hle) ht
    unfold liv at h
    have h0 : 0 ≤ s.now := hok.2.1.1.1
    rw [he, show (late s t).swept = t from rfl, show (late s t).k = s.k from rfl, hd, decide_eq_false (show ¬ t = -1 by omega)] at h
    exact absurd h (by decide)
  · rfl
theorem late_ok {s : Sta} {t : Int} (hok : okU s) (hle : s.now ≤ t) (ht : t < 35184372088832) : okU (late s t) := by
  have h0 : 0 ≤ s.now := hok.2.1.1.1
  have htm : tm t := ⟨by omega, ht⟩
  refine ⟨hok.1, ⟨htm, .inr htm, Int.le_refl _⟩, fun i hi => ?_⟩
  have hr := hok.2.2 i hi
  have hmk := mk_mono hok.1.1 h0 hle
  unfold rgt at hr ⊢
  rw [Bool.or_eq_true] at hr ⊢
  rcases hr with hr | hr
  · exact .inl hr
  · right
    rw [Bool.and_eq_true, decide_eq_true_eq] at hr ⊢
    obtain ⟨⟨r1, r2, r3⟩, r4⟩ := hr
    refine ⟨⟨r1, r2, ?_⟩, ?_⟩
    · show _ < (t - t % s.k.a) + s.k.a
      have : s.pl.l[i]!.last < mk s + s.k.a := r3
      exact Int.lt_of_lt_of_le this (by omega)
    · cases hc : twn (late s t) i
      · rfl
      · have : twn s i = true := by
          unfold twn at hc ⊢
          rw [Bool.and_eq_true, List.any_eq_true] at hc ⊢
          obtain ⟨h1, k, hk, h2⟩ := hc
          rw [Bool.and_eq_true] at h2
          exact ⟨late_liv hok hle ht h1, k, hk, by rw [Bool.and_eq_true]; exact ⟨late_liv hok hle ht h2.1, h2.2⟩⟩
        rw [this] at r4
        exact r4
theorem late_many {s : Sta} {t : Int} (hok : okU s) (hle : s.now ≤ t) (ht : t < 35184372088832) : many (late s t) ≤ many s := by
  unfold many lvs
  rw [if_pos hok.1, if_pos (late_ok hok hle ht).1, List.length_map, List.length_map]
  rw [← List.countP_eq_length_filter, ← List.countP_eq_length_filter]
  exact List.countP_mono_left fun i _ h => late_liv hok hle ht h
end Ru
end Go.Proofs.Ytmjoncbnlaoggaa
