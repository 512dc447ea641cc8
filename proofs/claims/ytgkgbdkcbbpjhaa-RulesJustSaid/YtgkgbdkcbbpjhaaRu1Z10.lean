/- Part 10 of what the law's proof needs: rules of the walk, contracts of functions, plain laws. No condition. -/
import Derived.Test.YtgkgbdkcbbpjhaaRu1Z9
import Derived.WideShapes
import Derived.OpenShut
/- A law's arguments of any plain make: structs of whole numbers, truth values, texts, and slices, opened into their cells. -/
set_option linter.unusedSimpArgs false
set_option linter.unusedVariables false
set_option linter.unusedSectionVars false
set_option maxRecDepth 20000
namespace Go.J
open Go Go.ChangeShapes Go.WideShapes Go.ChangeAt Go.RowKit

inductive LK
  | int (k : IntKind)
  | bool
  | str
  | sl (t : TypeId)

section
variable {H : Type} {enc : TypeId × Value → H} {P : Program} {W : World}

def Fit1 (enc : TypeId × Value → H) (P : Program) (W : World) : LK → Value → Prop
  | .int k, v => ∃ a, v = .int k a ∧ (Lit.int k a).wf = true
  | .bool, v => ∃ b, v = .bool b
  | .str, v => ∃ l, v = .string (str l) ∧ l.length ≤ maxLen
  | .sl t, v => ∃ n y, DataW.trod enc P W 0 (fun _ => true) true n t [v] = some y
def Fit (enc : TypeId × Value → H) (P : Program) (W : World) : List LK → List Value → Prop
  | [], [] => True
  | k :: ks, v :: vs => Fit1 enc P W k v ∧ Fit enc P W ks vs
  | _, _ => False
theorem Fit.append : ∀ {a b : List LK} {x y : List Value}, Fit enc P W a x → Fit enc P W b y → Fit enc P W (a ++ b) (x ++ y)
  | [], _, [], _, _, h => h
  | _ :: _, _, _ :: _, _, ⟨h1, h2⟩, h => ⟨h1, Fit.append h2 h⟩
  | [], _, _ :: _, _, h, _ => h.elim
  | _ :: _, _, [], _, h, _ => h.elim

theorem Fit.cons {k : LK} {ks : List LK} {cs : List Value} (h : Fit enc P W (k :: ks) cs) : ∃ v vs, cs = v :: vs ∧ Fit1 enc P W k v ∧ Fit enc P W ks vs := by
  cases cs with
  | nil => exact h.elim
  | cons v vs => exact ⟨v, vs, rfl, h.1, h.2⟩
theorem Fit.nil {cs : List Value} (h : Fit enc P W [] cs) : cs = [] := by
  cases cs with
  | nil => rfl
  | cons v vs => exact h.elim
theorem Fit1.int {k : IntKind} {v : Value} (h : Fit1 enc P W (.int k) v) : ∃ a, v = .int k a ∧ (Lit.int k a).wf = true := h
theorem Fit1.bool {v : Value} (h : Fit1 enc P W .bool v) : ∃ b, v = .bool b := h
theorem Fit1.str {v : Value} (h : Fit1 enc P W .str v) : ∃ l, v = .string (J.str l) ∧ l.length ≤ maxLen := h

def leavesF (P : Program) (rec : TypeId → Option (List LK)) (total : Nat) : Nat → List Field → Option (List LK)
  | off, [] => match Nat.beq off total with
    | true => some []
    | false => none
  | off, f :: fs => match Nat.beq f.offset off with
    | true => match rec f.type with
      | some a => match leavesF P rec total (off + P.cellsOf f.type) fs with
        | some b => some (a ++ b)
        | none => none
      | none => none
    | false => none
def leavesB (P : Program) : Nat → TypeId → Option (List LK)
  | 0, _ => none
  | d + 1, t => match P.underlying t with
    | some (.int k) => some [.int k]
    | some .bool => some [.bool]
    | some .string => some [.str]
    | some (.slice _) => some [.sl t]
    | some (.struct fs) => leavesF P (leavesB P d) (P.cellsOf t) 0 fs.toList
    | some (.array n e) => match leavesB P d e with
      | some a => match Nat.beq (P.cellsOf t) (n * P.cellsOf e) with
        | true => some (List.replicate n a).flatten
        | false => none
      | none => none
    | _ => none

theorem trod_bool' {t : TypeId} {n : Nat} {cs : List Value} {x : DataW H × List MemPlace} (ht : P.underlying t = some .bool) (h : DataW.trod enc P W 0 (fun _ => true) true n t cs = some x) : ∃ b, cs = [.bool b] := by
  cases n with
  | zero => simp [DataW.trod] at h
  | succ n =>
    unfold DataW.trod at h
    rw [ht] at h
    split at h <;> simp_all

theorem trod_fit : ∀ (d n : Nat) (t : TypeId) (cs : List Value) (x : DataW H × List MemPlace) (ks : List LK), leavesB P d t = some ks → DataW.trod enc P W 0 (fun _ => true) true n t cs = some x → Fit enc P W ks cs
  | 0, _, _, _, _, _, h, _ => by cases h
  | d + 1, n, t, cs, x, ks, h, hx => by
    have ih := trod_fit d
    unfold leavesB at h
    cases hu : P.underlying t with
    | none => rw [hu] at h; cases h
    | some u =>
      rw [hu] at h
      cases u <;> simp only at h <;> try (cases h; done)
      case int k =>
        cases h
        obtain ⟨a, rfl, _, h3⟩ := DataW.trod_int hu hx
        exact ⟨⟨a, rfl, h3⟩, trivial⟩
      case bool =>
        cases h
        obtain ⟨b, rfl⟩ := trod_bool' hu hx
        exact ⟨⟨b, rfl⟩, trivial⟩
      case string =>
        cases h
        obtain ⟨s, rfl, _, h3⟩ := DataW.trod_string hu hx
        obtain ⟨l, rfl⟩ := str_of s
        exact ⟨⟨l, rfl, by rw [str_size] at h3; exact h3⟩, trivial⟩
      case slice e =>
        cases h
        have : ∃ v, cs = [v] := by
          rcases DataW.trod_slice hu hx with ⟨rfl, _⟩ | ⟨a, len, cap, _, _, _, _, rfl, _⟩
          · exact ⟨_, rfl⟩
          · exact ⟨_, rfl⟩
        obtain ⟨v, rfl⟩ := this
        exact ⟨⟨n, x, hx⟩, trivial⟩
      case array k e =>
        cases h1 : leavesB P d e with
        | none => rw [h1] at h; cases h
        | some a =>
          rw [h1] at h
          simp only at h
          cases hb : Nat.beq (P.cellsOf t) (k * P.cellsOf e) with
          | false => rw [hb] at h; cases h
          | true =>
            rw [hb] at h
            cases h
            have hl0 := Nat.eq_of_beq_eq_true hb
            obtain ⟨xs, m, _, _, hlen, hxl, hf⟩ := DataW.trod_array hu hx
            have key : ∀ i, i ≤ k → Fit enc P W ((List.replicate i a).flatten) (cs.drop ((k - i) * P.cellsOf e)) := by
              intro i
              induction i with
              | zero =>
                intro _
                rw [List.drop_eq_nil_of_le (by rw [hlen, hl0, Nat.sub_zero]; exact Nat.le_refl _)]
                trivial
              | succ i ih2 =>
                intro hi
                have e1 := hf (k - (i + 1)) (by omega)
                have hj : k - (i + 1) < xs.length := by omega
                rw [List.getElem?_eq_getElem hj] at e1
                have g1 := ih m e _ _ a h1 e1
                have g2 := ih2 (by omega)
                have e2 : (k - (i + 1)) * P.cellsOf e + P.cellsOf e = (k - i) * P.cellsOf e := by rw [← Nat.succ_mul]; congr 1; omega
                rw [List.replicate_succ, List.flatten_cons, show cs.drop ((k - (i + 1)) * P.cellsOf e) = (cs.drop ((k - (i + 1)) * P.cellsOf e)).take (P.cellsOf e) ++ cs.drop ((k - i) * P.cellsOf e) by
                  rw [← e2, ← List.drop_drop, List.take_append_drop]]
                exact Fit.append g1 g2
            have := key k (Nat.le_refl _)
            simpa using this
      case struct fs =>
        obtain ⟨xs, n', _, _, hlen, hxs, hf⟩ := DataW.trod_struct hu hx
        have hf' : ∀ f ∈ fs.toList, ∃ y, DataW.trod enc P W 0 (fun _ => true) true n' f.type ((cs.drop f.offset).take (P.cellsOf f.type)) = some y := fun f hm => by
          obtain ⟨i, hi, he⟩ := List.mem_iff_getElem.1 hm
          have hi' : i < fs.size := by simpa using hi
          have h1 : fs[i]? = some f := by
            rw [Array.getElem?_eq_getElem hi']
            congr 1
          exact ⟨xs[i], by rw [hf i f h1, List.getElem?_eq_getElem]⟩
        have key : ∀ (l : List Field) (off : Nat) (ks : List LK), (∀ f ∈ l, ∃ y, DataW.trod enc P W 0 (fun _ => true) true n' f.type ((cs.drop f.offset).take (P.cellsOf f.type)) = some y) →
            leavesF P (leavesB P d) (P.cellsOf t) off l = some ks → Fit enc P W ks (cs.drop off) := by
          intro l
          induction l with
          | nil =>
            intro off ks _ h
            unfold leavesF at h
            cases hb : Nat.beq off (P.cellsOf t) with
            | false => rw [hb] at h; cases h
            | true =>
              rw [hb] at h
              cases h
              have := Nat.eq_of_beq_eq_true hb
              rw [List.drop_eq_nil_of_le (by omega)]
              trivial
          | cons f l ihl =>
            intro off ks hl h
            unfold leavesF at h
            cases hb : Nat.beq f.offset off with
            | false => rw [hb] at h; cases h
            | true =>
              rw [hb] at h
              simp only at h
              have hoff := Nat.eq_of_beq_eq_true hb
              cases h1 : leavesB P d f.type with
              | none => rw [h1] at h; cases h
              | some a =>
                rw [h1] at h
                simp only at h
                cases h2 : leavesF P (leavesB P d) (P.cellsOf t) (off + P.cellsOf f.type) l with
                | none => rw [h2] at h; cases h
                | some b =>
                  rw [h2] at h
                  cases h
                  obtain ⟨y, hy⟩ := hl f (List.mem_cons_self ..)
                  rw [hoff] at hy
                  have g1 := ih n' f.type _ y a h1 hy
                  have g2 := ihl (off + P.cellsOf f.type) b (fun g hg => hl g (List.mem_cons_of_mem _ hg)) h2
                  rw [show cs.drop off = (cs.drop off).take (P.cellsOf f.type) ++ cs.drop (off + P.cellsOf f.type) by
                    rw [← List.drop_drop, List.take_append_drop]]
                  exact Fit.append g1 g2
        have := key fs.toList 0 ks hf' h
        simpa using this

/-- an element of a slice, by its leaves -/
theorem dec_flat {α : Type} {f : α → List Value} {φ : α → Prop} {e : TypeId} (ks : List LK) (hk : leavesB P 6 e = some ks) (h : ∀ cs, Fit enc P W ks cs → ∃ a, cs = f a ∧ φ a) :
    ∀ n cs' y, cs'.length = P.cellsOf e → DataW.trod enc P W 0 (fun _ => true) true n e cs' = some y → ∃ a, cs' = f a ∧ φ a := fun n cs' y _ hy =>
  h cs' (trod_fit 6 n e cs' y ks hk hy)
theorem dec_flat' {α : Type} {f : α → List Value} {φ : α → Prop} {e : TypeId} {sz : Nat} (ks : List LK) (hk : leavesB P 6 e = some ks) (h : ∀ cs, Fit enc P W ks cs → ∃ a, cs = f a ∧ φ a) :
    ∀ n cs' y, cs'.length = sz → DataW.trod enc P W 0 (fun _ => true) true n e cs' = some y → ∃ a, cs' = f a ∧ φ a := fun n cs' y _ hy =>
  h cs' (trod_fit 6 n e cs' y ks hk hy)
/-- an argument that is a struct -/
theorem open_flat_arg {α : Type} {f : α → List Value} {φ : α → Prop} {t : TypeId} {fs : Array Field} {base : Nat} {v : Value} {d : DataW H} {ps : List MemPlace} (ks : List LK) (ht : P.underlying t = some (.struct fs)) (hk : leavesB P 6 t = some ks)
    (h : ∀ cs, Fit enc P W ks cs → ∃ a, cs = f a ∧ φ a) {r : Reach} (hv : Value.okWide P W r base t v) (hx : DataW.Trod enc P W 0 (fun _ => true) true t v d ps) : ∃ a, v = .agg (f a).toArray ∧ φ a := by
  obtain ⟨cs, rfl, _⟩ := okWide_struct ht hv
  obtain ⟨fuel, hfl⟩ := hx
  obtain ⟨a, h1, h2⟩ := h _ (trod_fit 6 fuel t _ _ ks hk hfl)
  refine ⟨a, ?_, h2⟩
  have : cs.toList = f a := by simpa [Value.cells] using h1
  rw [← this]
/-- a slice that is part of something -/
theorem Fit1.sl {α : Type} [Inhabited α] {f : α → List Value} {sz : Nat} (hf : Fl f sz) (φ : α → Prop) {t e : TypeId} {v : Value} (ht : P.underlying t = some (.slice e)) (hc : P.cellsOf e = sz)
    (hdec : ∀ n cs' y, cs'.length = sz → DataW.trod enc P W 0 (fun _ => true) true n e cs' = some y → ∃ a, cs' = f a ∧ φ a) (h : Fit1 enc P W (.sl t) v) : ∃ p c l, v = .slice p l.length c ∧ Sl (memOf W) f sz p c l ∧ ∀ a ∈ l, φ a := by
  obtain ⟨n, y, hy⟩ := h
  obtain ⟨p, c, l, h1, h2⟩ := open_sl hf φ ht hc hdec hy
  exact ⟨p, c, l, by simpa using h1, h2⟩
end
end Go.J
/- A law's arguments that are events. -/
set_option linter.unusedSimpArgs false
set_option linter.unusedVariables false
set_option linter.unusedSectionVars false
set_option maxRecDepth 20000
set_option maxHeartbeats 4000000
namespace Go.Proofs.Ytgkgbdkcbbpjhaa
open Go Go.J
attribute [local irreducible] At AtQ AtM AtM1 PR Ct Pu Rd Res.blk Res.own Res.ex RVs RV
namespace Ev
def In (e : Ev) : Prop := -9223372036854775808 ≤ e.T ∧ e.T ≤ 9223372036854775807 ∧ e.V < 18446744073709551616 ∧ -9223372036854775808 ≤ e.C ∧ e.C ≤ 9223372036854775807
theorem dec_ev {H : Type} {enc : TypeId × Value → H} {P : Program} {W : World} : ∀ cs, Fit enc P W [.int .i64, .int .u64, .int .i64, .bool] cs → ∃ a : Ev, cs = a.cells ∧ In a := by
  intro cs h
  obtain ⟨_, _, rfl, h1, h⟩ := h.cons
  obtain ⟨_, _, rfl, h2, h⟩ := h.cons
  obtain ⟨_, _, rfl, h3, h⟩ := h.cons
  obtain ⟨_, _, rfl, h4, h⟩ := h.cons
  obtain rfl := h.nil
  obtain ⟨a, rfl, wa⟩ := h1.int
  obtain ⟨b, rfl, wb⟩ := h2.int
  obtain ⟨c, rfl, wc⟩ := h3.int
  obtain ⟨t, rfl⟩ := h4.bool
  have hb := bounds_u64 wb
  have ha := bounds_i64 wa
  have hc := bounds_i64 wc
  refine ⟨⟨a, b.toNat, c, t⟩, ?_, ha.1, ha.2, by show b.toNat < _; omega, hc.1, hc.2⟩
  show _ = [_, Value.int .u64 (b.toNat : Int), _, _]
  rw [Int.toNat_of_nonneg (by omega)]
end Ev
end Go.Proofs.Ytgkgbdkcbbpjhaa
/- A law's arguments that are cells. -/
set_option linter.unusedSimpArgs false
set_option linter.unusedVariables false
set_option linter.unusedSectionVars false
set_option maxRecDepth 20000
set_option maxHeartbeats 4000000
namespace Go.Proofs.Ytgkgbdkcbbpjhaa
open Go Go.J
attribute [local irreducible] At AtQ AtM AtM1 PR Ct Pu Rd Res.blk Res.own Res.ex RVs RV
namespace Cell
open Go.RowKit
theorem dec_cell {H : Type} {enc : TypeId × Value → H} {P : Program} {W : World} : ∀ cs, Go.J.Fit enc P W [.int .i64, .int .i64, .int .u64, .int .i64, .bool, .int .i64, .int .u64, .int .i64, .bool, .int .u64, .int .u64, .int .i64, .int .i64, .int .i64] cs → ∃ a : Cell, cs = a.cells ∧ In a := by
  intro cs h
  obtain ⟨_, _, rfl, h0, h⟩ := h.cons
  obtain ⟨_, _, rfl, h1, h⟩ := h.cons
  obtain ⟨_, _, rfl, h2, h⟩ := h.cons
  obtain ⟨_, _, rfl, h3, h⟩ := h.cons
  obtain ⟨_, _, rfl, h4, h⟩ := h.cons
  obtain ⟨_, _, rfl, h5, h⟩ := h.cons
  obtain ⟨_, _, rfl, h6, h⟩ := h.cons
  obtain ⟨_, _, rfl, h7, h⟩ := h.cons
  obtain ⟨_, _, rfl, h8, h⟩ := h.cons
  obtain ⟨_, _, rfl, h9, h⟩ := h.cons
  obtain ⟨_, _, rfl, h10, h⟩ := h.cons
  obtain ⟨_, _, rfl, h11, h⟩ := h.cons
  obtain ⟨_, _, rfl, h12, h⟩ := h.cons
  obtain ⟨_, _, rfl, h13, h⟩ := h.cons
  obtain rfl := h.nil
  obtain ⟨x0, rfl, g0⟩ := h0.int
  obtain ⟨x1, rfl, g1⟩ := h1.int
  obtain ⟨x2, rfl, g2⟩ := h2.int
  obtain ⟨x3, rfl, g3⟩ := h3.int
  obtain ⟨x4, rfl⟩ := h4.bool
  obtain ⟨x5, rfl, g5⟩ := h5.int
  obtain ⟨x6, rfl, g6⟩ := h6.int
  obtain ⟨x7, rfl, g7⟩ := h7.int
  obtain ⟨x8, rfl⟩ := h8.bool
  obtain ⟨x9, rfl, g9⟩ := h9.int
  obtain ⟨x10, rfl, g10⟩ := h10.int
  obtain ⟨x11, rfl, g11⟩ := h11.int
  obtain ⟨x12, rfl, g12⟩ := h12.int
  obtain ⟨x13, rfl, g13⟩ := h13.int
  have b0 := bounds_i64 g0
  have b2 := bounds_u64 g2
  have b6 := bounds_u64 g6
  have b9 := bounds_u64 g9
  have b10 := bounds_u64 g10
  obtain ⟨n2, rfl⟩ : ∃ n : Nat, x2 = n := ⟨x2.toNat, by omega⟩
  obtain ⟨n6, rfl⟩ : ∃ n : Nat, x6 = n := ⟨x6.toNat, by omega⟩
  obtain ⟨n9, rfl⟩ : ∃ n : Nat, x9 = n := ⟨x9.toNat, by omega⟩
  obtain ⟨n10, rfl⟩ : ∃ n : Nat, x10 = n := ⟨x10.toNat, by omega⟩
  obtain ⟨I, hI⟩ : ∃ I : Nat, n9 = I / 18446744073709551616 ∧ n10 = I % 18446744073709551616 := ⟨n9 * 18446744073709551616 + n10, by omega, by omega⟩
  obtain ⟨hI1, hI2⟩ := hI
  refine ⟨⟨x0, ⟨x1, n2, x3, x4⟩, ⟨x5, n6, x7, x8⟩, I, x11, x12, x13⟩, ?_, b0, by show n2 < _; omega, by show n6 < _; omega, by show I < _; omega⟩
  rw [hI1, hI2]
end Cell
end Go.Proofs.Ytgkgbdkcbbpjhaa
/- A law's arguments that are states, labels, events. -/
set_option linter.unusedSimpArgs false
set_option linter.unusedVariables false
set_option linter.unusedSectionVars false
set_option maxRecDepth 20000
set_option maxHeartbeats 4000000
namespace Go.Proofs.Ytgkgbdkcbbpjhaa
open Go Go.J
attribute [local irreducible] At AtQ AtM AtM1 PR Ct Pu Rd Res.blk Res.own Res.ex RVs RV
namespace St
open Go.RowKit
theorem dec_slot {H : Type} {enc : TypeId × Value → H} {P : Program} {W : World} : ∀ cs, Go.J.Fit enc P W [.int .i64, .int .i64, .int .i64, .int .u64, .int .i64, .bool, .int .i64, .int .u64, .int .i64, .bool, .int .u64, .int .u64, .int .i64, .int .i64, .int .i64] cs → ∃ a : Slot, cs = Slot.cells a ∧ Slot.In a := by
  intro cs h
  obtain ⟨_, _, rfl, h0, h⟩ := h.cons
  obtain ⟨c, rfl, hc⟩ := Cell.dec_cell _ h
  obtain ⟨x, rfl, g⟩ := h0.int
  exact ⟨⟨x, c⟩, rfl, bounds_i64 g, hc.1, hc.2.1, hc.2.2.1, hc.2.2.2⟩
theorem dec_lab {H : Type} {enc : TypeId × Value → H} {P : Program} {W : World} : ∀ cs, Go.J.Fit enc P W [.str, .str] cs → ∃ a : Lab, cs = Lb.cells a ∧ True := by
  intro cs h
  obtain ⟨_, _, rfl, h1, h⟩ := h.cons
  obtain ⟨_, _, rfl, h2, h⟩ := h.cons
  obtain rfl := h.nil
  obtain ⟨a, rfl, _⟩ := h1.str
  obtain ⟨t, rfl, _⟩ := h2.str
  exact ⟨⟨a, t⟩, rfl, trivial⟩
theorem dec_ser {H : Type} {enc : TypeId × Value → H} {W : World} : ∀ cs, Go.J.Fit enc Try.prog W [.sl 29, .int .i64, .int .i64, .int .i64, .sl 44, .sl 47, .sl 47, .sl 47, .int .i64, .int .i64, .int .i64, .int .u64, .int .i64, .bool, .int .i64, .int .u64, .int .i64, .bool, .int .u64, .int .u64, .int .i64, .int .i64, .int .i64] cs → ∃ a : Ser, cs = Ser.cells a ∧ Ser.Lay (memOf W) a := by
  intro cs h
  obtain ⟨_, _, rfl, h1, h⟩ := h.cons
  obtain ⟨_, _, rfl, h2, h⟩ := h.cons
  obtain ⟨_, _, rfl, h3, h⟩ := h.cons
  obtain ⟨_, _, rfl, h4, h⟩ := h.cons
  obtain ⟨_, _, rfl, h5, h⟩ := h.cons
  obtain ⟨_, _, rfl, h6, h⟩ := h.cons
  obtain ⟨_, _, rfl, h7, h⟩ := h.cons
  obtain ⟨_, _, rfl, h8, h⟩ := h.cons
  obtain ⟨o, rfl, ho⟩ := dec_slot _ h
  obtain ⟨x2, rfl, g2⟩ := h2.int
  obtain ⟨x3, rfl, g3⟩ := h3.int
  obtain ⟨x4, rfl, g4⟩ := h4.int
  obtain ⟨p1, c1, l1, rfl, s1, _⟩ := Fit1.sl (f := Lb.cells) inferInstance (fun _ => True) Try.underlying29 (by rfl) (dec_flat' [.str, .str] (by kernel_rfl) dec_lab) h1
  obtain ⟨p5, c5, l5, rfl, s5, f5⟩ := Fit1.sl (f := Ev.cells) inferInstance Ev.In Try.underlying44 (by rfl) (dec_flat' [.int .i64, .int .u64, .int .i64, .bool] (by kernel_rfl) Ev.dec_ev) h5
  obtain ⟨p6, c6, l6, rfl, s6, f6⟩ := Fit1.sl (f := Slot.cells) inferInstance Slot.In Try.underlying47 (by rfl) (dec_flat' [.int .i64, .int .i64, .int .i64, .int .u64, .int .i64, .bool, .int .i64, .int .u64, .int .i64, .bool, .int .u64, .int .u64, .int .i64, .int .i64, .int .i64] (by kernel_rfl) dec_slot) h6
  obtain ⟨p7, c7, l7, rfl, s7, f7⟩ := Fit1.sl (f := Slot.cells) inferInstance Slot.In Try.underlying47 (by rfl) (dec_flat' [.int .i64, .int .i64, .int .i64, .int .u64, .int .i64, .bool, .int .i64, .int .u64, .int .i64, .bool, .int .u64, .int .u64, .int .i64, .int .i64, .int .i64] (by kernel_rfl) dec_slot) h7
  obtain ⟨p8, c8, l8, rfl, s8, f8⟩ := Fit1.sl (f := Slot.cells) inferInstance Slot.In Try.underlying47 (by rfl) (dec_flat' [.int .i64, .int .i64, .int .i64, .int .u64, .int .i64, .bool, .int .i64, .int .u64, .int .i64, .bool, .int .u64, .int .u64, .int .i64, .int .i64, .int .i64] (by kernel_rfl) dec_slot) h8
  exact ⟨⟨⟨p1, c1, l1⟩, x2, x3, x4, ⟨p5, c5, l5⟩, ⟨p6, c6, l6⟩, ⟨p7, c7, l7⟩, ⟨p8, c8, l8⟩, o⟩, rfl, s1, s5, s6, s7, s8, f6, f7, f8, ho, fun e he => (f5 e he).2.2.1, bounds_i64 g2⟩
theorem dec_sta {H : Type} {enc : TypeId × Value → H} {W : World} : ∀ cs, Go.J.Fit enc Try.prog W [.int .i64, .int .i64, .int .i64, .int .i64, .int .i64, .int .i64, .int .i64, .int .i64, .int .i64, .int .i64, .int .i64, .sl 26] cs → ∃ a : Sta, cs = Sta.cells a ∧ Sta.Lay (memOf W) a := by
  intro cs h
  obtain ⟨_, _, rfl, h0, h⟩ := h.cons
  obtain ⟨_, _, rfl, h1, h⟩ := h.cons
  obtain ⟨_, _, rfl, h2, h⟩ := h.cons
  obtain ⟨_, _, rfl, h3, h⟩ := h.cons
  obtain ⟨_, _, rfl, h4, h⟩ := h.cons
  obtain ⟨_, _, rfl, h5, h⟩ := h.cons
  obtain ⟨_, _, rfl, h6, h⟩ := h.cons
  obtain ⟨_, _, rfl, h7, h⟩ := h.cons
  obtain ⟨_, _, rfl, h8, h⟩ := h.cons
  obtain ⟨_, _, rfl, h9, h⟩ := h.cons
  obtain ⟨_, _, rfl, h10, h⟩ := h.cons
  obtain ⟨_, _, rfl, h11, h⟩ := h.cons
  obtain rfl := h.nil
  obtain ⟨x0, rfl, g0⟩ := h0.int
  obtain ⟨x1, rfl, g1⟩ := h1.int
  obtain ⟨x2, rfl, g2⟩ := h2.int
  obtain ⟨x3, rfl, g3⟩ := h3.int
  obtain ⟨x4, rfl, g4⟩ := h4.int
  obtain ⟨x5, rfl, g5⟩ := h5.int
  obtain ⟨x6, rfl, g6⟩ := h6.int
  obtain ⟨x7, rfl, g7⟩ := h7.int
  obtain ⟨x8, rfl, g8⟩ := h8.int
  obtain ⟨x9, rfl, g9⟩ := h9.int
  obtain ⟨x10, rfl, g10⟩ := h10.int
  obtain ⟨p, c, l, rfl, s, f⟩ := Fit1.sl (f := Ser.cells) inferInstance (Ser.Lay (memOf W)) Try.underlying26 (by rfl) (dec_flat' [.sl 29, .int .i64, .int .i64, .int .i64, .sl 44, .sl 47, .sl 47, .sl 47, .int .i64, .int .i64, .int .i64, .int .u64, .int .i64, .bool, .int .i64, .int .u64, .int .i64, .bool, .int .u64, .int .u64, .int .i64, .int .i64, .int .i64] (by kernel_rfl) dec_ser) h11
  exact ⟨⟨⟨x0, x1, x2, x3, x4, x5, x6, x7, x8⟩, x9, x10, ⟨p, c, l⟩⟩, rfl, s, f, bounds_i64 g9, bounds_i64 g10⟩
end St
end Go.Proofs.Ytgkgbdkcbbpjhaa
/- What the laws of rules ask first: answers that the document gives. -/
set_option linter.unusedSimpArgs false
set_option linter.unusedVariables false
set_option linter.unusedSectionVars false
set_option maxRecDepth 20000
set_option maxHeartbeats 4000000
namespace Go.Proofs.Ytgkgbdkcbbpjhaa
open Go Go.J
attribute [local irreducible] At AtQ AtM AtM1 PR Ct Pu Rd Res.blk Res.own Res.ex RVs RV
namespace Ru
open Se Win St
theorem Rd.cast {P : Program} {f : FuncId} {a a' : Array Value} {m : Mem} {A : List Res} {V V' : Value} (h : Rd P f a m A V) (ha : a = a') (hV : V = V') : Rd P f a' m A V' := ha ▸ hV ▸ h
abbrev fitK : Cfg := ⟨20, 10, 20, 60, 4, 5, 6, 3, 9⟩
abbrev u27 (p : Option Addr) (c : Nat) : Sta := ⟨fitK, 27, -1, ⟨p, c, [Ser.z, Ser.z, Ser.z]⟩⟩
abbrev la : List Lab := [⟨[97], []⟩]
theorem fit_ok : fitK.ok := Conf.fit_ok
theorem u27_ok {m : Mem} {p : Option Addr} {c : Nat} (sl : Sl m Ser.cells 23 p c [Ser.z, Ser.z, Ser.z]) : (u27 p c).Ok m where
  sl := sl
  pk := fun x hx => by
    have : x = Ser.z := by simpa using hx
    rw [this]; exact zok m
  np := by show 3 ≤ 1000000; decide
  bn := ⟨(by decide : (-9223372036854775808 : Int) ≤ 27), (by decide : (27 : Int) ≤ 9223372036854775807)⟩
  bs := ⟨(by decide : (-9223372036854775808 : Int) ≤ -1), (by decide : (-1 : Int) ≤ 9223372036854775807)⟩
theorem uz_ok (m : Mem) : Sta.z.Ok m where
  sl := Sl.empty m inferInstance
  pk := fun x hx => by cases hx
  np := Nat.zero_le _
  bn := ⟨by decide, by decide⟩
  bs := ⟨by decide, by decide⟩
theorem la_len : la.length ≤ 1000000000 := by decide
theorem mid_la : Lb.Mid la := fun i hi => by
  have : i = 0 := by simp at hi; omega
  subst this
  exact ⟨by decide, by decide⟩
theorem opA27 (p : Option Addr) (c : Nat) : opA (u27 p c) = 20 := by kernel_rfl
theorem opB27 (p : Option Addr) (c : Nat) : opB (u27 p c) = 30 := by kernel_rfl
theorem w20 (p : Option Addr) (c : Nat) : whr (u27 p c) la ⟨20, 0, 0, false⟩ = (0, true, 0) := by kernel_rfl
theorem w25 (p : Option Addr) (c : Nat) : whr (u27 p c) la ⟨25, 0, 0, false⟩ = (0, true, 0) := by kernel_rfl
theorem w19 (p : Option Addr) (c : Nat) : whr (u27 p c) la ⟨19, 0, 0, false⟩ = (0, false, 9) := by kernel_rfl
theorem w30 (p : Option Addr) (c : Nat) : whr (u27 p c) la ⟨30, 0, 0, false⟩ = (0, false, 9) := by kernel_rfl
theorem wn (p : Option Addr) (c : Nat) : whr (u27 p c) [] ⟨25, 0, 0, false⟩ = (0, false, 8) := by kernel_rfl
theorem ws (p : Option Addr) (c : Nat) : whr (u27 p c) la ⟨25, 0, 0, true⟩ = (0, false, 3) := by kernel_rfl
theorem wc (p : Option Addr) (c : Nat) : whr (u27 p c) la ⟨25, 0, 26, false⟩ = (0, false, 2) := by kernel_rfl
theorem wz : whr Sta.z la ⟨25, 0, 0, false⟩ = (0, false, 2) := by kernel_rfl
theorem rules_lives {m : Mem} : Rd Try.prog 4 #[] m [] (.bool true) := by
  unfold Rd
  refine Ct.forget (R := fun v m' B => v = .bool true ∧ B = []) ?_ (fun v m' B hm hr => ⟨hr.1, rfl, hr.2⟩)
  have k0 := Conf.fit
  have k1 := fun (m' : Mem) => new (m := m') fitK 3 fit_ok rfl (by decide)
  refine Ct.enterV (by rfl) Try.func4 rfl Try.ntmps4 rfl (fun w0 Rest => ?_)
  (repeat' (first | refine zss ?_ | refine zs0 ?_ | ((with_reducible first | apply AtM1.callp | apply AtQ.callp | apply At.callp); kernel_rfl; exact rfl; exact rfl; exact k0) | ((with_reducible first | apply At.c1 | apply At.c0); exact rfl; exact rfl; exact k1 _; exact ztk; kernel_rfl; rintro v' m' B' hm' ⟨rfl, p', c', rfl, sl1⟩; (try replace sl1 := sl1.mono hm'); (try replace sl2 := sl2.mono hm'); (try (have hq0 : hm' = Mem.le_refl _ := rfl; clear hq0 hm'))) | ((with_reducible apply At.litF Lb.cells la); exact inferInstance; (iterate 7 exact rfl); intro b' m' hm' sl2; (try replace sl1 := sl1.mono hm')) | ((with_reducible apply At.alloc (d := 1)); exact rfl; exact rfl; intro b1) | (refine zsp ?_ ?_ <;> (intro hc; (try simp only [zhcs, reduceCtorEq] at hc); (try (exfalso; first | (first | omega | exact absurd rfl hc) | contradiction | omega | exact absurd rfl hc | exact absurd (by decide) hc))))))
  replace sl1 : Sl _ Ser.cells 23 p' c' [Ser.z, Ser.z, Ser.z] := sl1
  have o1 := fun (m2 : Mem) h => Rd.cast (open_ (m := m2) (u27 p' c') (u27_ok (sl1.mono h))) rfl (by rw [opA27, opB27])
  have a0 := fun (m2 : Mem) h => Rd.cast (where_ (m := m2) (u27 p' c') ⟨_, _, la⟩ ⟨20, 0, 0, false⟩ (u27_ok (sl1.mono h)) la_len mid_la (sl2.mono h)) rfl (by rw [w20])
  have a1 := fun (m2 : Mem) h => Rd.cast (accept (m := m2) (u27 p' c') ⟨_, _, la⟩ ⟨19, 0, 0, false⟩ (u27_ok (sl1.mono h)) la_len mid_la (sl2.mono h)) rfl (by rw [w19])
  have a2 := fun (m2 : Mem) h => Rd.cast (accept (m := m2) (u27 p' c') ⟨_, _, la⟩ ⟨30, 0, 0, false⟩ (u27_ok (sl1.mono h)) la_len mid_la (sl2.mono h)) rfl (by rw [w30])
  have a4 := fun (m2 : Mem) h => Rd.cast (accept (m := m2) (u27 p' c') ⟨_, _, la⟩ ⟨25, 0, 0, true⟩ (u27_ok (sl1.mono h)) la_len mid_la (sl2.mono h)) rfl (by rw [ws])
  have a5 := fun (m2 : Mem) h => Rd.cast (accept (m := m2) (u27 p' c') ⟨_, _, la⟩ ⟨25, 0, 26, false⟩ (u27_ok (sl1.mono h)) la_len mid_la (sl2.mono h)) rfl (by rw [wc])
  have a3 := fun (m2 : Mem) h => Rd.cast (accept (m := m2) (u27 p' c') Lst.nil ⟨25, 0, 0, false⟩ (u27_ok (sl1.mono h)) (by decide) (fun i hi => absurd hi (Nat.not_lt_zero i)) (Sl.empty m2 inferInstance)) rfl (by rw [show (Lst.nil : Lst Lab).l = [] from rfl, wn])
  have a6 := fun (m2 : Mem) h => Rd.cast (accept (m := m2) Sta.z ⟨_, _, la⟩ ⟨25, 0, 0, false⟩ (uz_ok m2) la_len mid_la (sl2.mono h)) rfl (by rw [wz])
  clear k0 k1
  (repeat' (first | refine zss ?_ | refine zs0 ?_ | ((with_reducible first | apply AtM1.cr | apply AtQ.cr | apply At.cr); exact rfl; exact rfl; exact fun _ hmm => o1 _ zml; exact ztk; kernel_rfl) | ((with_reducible first | apply AtM1.cr | apply AtQ.cr | apply At.cr); exact rfl; exact rfl; exact fun _ hmm => a0 _ zml; exact ztk; kernel_rfl) | ((with_reducible first | apply AtM1.cr | apply AtQ.cr | apply At.cr); exact rfl; exact rfl; exact fun _ hmm => a1 _ zml; exact ztk; kernel_rfl) | ((with_reducible first | apply AtM1.cr | apply AtQ.cr | apply At.cr); exact rfl; exact rfl; exact fun _ hmm => a2 _ zml; exact ztk; kernel_rfl) | ((with_reducible first | apply AtM1.cr | apply AtQ.cr | apply At.cr); exact rfl; exact rfl; exact fun _ hmm => a3 _ zml; exact ztk; kernel_rfl) | ((with_reducible first | apply AtM1.cr | apply AtQ.cr | apply At.cr); exact rfl; exact rfl; exact fun _ hmm => a4 _ zml; exact ztk; kernel_rfl) | ((with_reducible first | apply AtM1.cr | apply AtQ.cr | apply At.cr); exact rfl; exact rfl; exact fun _ hmm => a5 _ zml; exact ztk; kernel_rfl) | ((with_reducible first | apply AtM1.cr | apply AtQ.cr | apply At.cr); exact rfl; exact rfl; exact fun _ hmm => a6 _ zml; exact ztk; kernel_rfl) | ((with_reducible apply At.alloc (d := 1)); exact rfl; exact rfl; intro b1) | (refine zsp ?_ ?_ <;> (intro hc; (try simp only [zhcs, reduceCtorEq] at hc); (try (exfalso; first | (first | omega | exact absurd rfl hc) | contradiction | omega | exact absurd rfl hc | exact absurd (by decide) hc))))))
  all_goals ((with_reducible apply At.retB1 (B := [])); exact rfl; exact rfl; exact zml; exact zkp; exact ⟨rfl, rfl⟩)
end Ru
end Go.Proofs.Ytgkgbdkcbbpjhaa
