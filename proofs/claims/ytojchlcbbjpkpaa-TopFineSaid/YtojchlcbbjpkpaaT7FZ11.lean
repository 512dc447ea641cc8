/- Part 11 of what the law's proof needs: rules of the walk, contracts of functions, plain laws. No condition. -/
import Derived.Test.YtojchlcbbjpkpaaT7FZ10
import Derived.WideShapes
import Derived.OpenShut
/- A law's arguments of any plain make: structs of whole numbers, truth values, texts, and slices, opened into their cells. -/
set_option linter.unusedSimpArgs false
set_option linter.unusedVariables false
set_option linter.unusedSectionVars false
set_option maxRecDepth 20000
namespace Go.J
open Go Go.ChangeShapes Go.WideShapes Go.ChangeAt Go.RowKit

inductive LK
  | int (k : IntKind)
  | bool
  | str
  | sl (t : TypeId)

section
variable {H : Type} {enc : TypeId × Value → H} {P : Program} {W : World}

def Fit1 (enc : TypeId × Value → H) (P : Program) (W : World) : LK → Value → Prop
  | .int k, v => ∃ a, v = .int k a ∧ (Lit.int k a).wf = true
  | .bool, v => ∃ b, v = .bool b
  | .str, v => ∃ l, v = .string (str l) ∧ l.length ≤ maxLen
  | .sl t, v => ∃ n y, DataW.trod enc P W 0 (fun _ => true) true n t [v] = some y
def Fit (enc : TypeId × Value → H) (P : Program) (W : World) : List LK → List Value → Prop
  | [], [] => True
  | k :: ks, v :: vs => Fit1 enc P W k v ∧ Fit enc P W ks vs
  | _, _ => False
theorem Fit.append : ∀ {a b : List LK} {x y : List Value}, Fit enc P W a x → Fit enc P W b y → Fit enc P W (a ++ b) (x ++ y)
  | [], _, [], _, _, h => h
  | _ :: _, _, _ :: _, _, ⟨h1, h2⟩, h => ⟨h1, Fit.append h2 h⟩
  | [], _, _ :: _, _, h, _ => h.elim
  | _ :: _, _, [], _, h, _ => h.elim

theorem Fit.cons {k : LK} {ks : List LK} {cs : List Value} (h : Fit enc P W (k :: ks) cs) : ∃ v vs, cs = v :: vs ∧ Fit1 enc P W k v ∧ Fit enc P W ks vs := by
  cases cs with
  | nil => exact h.elim
  | cons v vs => exact ⟨v, vs, rfl, h.1, h.2⟩
theorem Fit.nil {cs : List Value} (h : Fit enc P W [] cs) : cs = [] := by
  cases cs with
  | nil => rfl
  | cons v vs => exact h.elim
theorem Fit1.int {k : IntKind} {v : Value} (h : Fit1 enc P W (.int k) v) : ∃ a, v = .int k a ∧ (Lit.int k a).wf = true := h
theorem Fit1.bool {v : Value} (h : Fit1 enc P W .bool v) : ∃ b, v = .bool b := h
theorem Fit1.str {v : Value} (h : Fit1 enc P W .str v) : ∃ l, v = .string (J.str l) ∧ l.length ≤ maxLen := h

def leavesF (P : Program) (rec : TypeId → Option (List LK)) (total : Nat) : Nat → List Field → Option (List LK)
  | off, [] => match Nat.beq off total with
    | true => some []
    | false => none
  | off, f :: fs => match Nat.beq f.offset off with
    | true => match rec f.type with
      | some a => match leavesF P rec total (off + P.cellsOf f.type) fs with
        | some b => some (a ++ b)
        | none => none
      | none => none
    | false => none
def leavesB (P : Program) : Nat → TypeId → Option (List LK)
  | 0, _ => none
  | d + 1, t => match P.underlying t with
    | some (.int k) => some [.int k]
    | some .bool => some [.bool]
    | some .string => some [.str]
    | some (.slice _) => some [.sl t]
    | some (.struct fs) => leavesF P (leavesB P d) (P.cellsOf t) 0 fs.toList
    | some (.array n e) => match leavesB P d e with
      | some a => match Nat.beq (P.cellsOf t) (n * P.cellsOf e) with
        | true => some (List.replicate n a).flatten
        | false => none
      | none => none
    | _ => none

theorem trod_bool' {t : TypeId} {n : Nat} {cs : List Value} {x : DataW H × List MemPlace} (ht : P.underlying t = some .bool) (h : DataW.trod enc P W 0 (fun _ => true) true n t cs = some x) : ∃ b, cs = [.bool b] := by
  cases n with
  | zero => simp [DataW.trod] at h
  | succ n =>
    unfold DataW.trod at h
    rw [ht] at h
    split at h <;> simp_all

theorem trod_fit : ∀ (d n : Nat) (t : TypeId) (cs : List Value) (x : DataW H × List MemPlace) (ks : List LK), leavesB P d t = some ks → DataW.trod enc P W 0 (fun _ => true) true n t cs = some x → Fit enc P W ks cs
  | 0, _, _, _, _, _, h, _ => by cases h
  | d + 1, n, t, cs, x, ks, h, hx => by
    have ih := trod_fit d
    unfold leavesB at h
    cases hu : P.underlying t with
    | none => rw [hu] at h; cases h
    | some u =>
      rw [hu] at h
      cases u <;> simp only at h <;> try (cases h; done)
      case int k =>
        cases h
        obtain ⟨a, rfl, _, h3⟩ := DataW.trod_int hu hx
        exact ⟨⟨a, rfl, h3⟩, trivial⟩
      case bool =>
        cases h
        obtain ⟨b, rfl⟩ := trod_bool' hu hx
        exact ⟨⟨b, rfl⟩, trivial⟩
      case string =>
        cases h
        obtain ⟨s, rfl, _, h3⟩ := DataW.trod_string hu hx
        obtain ⟨l, rfl⟩ := str_of s
        exact ⟨⟨l, rfl, by rw [str_size] at h3; exact h3⟩, trivial⟩
      case slice e =>
        cases h
        have : ∃ v, cs = [v] := by
          rcases DataW.trod_slice hu hx with ⟨rfl, _⟩ | ⟨a, len, cap, _, _, _, _, rfl, _⟩
          · exact ⟨_, rfl⟩
          · exact ⟨_, rfl⟩
        obtain ⟨v, rfl⟩ := this
        exact ⟨⟨n, x, hx⟩, trivial⟩
      case array k e =>
        cases h1 : leavesB P d e with
        | none => rw [h1] at h; cases h
        | some a =>
          rw [h1] at h
          simp only at h
          cases hb : Nat.beq (P.cellsOf t) (k * P.cellsOf e) with
          | false => rw [hb] at h; cases h
          | true =>
            rw [hb] at h
            cases h
            have hl0 := Nat.eq_of_beq_eq_true hb
            obtain ⟨xs, m, _, _, hlen, hxl, hf⟩ := DataW.trod_array hu hx
            have key : ∀ i, i ≤ k → Fit enc P W ((List.replicate i a).flatten) (cs.drop ((k - i) * P.cellsOf e)) := by
              intro i
              induction i with
              | zero =>
                intro _
                rw [List.drop_eq_nil_of_le (by rw [hlen, hl0, Nat.sub_zero]; exact Nat.le_refl _)]
                trivial
              | succ i ih2 =>
                intro hi
                have e1 := hf (k - (i + 1)) (by omega)
                have hj : k - (i + 1) < xs.length := by omega
                rw [List.getElem?_eq_getElem hj] at e1
                have g1 := ih m e _ _ a h1 e1
                have g2 := ih2 (by omega)
                have e2 : (k - (i + 1)) * P.cellsOf e + P.cellsOf e = (k - i) * P.cellsOf e := by rw [← Nat.succ_mul]; congr 1; omega
                rw [List.replicate_succ, List.flatten_cons, show cs.drop ((k - (i + 1)) * P.cellsOf e) = (cs.drop ((k - (i + 1)) * P.cellsOf e)).take (P.cellsOf e) ++ cs.drop ((k - i) * P.cellsOf e) by
                  rw [← e2, ← List.drop_drop, List.take_append_drop]]
                exact Fit.append g1 g2
            have := key k (Nat.le_refl _)
            simpa using this
      case struct fs =>
        obtain ⟨xs, n', _, _, hlen, hxs, hf⟩ := DataW.trod_struct hu hx
        have hf' : ∀ f ∈ fs.toList, ∃ y, DataW.trod enc P W 0 (fun _ => true) true n' f.type ((cs.drop f.offset).take (P.cellsOf f.type)) = some y := fun f hm => by
          obtain ⟨i, hi, he⟩ := List.mem_iff_getElem.1 hm
          have hi' : i < fs.size := by simpa using hi
          have h1 : fs[i]? = some f := by
            rw [Array.getElem?_eq_getElem hi']
            congr 1
          exact ⟨xs[i], by rw [hf i f h1, List.getElem?_eq_getElem]⟩
        have key : ∀ (l : List Field) (off : Nat) (ks : List LK), (∀ f ∈ l, ∃ y, DataW.trod enc P W 0 (fun _ => true) true n' f.type ((cs.drop f.offset).take (P.cellsOf f.type)) = some y) →
            leavesF P (leavesB P d) (P.cellsOf t) off l = some ks → Fit enc P W ks (cs.drop off) := by
          intro l
          induction l with
          | nil =>
            intro off ks _ h
            unfold leavesF at h
            cases hb : Nat.beq off (P.cellsOf t) with
            | false => rw [hb] at h; cases h
            | true =>
              rw [hb] at h
              cases h
              have := Nat.eq_of_beq_eq_true hb
              rw [List.drop_eq_nil_of_le (by omega)]
              trivial
          | cons f l ihl =>
            intro off ks hl h
            unfold leavesF at h
            cases hb : Nat.beq f.offset off with
            | false => rw [hb] at h; cases h
            | true =>
              rw [hb] at h
              simp only at h
              have hoff := Nat.eq_of_beq_eq_true hb
              cases h1 : leavesB P d f.type with
              | none => rw [h1] at h; cases h
              | some a =>
                rw [h1] at h
                simp only at h
                cases h2 : leavesF P (leavesB P d) (P.cellsOf t) (off + P.cellsOf f.type) l with
                | none => rw [h2] at h; cases h
                | some b =>
                  rw [h2] at h
                  cases h
                  obtain ⟨y, hy⟩ := hl f (List.mem_cons_self ..)
                  rw [hoff] at hy
                  have g1 := ih n' f.type _ y a h1 hy
                  have g2 := ihl (off + P.cellsOf f.type) b (fun g hg => hl g (List.mem_cons_of_mem _ hg)) h2
                  rw [show cs.drop off = (cs.drop off).take (P.cellsOf f.type) ++ cs.drop (off + P.cellsOf f.type) by
                    rw [← List.drop_drop, List.take_append_drop]]
                  exact Fit.append g1 g2
        have := key fs.toList 0 ks hf' h
        simpa using this

/-- an element of a slice, by its leaves -/
theorem dec_flat {α : Type} {f : α → List Value} {φ : α → Prop} {e : TypeId} (ks : List LK) (hk : leavesB P 6 e = some ks) (h : ∀ cs, Fit enc P W ks cs → ∃ a, cs = f a ∧ φ a) :
    ∀ n cs' y, cs'.length = P.cellsOf e → DataW.trod enc P W 0 (fun _ => true) true n e cs' = some y → ∃ a, cs' = f a ∧ φ a := fun n cs' y _ hy =>
  h cs' (trod_fit 6 n e cs' y ks hk hy)
theorem dec_flat' {α : Type} {f : α → List Value} {φ : α → Prop} {e : TypeId} {sz : Nat} (ks : List LK) (hk : leavesB P 6 e = some ks) (h : ∀ cs, Fit enc P W ks cs → ∃ a, cs = f a ∧ φ a) :
    ∀ n cs' y, cs'.length = sz → DataW.trod enc P W 0 (fun _ => true) true n e cs' = some y → ∃ a, cs' = f a ∧ φ a := fun n cs' y _ hy =>
  h cs' (trod_fit 6 n e cs' y ks hk hy)
/-- an argument that is a struct -/
theorem open_flat_arg {α : Type} {f : α → List Value} {φ : α → Prop} {t : TypeId} {fs : Array Field} {base : Nat} {v : Value} {d : DataW H} {ps : List MemPlace} (ks : List LK) (ht : P.underlying t = some (.struct fs)) (hk : leavesB P 6 t = some ks)
    (h : ∀ cs, Fit enc P W ks cs → ∃ a, cs = f a ∧ φ a) {r : Reach} (hv : Value.okWide P W r base t v) (hx : DataW.Trod enc P W 0 (fun _ => true) true t v d ps) : ∃ a, v = .agg (f a).toArray ∧ φ a := by
  obtain ⟨cs, rfl, _⟩ := okWide_struct ht hv
  obtain ⟨fuel, hfl⟩ := hx
  obtain ⟨a, h1, h2⟩ := h _ (trod_fit 6 fuel t _ _ ks hk hfl)
  refine ⟨a, ?_, h2⟩
  have : cs.toList = f a := by simpa [Value.cells] using h1
  rw [← this]
/-- a slice that is part of something -/
theorem Fit1.sl {α : Type} [Inhabited α] {f : α → List Value} {sz : Nat} (hf : Fl f sz) (φ : α → Prop) {t e : TypeId} {v : Value} (ht : P.underlying t = some (.slice e)) (hc : P.cellsOf e = sz)
    (hdec : ∀ n cs' y, cs'.length = sz → DataW.trod enc P W 0 (fun _ => true) true n e cs' = some y → ∃ a, cs' = f a ∧ φ a) (h : Fit1 enc P W (.sl t) v) : ∃ p c l, v = .slice p l.length c ∧ Sl (memOf W) f sz p c l ∧ ∀ a ∈ l, φ a := by
  obtain ⟨n, y, hy⟩ := h
  obtain ⟨p, c, l, h1, h2⟩ := open_sl hf φ ht hc hdec hy
  exact ⟨p, c, l, by simpa using h1, h2⟩
end
end Go.J
/- A law's arguments that are events. -/
set_option linter.unusedSimpArgs false
set_option linter.unusedVariables false
set_option linter.unusedSectionVars false
set_option maxRecDepth 20000
set_option maxHeartbeats 4000000
namespace Go.Proofs.Ytojchlcbbjpkpaa
open Go Go.J
attribute [local irreducible] At AtQ AtM AtM1 PR Ct Pu Rd Res.blk Res.own Res.ex RVs RV
namespace Ev
def In (e : Ev) : Prop := -9223372036854775808 ≤ e.T ∧ e.T ≤ 9223372036854775807 ∧ e.V < 18446744073709551616 ∧ -9223372036854775808 ≤ e.C ∧ e.C ≤ 9223372036854775807
theorem dec_ev {H : Type} {enc : TypeId × Value → H} {P : Program} {W : World} : ∀ cs, Fit enc P W [.int .i64, .int .u64, .int .i64, .bool] cs → ∃ a : Ev, cs = a.cells ∧ In a := by
  intro cs h
  obtain ⟨_, _, rfl, h1, h⟩ := h.cons
  obtain ⟨_, _, rfl, h2, h⟩ := h.cons
  obtain ⟨_, _, rfl, h3, h⟩ := h.cons
  obtain ⟨_, _, rfl, h4, h⟩ := h.cons
  obtain rfl := h.nil
  obtain ⟨a, rfl, wa⟩ := h1.int
  obtain ⟨b, rfl, wb⟩ := h2.int
  obtain ⟨c, rfl, wc⟩ := h3.int
  obtain ⟨t, rfl⟩ := h4.bool
  have hb := bounds_u64 wb
  have ha := bounds_i64 wa
  have hc := bounds_i64 wc
  refine ⟨⟨a, b.toNat, c, t⟩, ?_, ha.1, ha.2, by show b.toNat < _; omega, hc.1, hc.2⟩
  show _ = [_, Value.int .u64 (b.toNat : Int), _, _]
  rw [Int.toNat_of_nonneg (by omega)]
end Ev
end Go.Proofs.Ytojchlcbbjpkpaa
/- TopSkipped: closing at a later window comes to the same as closing at an earlier one and going on from there. No condition. -/
set_option linter.unusedSimpArgs false
set_option linter.unusedVariables false
set_option linter.unusedSectionVars false
set_option maxRecDepth 20000
set_option maxHeartbeats 4000000
namespace Go.Proofs.Ytojchlcbbjpkpaa
open Go Go.J
attribute [local irreducible] At AtQ AtM AtM1 PR Ct Pu Rd Res.blk Res.own Res.ex RVs RV
namespace Cfg
open Go.RowKit
theorem dec_cfg {H : Type} {enc : TypeId × Value → H} {P : Program} {W : World} : ∀ cs, Go.J.Fit enc P W [.int .i64, .int .i64, .int .i64, .int .i64, .int .i64, .int .i64, .int .i64, .int .i64, .int .i64] cs → ∃ K : Cfg, cs = cells K ∧ True := by
  intro cs h
  obtain ⟨_, _, rfl, h0, h⟩ := h.cons
  obtain ⟨_, _, rfl, h1, h⟩ := h.cons
  obtain ⟨_, _, rfl, h2, h⟩ := h.cons
  obtain ⟨_, _, rfl, h3, h⟩ := h.cons
  obtain ⟨_, _, rfl, h4, h⟩ := h.cons
  obtain ⟨_, _, rfl, h5, h⟩ := h.cons
  obtain ⟨_, _, rfl, h6, h⟩ := h.cons
  obtain ⟨_, _, rfl, h7, h⟩ := h.cons
  obtain ⟨_, _, rfl, h8, h⟩ := h.cons
  obtain rfl := h.nil
  obtain ⟨x0, rfl, _⟩ := h0.int
  obtain ⟨x1, rfl, _⟩ := h1.int
  obtain ⟨x2, rfl, _⟩ := h2.int
  obtain ⟨x3, rfl, _⟩ := h3.int
  obtain ⟨x4, rfl, _⟩ := h4.int
  obtain ⟨x5, rfl, _⟩ := h5.int
  obtain ⟨x6, rfl, _⟩ := h6.int
  obtain ⟨x7, rfl, _⟩ := h7.int
  obtain ⟨x8, rfl, _⟩ := h8.int
  exact ⟨⟨x0, x1, x2, x3, x4, x5, x6, x7, x8⟩, rfl, trivial⟩
end Cfg
namespace T7
open Slot Win Ti Fo Gr
abbrev K0 : Cfg := ⟨20, 10, 20, 60, 4, 5, 6, 3, 9⟩
abbrev e0 : Ev := ⟨15, 2, 0, false⟩
abbrev s0 : Slot := ⟨1, Cell.one e0⟩
theorem good0 : Gr.Good [e0] := ⟨fun e he => by rw [List.mem_singleton.1 he]; exact ⟨by decide, by decide⟩, List.pairwise_singleton _ _⟩
theorem inv0 : Inv K0 [e0] (emp K0) s0 := by
  obtain ⟨T', o', -, c2, -, hN⟩ := (Inv.new (K := K0) Conf.fit_ok).step (e := e0) good0
  obtain ⟨rfl, rfl⟩ := c2 (fun h => absurd h.1 (by decide))
  exact hN
theorem seven : closeE K0 (emp K0) s0 2 = 0 ∧ getC (closeT K0 (emp K0) s0 2).a 1 = s0.c ∧ getC (closeT K0 (emp K0) s0 2).b 0 = s0.c := by
  obtain ⟨h1, T', h2, h3, h4, -⟩ := inv0.close (List.cons_ne_nil _ _) (j := 2) (by decide) (by decide)
  rw [h2]
  refine ⟨h1, getC_mem h3.ok (h3.cmp e0 (List.mem_singleton.2 rfl) (by decide) (by decide)) (by decide) (by decide), getC_mem h4.ok (h4.cmp e0 (List.mem_singleton.2 rfl) (by decide) (by decide)) (by decide) (by decide)⟩
set_option maxRecDepth 100000 in
theorem begins7 {m : Mem} : Rd Try.prog 5 #[] m [] (.bool true) := rd_le (by
  have k0 := fun (m : Mem) => empty (m := m) K0
  have k1 := fun (m : Mem) (t : TT) (ht : t.Ok m) (e : t.ls = emp K0) => close_ (m := m) K0 t s0 2 ht (Inv.inn inv0)
  have g1 := fun (m : Mem) (t : TT) (ht : t.Ok m) (e : getC t.a.l 1 = s0.c) => get_ (m := m) t.a.p t.a.c t.a.l 1 (by decide) ht.a.n ht.a.sl
  have g2 := fun (m : Mem) (t : TT) (ht : t.Ok m) (e : getC t.b.l 0 = s0.c) => get_ (m := m) t.b.p t.b.c t.b.l 0 (by decide) ht.b.n ht.b.sl
  replace k1 : ∀ (m : Mem) (t : TT), t.Ok m → t.ls = emp K0 → Ct Try.prog 13 #[K0.v, t.v, s0.v, .int .i64 2] m [] (fun v m' B => B = [] ∧ ∃ t' : TT, v = .tuple #[t'.v, .int .i64 0] ∧ t'.Ok m' ∧ getC t'.a.l 1 = s0.c ∧ getC t'.b.l 0 = s0.c) := fun m t ht e => Ct.mono (k1 m t ht e) fun v m' B _ ⟨h1, t', h2, h3, h4⟩ => by
    rw [e, seven.1] at h2
    rw [e] at h4
    exact ⟨h1, t', h2, h3, (congrArg (fun x => getC x.a 1) h4).trans seven.2.1, (congrArg (fun x => getC x.b 0) h4).trans seven.2.2⟩
  replace g1 : ∀ (m : Mem) (t : TT), t.Ok m → getC t.a.l 1 = s0.c → Rd _ _ _ _ _ s0.c.v := fun m t ht e => e ▸ g1 m t ht e
  replace g2 : ∀ (m : Mem) (t : TT), t.Ok m → getC t.b.l 0 = s0.c → Rd _ _ _ _ _ s0.c.v := fun m t ht e => e ▸ g2 m t ht e
  refine Ct.enterV (by rfl) Try.func5 rfl Try.ntmps5 rfl (fun w0 Rest => ?_)
  (repeat' (first | ((with_reducible apply At.mixed (id := 4) 11 (.q 0 (.q 1 (.q 3 (.b 2 8 (.b 4 8 (.q 5 (.q 6 (.q 7 (.l 8 (.x 9 (.q 10 .done)))))) (.l 4 (.q 5 (.q 6 (.q 7 (.x 9 (.q 10 .done))))))) (.l 2 (.l 4 (.q 5 (.q 6 (.q 7 (.x 9 (.q 10 .done)))))))))))); exact rfl; kernel_rfl; kernel_rfl; kernel_rfl) | refine zsx ?_ | refine zss ?_ | ((with_reducible apply AtM.bo); exact rfl; exact rfl; exact rfl) | ((first | (with_reducible first | apply At.val | apply AtQ.val) | ((with_reducible first | apply AtM1.valz | apply AtM1.val); exact rfl) | ((with_reducible apply AtM1.val); exact rfl)); (first | exact pr_indexArr (k := 0) (by rfl) (by rfl) (by rfl) (by rfl) (by decide) | exact pr_indexArr (k := 1) (by rfl) (by rfl) (by rfl) (by rfl) (by decide) | exact Cell.pr_ceq (a := s0.c) (b := s0.c) (by rfl) (by rfl)); exact rfl) | refine zsM ?_ | refine zxM ?_ | ((with_reducible first | apply AtM1.callp | apply AtQ.callp | apply At.callp); kernel_rfl; exact rfl; exact rfl; exact Conf.fit) | ((with_reducible first | apply At.c1 | apply At.c0); exact rfl; exact rfl; exact k0 _; exact ztk; kernel_rfl; rintro v' m' B' hm' ⟨rfl, t0, rfl, ht0, ht1⟩; skip; (try (have hq0 : hm' = Mem.le_refl _ := rfl; clear hq0 hm'))) | ((with_reducible first | apply At.c1 | apply At.c0); exact rfl; exact rfl; exact k1 _ t0 ht0 ht1; exact ztk; kernel_rfl; rintro v' m' B' hm' ⟨rfl, t2, rfl, hu0, hu1, hu2⟩; skip; (try (have hq0 : hm' = Mem.le_refl _ := rfl; clear hq0 hm'))) | ((with_reducible first | apply AtM1.cr | apply AtQ.cr | apply At.cr); exact rfl; exact rfl; exact fun _ hmm => g1 _ t2 (hu0.mono hmm) hu1; exact ztk; kernel_rfl) | ((with_reducible first | apply AtM1.cr | apply AtQ.cr | apply At.cr); exact rfl; exact rfl; exact fun _ hmm => g2 _ t2 (hu0.mono hmm) hu2; exact ztk; kernel_rfl) | ((with_reducible apply At.alloc (d := 1)); exact rfl; exact rfl; intro b1) | ((with_reducible apply At.alloc (d := 2)); exact rfl; exact rfl; intro b2) | ((with_reducible apply At.alloc (d := 3)); exact rfl; exact rfl; intro b3) | ((with_reducible apply At.alloc (d := 4)); exact rfl; exact rfl; intro b4) | (refine zsp ?_ ?_ <;> (intro hc; (try simp only [zhcs, reduceCtorEq] at hc); (try (exfalso; first | contradiction | omega | exact absurd rfl hc | exact absurd (by decide) hc))))))
  all_goals ((with_reducible apply At.retV (B := [])); exact rfl; (repeat' (first | exact RVs.nil | (with_reducible apply RVs.cons) | exact rv_tmp (by rfl) | exact rv_cellN (by rfl) (by repeat constructor) (by rfl) (by rfl) (by rfl) | exact rv_cell1 (by rfl) (by repeat constructor) (by rfl) (by rfl))); exact zml; exact zkp; exact ⟨rfl, zml, rfl⟩))
/-- what is asked first: the stack of a configuration, whether it is right and small, a cell of events -/
theorem len3 {m : Mem} {t : TT} (h : t.Ok m) : t.a.l.length ≤ 1000000 ∧ t.b.l.length ≤ 1000000 ∧ t.c.l.length ≤ 1000000 := ⟨h.a.n, h.b.n, h.c.n⟩
theorem chk3 {m : Mem} (K : Cfg) (t : TT) (ht : t.Ok m) (T : L3) (e : t.ls = T) (n : Int) (hn : Se.fchk K T.a T.b T.c = n) : Rd Try.prog 7 #[K.v, t.v] m [] (.int .i64 n) := by
  subst e hn
  exact Se.checkF K t.a t.b t.c ht.a.n ht.b.n ht.c.n ht.a.i ht.b.i ht.c.i ht.a.sl ht.b.sl ht.c.sl
theorem sml3 (t : TT) (T : L3) (e : t.ls = T) (n : Int) (hn : (if sml T then 1 else 0) = n) : Pu Try.prog 8 #[t.v] (.int .i64 n) := by
  subst e hn
  exact small t
theorem up3 {m : Mem} (K : Cfg) (t : TT) (i j : Int) (ho : t.Ok m) (T U : L3) (e : t.ls = T) (n : Int) (h1 : upE K T i j = n) (h2 : upT K T i j = U) :
    Ct Try.prog 14 #[K.v, t.v, .int .i64 i, .int .i64 j] m [] (fun v m' B => B = [] ∧ ∃ t' : TT, v = .tuple #[t'.v, .int .i64 n] ∧ t'.Ok m' ∧ t'.ls = U) := by
  subst e h1 h2
  exact up_ K t i j ho
theorem close3 {m : Mem} (K : Cfg) (t : TT) (s : Slot) (j : Int) (ho : t.Ok m) (hs : Slot.In s) (T U : L3) (e : t.ls = T) (n : Int) (h1 : closeE K T s j = n) (h2 : closeT K T s j = U) :
    Ct Try.prog 13 #[K.v, t.v, s.v, .int .i64 j] m [] (fun v m' B => B = [] ∧ ∃ t' : TT, v = .tuple #[t'.v, .int .i64 n] ∧ t'.Ok m' ∧ t'.ls = U) := by
  subst e h1 h2
  exact close_ K t s j ho hs
theorem good_of {l : List Ev} (hV : ∀ e ∈ l, e.V < 18446744073709551616) (h : Mrg.chk l = 0) : Gr.Good l := by
  obtain ⟨h1, h2⟩ := Mrg.chk_zero.1 h
  exact ⟨fun e he => ⟨h1 e he, hV e he⟩, h2⟩
set_option maxRecDepth 100000 in
theorem skipL {m : Mem} (K : Cfg) (p : Option Addr) (c : Nat) (l : List Ev) (i j : Int) (hV : ∀ e ∈ l, e.V < 18446744073709551616) (sl0 : Sl m Ev.cells 4 p c l) :
    Ct Try.prog 4 #[K.v, .slice p l.length c, .int .i64 i, .int .i64 j] m [] (fun v m' B => v = .bool true ∧ B = []) := by
  have hlv := fun (m' : Mem) (h : m.le m') => begins7 (m := m')
  have ke := fun (m : Mem) => empty (m := m) K
  have kc := fun (m' : Mem) (t : TT) (n : Int) (h : t.Ok m' ∧ t.ls = emp K) (hn : Se.fchk K (emp K).a (emp K).b (emp K).c = n) => chk3 (m := m') K t h.1 _ h.2 n hn
  by_cases h1 : Fo.fk K (emp K)
  rotate_left
  · have h1' : Se.fchk K (emp K).a (emp K).b (emp K).c = 2 := if_neg h1
    refine Ct.enterV (by rfl) Try.func4 rfl Try.ntmps4 rfl (fun w0 Rest => ?_)
    (repeat' (first | refine zss ?_ | refine zsM ?_ | ((with_reducible first | apply AtM1.cr | apply AtQ.cr | apply At.cr); exact rfl; exact rfl; exact fun _ hmm => hlv _ zml; exact ztk; kernel_rfl) | ((with_reducible first | apply At.c1 | apply At.c0); exact rfl; exact rfl; exact ke _; exact ztk; kernel_rfl; rintro v' m' B' hm' ⟨rfl, t0, rfl, ht0, ht1⟩; (try replace sl0 := sl0.mono hm'); (try (have hq0 : hm' = Mem.le_refl _ := rfl; clear hq0 hm'))) | ((with_reducible first | apply AtM1.cr | apply AtQ.cr | apply At.cr); exact rfl; exact rfl; exact fun _ hmm => kc _ t0 2 ⟨ht0.mono hmm, ht1⟩ h1'; exact ztk; kernel_rfl) | ((with_reducible apply At.box (d := 4)); exact rfl; exact rfl; exact rfl; intro b4) | ((with_reducible apply At.alloc (d := 9)); exact rfl; exact rfl; intro b9) | ((with_reducible apply At.alloc (d := 10)); exact rfl; exact rfl; intro b10) | ((with_reducible apply At.alloc (d := 12)); exact rfl; exact rfl; intro b12) | ((with_reducible apply At.alloc (d := 14)); exact rfl; exact rfl; intro b14) | ((with_reducible apply At.alloc (d := 16)); exact rfl; exact rfl; intro b16) | ((with_reducible apply At.alloc (d := 18)); exact rfl; exact rfl; intro b18) | (refine zsp ?_ ?_ <;> (intro hc; (try simp only [zhcs, reduceCtorEq] at hc); (try (exfalso; first | (first | omega | exact absurd rfl hc | exact absurd hc (by decide)) | contradiction | omega | exact absurd rfl hc | exact absurd (by decide) hc))))))
    all_goals ((with_reducible apply At.retB1 (B := [])); exact rfl; exact rfl; exact zml; exact zkp; exact ⟨rfl, rfl⟩)
  have h1' : Se.fchk K (emp K).a (emp K).b (emp K).c = 0 := if_pos h1
  by_cases h2 : sml (emp K)
  rotate_left
  · have ks := fun (t : TT) (h : t.ls = emp K) => sml3 t _ h 0 (if_neg h2)
    refine Ct.enterV (by rfl) Try.func4 rfl Try.ntmps4 rfl (fun w0 Rest => ?_)
    (repeat' (first | refine zss ?_ | refine zsM ?_ | ((with_reducible first | apply AtM1.cr | apply AtQ.cr | apply At.cr); exact rfl; exact rfl; exact fun _ hmm => hlv _ zml; exact ztk; kernel_rfl) | ((with_reducible first | apply At.c1 | apply At.c0); exact rfl; exact rfl; exact ke _; exact ztk; kernel_rfl; rintro v' m' B' hm' ⟨rfl, t0, rfl, ht0, ht1⟩; (try replace sl0 := sl0.mono hm'); (try (have hq0 : hm' = Mem.le_refl _ := rfl; clear hq0 hm'))) | ((with_reducible first | apply AtM1.cr | apply AtQ.cr | apply At.cr); exact rfl; exact rfl; exact fun _ hmm => kc _ t0 0 ⟨ht0.mono hmm, ht1⟩ h1'; exact ztk; kernel_rfl) | ((with_reducible first | apply AtM1.callp | apply AtQ.callp | apply At.callp); kernel_rfl; exact rfl; exact rfl; exact ks t0 ht1) | ((with_reducible apply At.box (d := 4)); exact rfl; exact rfl; exact rfl; intro b4) | ((with_reducible apply At.alloc (d := 9)); exact rfl; exact rfl; intro b9) | ((with_reducible apply At.alloc (d := 10)); exact rfl; exact rfl; intro b10) | ((with_reducible apply At.alloc (d := 12)); exact rfl; exact rfl; intro b12) | ((with_reducible apply At.alloc (d := 14)); exact rfl; exact rfl; intro b14) | ((with_reducible apply At.alloc (d := 16)); exact rfl; exact rfl; intro b16) | ((with_reducible apply At.alloc (d := 18)); exact rfl; exact rfl; intro b18) | (refine zsp ?_ ?_ <;> (intro hc; (try simp only [zhcs, reduceCtorEq] at hc); (try (exfalso; first | (first | omega | exact absurd rfl hc | exact absurd hc (by decide)) | contradiction | omega | exact absurd rfl hc | exact absurd (by decide) hc))))))
    all_goals ((with_reducible apply At.retB1 (B := [])); exact rfl; exact rfl; exact zml; exact zkp; exact ⟨rfl, rfl⟩)
  have ks := fun (t : TT) (h : t.ls = emp K) => sml3 t _ h 1 (if_pos h2)
  by_cases h3 : l.length ≤ 60
  rotate_left
  · refine Ct.enterV (by rfl) Try.func4 rfl Try.ntmps4 rfl (fun w0 Rest => ?_)
    (repeat' (first | refine zss ?_ | refine zsM ?_ | ((with_reducible first | apply AtM1.cr | apply AtQ.cr | apply At.cr); exact rfl; exact rfl; exact fun _ hmm => hlv _ zml; exact ztk; kernel_rfl) | ((with_reducible first | apply At.c1 | apply At.c0); exact rfl; exact rfl; exact ke _; exact ztk; kernel_rfl; rintro v' m' B' hm' ⟨rfl, t0, rfl, ht0, ht1⟩; (try replace sl0 := sl0.mono hm'); (try (have hq0 : hm' = Mem.le_refl _ := rfl; clear hq0 hm'))) | ((with_reducible first | apply AtM1.cr | apply AtQ.cr | apply At.cr); exact rfl; exact rfl; exact fun _ hmm => kc _ t0 0 ⟨ht0.mono hmm, ht1⟩ h1'; exact ztk; kernel_rfl) | ((with_reducible first | apply AtM1.callp | apply AtQ.callp | apply At.callp); kernel_rfl; exact rfl; exact rfl; exact ks t0 ht1) | ((with_reducible apply At.box (d := 4)); exact rfl; exact rfl; exact rfl; intro b4) | ((with_reducible apply At.alloc (d := 9)); exact rfl; exact rfl; intro b9) | ((with_reducible apply At.alloc (d := 10)); exact rfl; exact rfl; intro b10) | ((with_reducible apply At.alloc (d := 12)); exact rfl; exact rfl; intro b12) | ((with_reducible apply At.alloc (d := 14)); exact rfl; exact rfl; intro b14) | ((with_reducible apply At.alloc (d := 16)); exact rfl; exact rfl; intro b16) | ((with_reducible apply At.alloc (d := 18)); exact rfl; exact rfl; intro b18) | (refine zsp ?_ ?_ <;> (intro hc; (try simp only [zhcs, reduceCtorEq] at hc); (try (exfalso; first | (first | omega | exact absurd rfl hc | exact absurd hc (by decide)) | contradiction | omega | exact absurd rfl hc | exact absurd (by decide) hc))))))
    all_goals ((with_reducible apply At.retB1 (B := [])); exact rfl; exact rfl; exact zml; exact zkp; exact ⟨rfl, rfl⟩)
  have hl : l.length ≤ 1000000 := by omega
  have kf := fun (m' : Mem) (h : m.le m') => Cell.of_ (m := m') p c l hl hV (sl0.mono h)
  by_cases h4 : Mrg.chk l = 0
  rotate_left
  · have e4 : Cell.ofL l = (Cell.z, Mrg.chk l) := if_pos h4
    rw [e4] at kf
    generalize Mrg.chk l = n at *
    refine Ct.enterV (by rfl) Try.func4 rfl Try.ntmps4 rfl (fun w0 Rest => ?_)
    (repeat' (first | refine zss ?_ | refine zsM ?_ | ((with_reducible first | apply AtM1.cr | apply AtQ.cr | apply At.cr); exact rfl; exact rfl; exact fun _ hmm => hlv _ zml; exact ztk; kernel_rfl) | ((with_reducible first | apply At.c1 | apply At.c0); exact rfl; exact rfl; exact ke _; exact ztk; kernel_rfl; rintro v' m' B' hm' ⟨rfl, t0, rfl, ht0, ht1⟩; (try replace sl0 := sl0.mono hm'); (try (have hq0 : hm' = Mem.le_refl _ := rfl; clear hq0 hm'))) | ((with_reducible first | apply AtM1.cr | apply AtQ.cr | apply At.cr); exact rfl; exact rfl; exact fun _ hmm => kc _ t0 0 ⟨ht0.mono hmm, ht1⟩ h1'; exact ztk; kernel_rfl) | ((with_reducible first | apply AtM1.callp | apply AtQ.callp | apply At.callp); kernel_rfl; exact rfl; exact rfl; exact ks t0 ht1) | ((with_reducible first | apply At.c1 | apply At.c0); exact rfl; exact rfl; exact kf _ zml; exact ztk; kernel_rfl; rintro v' m' B' hm' ⟨rfl, rfl, rfl⟩; (try replace sl0 := sl0.mono hm'); (try (have hq0 : hm' = Mem.le_refl _ := rfl; clear hq0 hm'))) | ((with_reducible apply At.box (d := 4)); exact rfl; exact rfl; exact rfl; intro b4) | ((with_reducible apply At.alloc (d := 9)); exact rfl; exact rfl; intro b9) | ((with_reducible apply At.alloc (d := 10)); exact rfl; exact rfl; intro b10) | ((with_reducible apply At.alloc (d := 12)); exact rfl; exact rfl; intro b12) | ((with_reducible apply At.alloc (d := 14)); exact rfl; exact rfl; intro b14) | ((with_reducible apply At.alloc (d := 16)); exact rfl; exact rfl; intro b16) | ((with_reducible apply At.alloc (d := 18)); exact rfl; exact rfl; intro b18) | (refine zsp ?_ ?_ <;> (intro hc; (try simp only [zhcs, reduceCtorEq] at hc); (try (exfalso; first | (first | omega | exact absurd rfl hc | exact absurd hc (by decide) | exact absurd hc h4) | contradiction | omega | exact absurd rfl hc | exact absurd (by decide) hc))))))
    all_goals ((with_reducible apply At.retB1 (B := [])); exact rfl; exact rfl; exact zml; exact zkp; exact ⟨rfl, rfl⟩)
  have e4 : Cell.ofL l = (l.foldl Cell.add Cell.z, 0) := if_neg (fun k => k h4)
  rw [e4] at kf
  have hG := good_of hV h4
  have kst := fun (m' : Mem) (h : m.le m') => stacked (m := m') K p c l h1.1 hG hl (sl0.mono h)
  clear e4 h4
  generalize l.foldl Cell.add Cell.z = x at kf
  refine Ct.enterV (by rfl) Try.func4 rfl Try.ntmps4 rfl (fun w0 Rest => ?_)
  (repeat' (first | (refine At.cutp (id := 12) ((i < 0 ∨ j < i) ∨ (0 < o.c.n ∧ i ≤ o.w)) 72 [2, 3, 4, 9, 12] (by rfl) ?_ ?_) | refine zss ?_ | refine zsM ?_ | ((with_reducible first | apply AtM1.cr | apply AtQ.cr | apply At.cr); exact rfl; exact rfl; exact fun _ hmm => hlv _ zml; exact ztk; kernel_rfl) | ((with_reducible first | apply At.c1 | apply At.c0); exact rfl; exact rfl; exact ke _; exact ztk; kernel_rfl; rintro v' m' B' hm' ⟨rfl, t0, rfl, ht0, ht1⟩; (try replace sl0 := sl0.mono hm'); (try (have hq0 : hm' = Mem.le_refl _ := rfl; clear hq0 hm'))) | ((with_reducible first | apply AtM1.cr | apply AtQ.cr | apply At.cr); exact rfl; exact rfl; exact fun _ hmm => kc _ t0 0 ⟨ht0.mono hmm, ht1⟩ h1'; exact ztk; kernel_rfl) | ((with_reducible first | apply AtM1.callp | apply AtQ.callp | apply At.callp); kernel_rfl; exact rfl; exact rfl; exact ks t0 ht1) | ((with_reducible first | apply At.c1 | apply At.c0); exact rfl; exact rfl; exact kf _ zml; exact ztk; kernel_rfl; rintro v' m' B' hm' ⟨rfl, rfl, rfl⟩; (try replace sl0 := sl0.mono hm'); (try (have hq0 : hm' = Mem.le_refl _ := rfl; clear hq0 hm'))) | ((with_reducible first | apply At.c1 | apply At.c0); exact rfl; exact rfl; exact kst _ zml; exact ztk; kernel_rfl; rintro v' m' B' hm' ⟨rfl, t1, o, rfl, hu, hI⟩; (try replace sl0 := sl0.mono hm'); (try (have hq0 : hm' = Mem.le_refl _ := rfl; clear hq0 hm'))) | ((with_reducible apply At.endp); exact rfl; exact zsubs; exact zml; exact zente; (first | (simp_all; done) | (simp_all <;> omega))) | ((with_reducible apply At.box (d := 4)); exact rfl; exact rfl; exact rfl; intro b4) | ((with_reducible apply At.alloc (d := 9)); exact rfl; exact rfl; intro b9) | ((with_reducible apply At.alloc (d := 10)); exact rfl; exact rfl; intro b10) | ((with_reducible apply At.alloc (d := 12)); exact rfl; exact rfl; intro b12) | ((with_reducible apply At.alloc (d := 14)); exact rfl; exact rfl; intro b14) | ((with_reducible apply At.alloc (d := 16)); exact rfl; exact rfl; intro b16) | ((with_reducible apply At.alloc (d := 18)); exact rfl; exact rfl; intro b18) | (refine zsp ?_ ?_ <;> (intro hc; (try simp only [zhcs, reduceCtorEq] at hc); (try (exfalso; first | (first | omega | exact absurd rfl hc | exact absurd hc (by decide)) | contradiction | omega | exact absurd rfl hc | exact absurd (by decide) hc))))))
  · ((with_reducible apply At.retB1 (B := [])); exact rfl; exact rfl; exact zml; exact zkp; exact ⟨rfl, rfl⟩)
  have h5 : ¬ ((i < 0 ∨ j < i) ∨ (0 < o.c.n ∧ i ≤ o.w)) := by assumption
  have h6 : ¬ (0 < o.c.n ∧ i ≤ o.w) := fun k => h5 (.inr k)
  have hij : 0 ≤ i ∧ i ≤ j := by omega
  have hio := Inv.inn hI
  have hq : IntKind.wrap .i64 ((35184372088831 : Int).tdiv K.a) = 35184372088831 / K.a := by
    have ha := h1.1.ha
    rw [Int.tdiv_eq_ediv_of_nonneg (by decide)]
    have g1 := Int.ediv_le_self K.a (show (0 : Int) ≤ 35184372088831 by decide)
    have g2 := Int.ediv_nonneg (show (0 : Int) ≤ 35184372088831 by decide) (show 0 ≤ K.a by omega)
    exact IntWalk.i64_in _ (by omega)
  have hKa : K.a ≠ 0 := by have := h1.1.ha; omega
  cases hb : bgn K.a j with
  | false =>
    have hbn : 35184372088831 / K.a < j := by have := of_decide_eq_false hb; omega
    have hup : upE K (closeT K t1.ls o i) i j ≠ 0 := bgn_no hb
    have k1 := fun (m2 : Mem) (h : m'.le m2) => close3 (m := m2) K t1 o j (hu.mono h) hio _ _ rfl _ rfl rfl
    have k2 := fun (m2 : Mem) (h : m'.le m2) => close3 (m := m2) K t1 o i (hu.mono h) hio _ _ rfl _ rfl rfl
    have k3 := fun (m2 : Mem) (t3 : TT) (h : t3.Ok m2) (e : t3.ls = closeT K t1.ls o i) => up3 (m := m2) K t3 i j h _ _ e _ rfl rfl
    clear hlv ke kc ks kf kst hI hio hb hV h6 h5
    generalize closeE K t1.ls o j = E1 at k1
    generalize closeE K t1.ls o i = E2 at k2
    generalize closeT K t1.ls o j = T1 at k1
    generalize closeT K t1.ls o i = T2 at k2 k3 hup
    generalize upE K T2 i j = E3 at k3 hup
    generalize upT K T2 i j = T3 at k3
    generalize (35184372088831 : Int) / K.a = e at *
    (repeat' (first | refine zss ?_ | ((first | (with_reducible first | apply At.val | apply AtQ.val)); (first | exact pr_indexArr (k := 0) (by rfl) (by rfl) (by rfl) (by rfl) (by decide) | exact pr_quo (by rfl) (by rfl) hKa hq); exact rfl) | refine zsM ?_ | ((with_reducible first | apply At.c1 | apply At.c0); exact rfl; exact rfl; exact k1 _ zml; exact ztk; kernel_rfl; rintro v' m' B' hm' ⟨rfl, t2, rfl, hu2, e2⟩; (try replace sl0 := sl0.mono hm'); (try (have hq0 : hm' = Mem.le_refl _ := rfl; clear hq0 hm'))) | ((with_reducible first | apply At.c1 | apply At.c0); exact rfl; exact rfl; exact k2 _ zml; exact ztk; kernel_rfl; rintro v' m' B' hm' ⟨rfl, t3, rfl, hu3, e3⟩; (try replace sl0 := sl0.mono hm'); (try (have hq0 : hm' = Mem.le_refl _ := rfl; clear hq0 hm'))) | ((with_reducible first | apply At.c1 | apply At.c0); exact rfl; exact rfl; exact k3 _ t3 (hu3.mono zml) e3; exact ztk; kernel_rfl; rintro v' m' B' hm' ⟨rfl, t4, rfl, hu4, e4⟩; (try replace sl0 := sl0.mono hm'); (try (have hq0 : hm' = Mem.le_refl _ := rfl; clear hq0 hm'))) | ((with_reducible apply At.box (d := 4)); exact rfl; exact rfl; exact rfl; intro b4) | ((with_reducible apply At.alloc (d := 9)); exact rfl; exact rfl; intro b9) | ((with_reducible apply At.alloc (d := 10)); exact rfl; exact rfl; intro b10) | ((with_reducible apply At.alloc (d := 12)); exact rfl; exact rfl; intro b12) | ((with_reducible apply At.alloc (d := 14)); exact rfl; exact rfl; intro b14) | ((with_reducible apply At.alloc (d := 16)); exact rfl; exact rfl; intro b16) | ((with_reducible apply At.alloc (d := 18)); exact rfl; exact rfl; intro b18) | (refine zsp ?_ ?_ <;> (intro hc; (try simp only [zhcs, reduceCtorEq] at hc); (try (exfalso; first | (first | omega | exact absurd hc hup) | contradiction | omega | exact absurd rfl hc | exact absurd (by decide) hc))))))
    all_goals ((with_reducible apply At.retB1 (B := [])); exact rfl; exact rfl; exact zml; exact zkp; exact ⟨by first | rfl | (simp [hup]; done), rfl⟩)
  | true =>
    have hbn : ¬ 35184372088831 / K.a < j := by have := of_decide_eq_true hb; omega
    obtain ⟨x1, x2, x3, x4, x5⟩ := hI.skip hij.1 hij.2 hb h6
    have k1 := fun (m2 : Mem) (h : m'.le m2) => close3 (m := m2) K t1 o j (hu.mono h) hio _ _ rfl _ x1 rfl
    have k2 := fun (m2 : Mem) (h : m'.le m2) => close3 (m := m2) K t1 o i (hu.mono h) hio _ _ rfl _ x2 rfl
    have k3 := fun (m2 : Mem) (t3 : TT) (h : t3.Ok m2) (e : t3.ls = closeT K t1.ls o i) => up3 (m := m2) K t3 i j h _ _ e _ x3 x4
    have k4 := fun (m2 : Mem) (t3 : TT) (h : t3.Ok m2) (e : t3.ls = closeT K t1.ls o j) => chk3 (m := m2) K t3 h _ e 0 (if_pos x5)
    have k5 := fun (m2 : Mem) (t3 t4 : TT) (h : t3.Ok m2 ∧ t4.Ok m2) (e1 : t3.ls = closeT K t1.ls o j) (e2 : t4.ls = closeT K t1.ls o j) => same3 (m := m2) t4 t3 h.2 h.1 (e2.trans e1.symm)
    clear hlv ke kc ks kf kst hI hio hb hV h6 h5 x1 x2 x3 x4 x5
    generalize closeT K t1.ls o j = T1 at k1 k3 k4 k5
    generalize closeT K t1.ls o i = T2 at k2 k3
    generalize (35184372088831 : Int) / K.a = e at *
    (repeat' (first | refine zss ?_ | ((first | (with_reducible first | apply At.val | apply AtQ.val)); (first | exact pr_indexArr (k := 0) (by rfl) (by rfl) (by rfl) (by rfl) (by decide) | exact pr_quo (by rfl) (by rfl) hKa hq); exact rfl) | refine zsM ?_ | ((with_reducible first | apply At.c1 | apply At.c0); exact rfl; exact rfl; exact k1 _ zml; exact ztk; kernel_rfl; rintro v' m' B' hm' ⟨rfl, t2, rfl, hu2, e2⟩; (try replace sl0 := sl0.mono hm'); (try (have hq0 : hm' = Mem.le_refl _ := rfl; clear hq0 hm'))) | ((with_reducible first | apply At.c1 | apply At.c0); exact rfl; exact rfl; exact k2 _ zml; exact ztk; kernel_rfl; rintro v' m' B' hm' ⟨rfl, t3, rfl, hu3, e3⟩; (try replace sl0 := sl0.mono hm'); (try (have hq0 : hm' = Mem.le_refl _ := rfl; clear hq0 hm'))) | ((with_reducible first | apply At.c1 | apply At.c0); exact rfl; exact rfl; exact k3 _ t3 (hu3.mono zml) e3; exact ztk; kernel_rfl; rintro v' m' B' hm' ⟨rfl, t4, rfl, hu4, e4⟩; (try replace sl0 := sl0.mono hm'); (try (have hq0 : hm' = Mem.le_refl _ := rfl; clear hq0 hm'))) | ((with_reducible first | apply AtM1.cr | apply AtQ.cr | apply At.cr); exact rfl; exact rfl; exact fun _ hmm => k5 _ t2 t4 ⟨hu2.mono (Mem.le_trans zml hmm), hu4.mono (Mem.le_trans zml hmm)⟩ e2 e4; exact ztk; kernel_rfl) | ((with_reducible first | apply AtM1.cr | apply AtQ.cr | apply At.cr); exact rfl; exact rfl; exact fun _ hmm => k4 _ t2 (hu2.mono (Mem.le_trans zml hmm)) e2; exact ztk; kernel_rfl) | ((with_reducible apply At.box (d := 4)); exact rfl; exact rfl; exact rfl; intro b4) | ((with_reducible apply At.alloc (d := 9)); exact rfl; exact rfl; intro b9) | ((with_reducible apply At.alloc (d := 10)); exact rfl; exact rfl; intro b10) | ((with_reducible apply At.alloc (d := 12)); exact rfl; exact rfl; intro b12) | ((with_reducible apply At.alloc (d := 14)); exact rfl; exact rfl; intro b14) | ((with_reducible apply At.alloc (d := 16)); exact rfl; exact rfl; intro b16) | ((with_reducible apply At.alloc (d := 18)); exact rfl; exact rfl; intro b18) | (refine zsp ?_ ?_ <;> (intro hc; (try simp only [zhcs, reduceCtorEq] at hc); (try (exfalso; first | (first | omega | exact absurd rfl hc | exact absurd hc (by decide)) | contradiction | omega | exact absurd rfl hc | exact absurd (by decide) hc))))))
    all_goals ((with_reducible apply At.retB1 (B := [])); exact rfl; exact rfl; exact zml; exact zkp; exact ⟨by first | rfl | (simp; done), rfl⟩)
end T7
namespace TopSkippedL
open Go.ChangeShapes Go.WideShapes Go.ChangeAt Go.RowKit
open Go.ChangeMaps (open_string shut_string)
theorem own : ownKnob Try.prog.godebug = none := by kernel_rfl
theorem laidOut : laidOutB Try.prog = true := by kernel_rfl
set_option maxRecDepth 100000 in
theorem lifted (os : Os) (started : os.Started) (H : Type) (enc : TypeId × Value → H) :
    ReturnsInHanded {} Try.checked os 4 .any (Rows.topSkippedSpec.pre6 enc Try.prog Try.f4 Rows.topSkippedRow.domain false) (Rows.topSkippedSpec.post enc Try.prog Try.f4 false true false false) := by
  refine returnsInHanded_of_change (C := Try.checked) own started (by kernel_rfl) Try.func4
    (ChangeSpec.witness6 (enc := enc) (C := Try.checked) false ⟨#[], #[.agg #[.int .i64 0, .int .i64 0, .int .i64 0, .int .i64 0, .int .i64 0, .int .i64 0, .int .i64 0, .int .i64 0, .int .i64 0], .slice none 0 0, .int .i64 0, .int .i64 0], []⟩ 8 (by kernel_rfl) (by kernel_rfl) (by kernel_rfl) (by kernel_rfl)) ?_
  intro W base args ds gs before hval0 hW hcnd _
  have hval : ∀ (j : Nat) t v, Try.f4.params[j]? = some t → args[j]? = some v → Value.okWide Try.prog W .any base t v := hval0
  have hW' := hW
  obtain ⟨p, q, hA0, hV, rfl, hfz, hnd⟩ := hW
  have hA : DataW.TrodAll enc Try.prog W 0 (fun _ => true) true Try.f4.params.toList args.toList ds p := hA0
  rw [Try.params4] at hA hval
  obtain ⟨rfl, rfl⟩ := trodVars_none hV
  have hlt : ∀ x ∈ p, x.block < W.heap.size := fun x hx => hW'.lt x (by simpa using hx)
  have hback := fun (W' : World) (bel : Below W.heap.size W W') => trodAll_below laidOut bel _ _ _ _ (by kernel_rfl) hA hlt
  obtain ⟨v0, vs0, d0, ds0, p0, q0, hargs, rfl, rfl, h0, r0⟩ := trodAll_cons hA
  obtain ⟨v1, vs1, d1, ds1, p1, q1, rfl, rfl, rfl, h1, r1⟩ := trodAll_cons r0
  obtain ⟨v2, vs2, d2, ds2, p2, q2, rfl, rfl, rfl, h2, r2⟩ := trodAll_cons r1
  obtain ⟨v3, vs3, d3, ds3, p3, q3, rfl, rfl, rfl, h3, r3⟩ := trodAll_cons r2
  obtain ⟨rfl, rfl, rfl⟩ := trodAll_nil r3
  obtain rfl : args = #[v0, v1, v2, v3] := by cases args; simp_all
  obtain ⟨a0, rfl, w0⟩ := open_flat_arg (f := Cfg.cells) (φ := fun _ => True) [.int .i64, .int .i64, .int .i64, .int .i64, .int .i64, .int .i64, .int .i64, .int .i64, .int .i64] Try.underlying25 (by kernel_rfl) Cfg.dec_cfg (hval 0 25 v0 rfl rfl) h0
  obtain ⟨p1, c1, a1, rfl, s1, w1⟩ := open_sl_arg (f := Ev.cells) (sz := 4) inferInstance (Ev.In) Try.underlying26 (by rfl) (dec_flat' [.int .i64, .int .u64, .int .i64, .bool] (by kernel_rfl) Ev.dec_ev) (okWide_slice Try.underlying26 (hval 1 26 v1 rfl rfl)) h1
  obtain ⟨a2, rfl, rfl, rfl, w2⟩ := open_int Try.underlying2 (hval 2 2 v2 rfl rfl) h2
  obtain ⟨a3, rfl, rfl, rfl, w3⟩ := open_int Try.underlying2 (hval 3 2 v3 rfl rfl) h3
  refine (law_calls (Ct.mono (T7.skipL (m := memOf W) a0 p1 c1 a1 a2 a3 (fun e he => (w1 e he).2.2.1) s1) fun v m' B _ h => h.1)).mono fun e W' ⟨he, bel⟩ => ?_
  subst he
  exact ⟨_, rfl, _, _, _, [], _, [], hW', trodAll_mk1 (shut_bool Try.underlying4 _), hback W' bel, rfl, bel.frame _, fun h => by cases h⟩
theorem over : Rows.topSkippedRow.holds Try.pinned (OpenSpec.ofChange Rows.topSkippedSpec) :=
  OpenClaim.holds_of_wide 4 Try.f4 rfl rfl rfl rfl rfl rfl rfl ⟨rfl, rfl, rfl, rfl, rfl⟩ rfl rfl rfl rfl rfl (by kernel_rfl) Try.func4 (by kernel_rfl)
    (of_decide_eq_true (by kernel_rfl)) (by unfold Func.isWrapper; first | (rw [if_pos (by decide +kernel)]; kernel_rfl) | (rw [if_neg (by decide +kernel)]; exact ⟨rfl, rfl⟩))
    (fun os started H enc _ => lifted os started H enc)
theorem proved : Rows.TopSkippedSaid := over
end TopSkippedL
end Go.Proofs.Ytojchlcbbjpkpaa
/- Stacks of tiers in plain words: what a kept window says of the events in it, and of the tier below. -/
set_option linter.unusedSimpArgs false
set_option linter.unusedVariables false
set_option linter.unusedSectionVars false
set_option maxRecDepth 20000
set_option maxHeartbeats 4000000
namespace Go.Proofs.Ytojchlcbbjpkpaa
open Go Go.J
namespace Gr
open Cell Ti Fo
theorem getLast_snoc {α : Type} {l a : List α} {x : α} (h : l ≠ []) (e : l = a ++ [x]) : l.getLast h = x := by
  subst e
  exact List.getLast_concat
theorem win_getLast {es : List Ev} (h : es ≠ []) {w : Int} (hn : win w (lastT es / w) es ≠ []) : (win w (lastT es / w) es).getLast hn = es.getLast h := by
  have e : es = es.dropLast ++ [es.getLast h] := (List.dropLast_concat_getLast h).symm
  have hl : (es.getLast h).T / w = lastT es / w := by rw [lastT_get h]
  have : win w (lastT es / w) es = win w (lastT es / w) es.dropLast ++ [es.getLast h] := by
    have := win_snoc' (es := es.dropLast) hl
    rwa [← e] at this
  exact getLast_snoc hn this
theorem Inv.lastC {K : Cfg} {es : List Ev} {T : L3} {o : Slot} (h : Inv K es T o) (hn : es ≠ []) : o.c.L.T = lastT es := by
  have hw := win_last hn K.a
  obtain ⟨-, -, -, e⟩ := cel_full (h.g.sub (win_sub K.a (lastT es / K.a) es)) hw
  rw [(h.open_ hn).1]
  show (cel _).L.T = _
  rw [e, win_getLast hn hw, lastT_get hn]
/-- a window that a tier has -/
theorem Lv.at {w n c : Int} {es : List Ev} {l : List Slot} (h : Lv w n es c l) {x : Slot} (hx : x ∈ alls l) : Full x.c ∧ x.c = G w es x.w ∧ x.w < c ∧ 0 ≤ x.w ∧ es ≠ [] := by
  obtain ⟨hm, hk⟩ := alls_mem.1 hx
  obtain ⟨h1, h2⟩ := h.snd x hm hk
  obtain ⟨i, hi, ei⟩ := List.mem_iff_getElem.1 hm
  have ok := h.ok.2.2 i hi
  unfold okS at ok
  rw [getElem!_pos l i hi, ei] at ok
  have hf := fits_i (ok.resolve_left (keep_ne.1 hk)).2
  refine ⟨hf.2.2.1, h2, h1, hf.1, fun e => ?_⟩
  rw [e] at h2
  have h3 : x.c = z := h2
  have h4 := hf.2.2.1
  rw [h3] at h4
  exact absurd rfl h4.ne
theorem fold_fine {w n f x L : Int} {es : List Ev} {l : List Slot} (h : Lv w n es (L / w) l) (hG : Good es) (hw : 1 ≤ w) (hww : w ≤ 1099511627776) (hf : 1 ≤ f) (hx : 0 ≤ x) (hL : x < L / (w * f)) (hk : ¬ x * f ≤ L / w - n) :
    foldC l (x * f) ((x + 1) * f) = (G (w * f) es x, 0) := by
  refine foldC_win (by omega) (by omega) hx hG h.ok (fun s hs ks => (h.snd s hs ks).2) fun e he h1 => ?_
  rw [div_div (by omega), div_range (by omega)] at h1
  rw [div_div (by omega)] at hL
  have h2 : e.T / w < L / w := by
    have h3 := Int.ediv_mul_le (L / w) (show f ≠ 0 by omega)
    have h4 : (x + 1) * f ≤ L / w / f * f := Int.mul_le_mul_of_nonneg_right (by omega) (by omega)
    omega
  refine ⟨_, h.cmp e he (by omega) h2, keep_full (cel_full (hG.sub (win_sub _ _ _)) fun h0 => ?_).1, rfl⟩
  have : e ∈ win w (e.T / w) es := win_mem.2 ⟨he, rfl⟩
  rw [h0] at this
  exact absurd this List.not_mem_nil
/-- counting the events of a window -/
theorem cnt_snoc {w i : Int} {l : List Ev} {k : Nat} (h : k < l.length) : ((win w i (l.take (k + 1))).length : Int) = (win w i (l.take k)).length + if (l[k]!).T / w = i then 1 else 0 := by
  rw [Ls.take_snoc h]
  by_cases e : (l[k]!).T / w = i
  · rw [win_snoc' e, if_pos e, List.length_append, List.length_singleton]; omega
  · rw [win_snoc e, if_neg e]; omega
end Gr
end Go.Proofs.Ytojchlcbbjpkpaa
