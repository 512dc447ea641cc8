/- The rules of the single operations that leave the world as it is. -/
import Derived.Test.YtjncahmbllmllaaJ1
set_option linter.unusedSimpArgs false
set_option linter.unusedVariables false
set_option linter.unusedSectionVars false
set_option maxRecDepth 20000
namespace Go.J
open Go

section
variable {P : Program} {n : Nat} {F : Fr} {C : World → Prop}

theorem pr_move {x : Operand} {v : Value} (hx : ev F x = some v) : PR P n F C (.move x) v := fun _ _ _ _ _ a w ha _ => by
  simp only [execOp, ha.ev hx]; rfl
theorem pr_assign {x : Operand} {v : Value} (hx : ev F x = some v) : PR P n F C (.assign x) v := fun _ _ _ _ _ a w ha _ => by
  simp only [execOp, ha.ev hx]; rfl
theorem pr_pick_t {c x y : Operand} {v : Value} (hc : ev F c = some (.bool true)) (hx : ev F x = some v) : PR P n F C (.pick c x y) v := fun _ _ _ _ _ a w ha _ => by
  simp only [execOp, ha.ev hx, ha.ev hc]; rfl
theorem pr_pick_f {c x y : Operand} {v : Value} (hc : ev F c = some (.bool false)) (hy : ev F y = some v) : PR P n F C (.pick c x y) v := fun _ _ _ _ _ a w ha _ => by
  simp only [execOp, ha.ev hy, ha.ev hc]; rfl
theorem pr_nilCheck {x : Operand} {p : Addr} (hx : ev F x = some (.pointer (some p))) : PR P n F C (.nilCheck x) (.pointer (some p)) := fun _ _ _ _ _ a w ha _ => by
  simp only [execOp, ha.ev hx]; rfl
theorem pr_extract {x : Operand} {i : Nat} {vs : List Value} {v : Value} (hx : ev F x = some (.tuple vs.toArray)) (hv : vs[i]? = some v) : PR P n F C (.extract x i) v := fun _ _ _ _ _ a w ha _ => by
  simp only [execOp, ha.ev hx, Instr.extract, List.getElem?_toArray, hv]; rfl

/-! whole numbers -/
theorem pr_arith {x y : Operand} {k : IntKind} {p q : Int} {t u : TypeId} {op : BinOp} {v : Value} (hx : ev F x = some (.int k p)) (hy : ev F y = some (.int k q))
    (h : ∀ a : Act, a.eval x = .int k p → a.eval y = .int k q → ∀ d ty pos aft g w, (execOp a.eval ⟨d, .binOp op t x y u, ty, pos, aft, g⟩).run P w = .ok (.value v) w) : PR P n F C (.binOp op t x y u) v :=
  fun _ _ _ _ _ a w ha _ => h a (ha.ev hx) (ha.ev hy) _ _ _ _ _ w

theorem pr_add {x y : Operand} {k : IntKind} {p q r : Int} {t u : TypeId} (hx : ev F x = some (.int k p)) (hy : ev F y = some (.int k q)) (hr : k.wrap (p + q) = r) : PR P n F C (.binOp .add t x y u) (.int k r) :=
  pr_arith hx hy fun a h1 h2 _ _ _ _ _ w => by simp [execOp, h1, h2, eqGuard, binOp, Op.intArith, hr]
theorem pr_sub {x y : Operand} {k : IntKind} {p q r : Int} {t u : TypeId} (hx : ev F x = some (.int k p)) (hy : ev F y = some (.int k q)) (hr : k.wrap (p - q) = r) : PR P n F C (.binOp .sub t x y u) (.int k r) :=
  pr_arith hx hy fun a h1 h2 _ _ _ _ _ w => by simp [execOp, h1, h2, eqGuard, binOp, Op.intArith, hr]
theorem pr_mul {x y : Operand} {k : IntKind} {p q r : Int} {t u : TypeId} (hx : ev F x = some (.int k p)) (hy : ev F y = some (.int k q)) (hr : k.wrap (p * q) = r) : PR P n F C (.binOp .mul t x y u) (.int k r) :=
  pr_arith hx hy fun a h1 h2 _ _ _ _ _ w => by simp [execOp, h1, h2, eqGuard, binOp, Op.intArith, hr]
theorem pr_quo {x y : Operand} {k : IntKind} {p q r : Int} {t u : TypeId} (hx : ev F x = some (.int k p)) (hy : ev F y = some (.int k q)) (h0 : q ≠ 0) (hr : k.wrap (p.tdiv q) = r) : PR P n F C (.binOp .quo t x y u) (.int k r) :=
  pr_arith hx hy fun a h1 h2 _ _ _ _ _ w => by simp [execOp, h1, h2, eqGuard, binOp, Op.intDiv, hr, h0]
theorem pr_rem {x y : Operand} {k : IntKind} {p q r : Int} {t u : TypeId} (hx : ev F x = some (.int k p)) (hy : ev F y = some (.int k q)) (h0 : q ≠ 0) (hr : p.tmod q = r) : PR P n F C (.binOp .rem t x y u) (.int k r) :=
  pr_arith hx hy fun a h1 h2 _ _ _ _ _ w => by simp [execOp, h1, h2, eqGuard, binOp, Op.intDiv, hr, h0]
theorem pr_bits {op : BinOp} {x y : Operand} {k : IntKind} {p q : Int} {v : Value} {t u : TypeId} (hop : op = .and ∨ op = .or ∨ op = .xor ∨ op = .andNot) (hx : ev F x = some (.int k p)) (hy : ev F y = some (.int k q)) (hr : ∀ w, (Op.intBits op k p q).run P w = .ok v w) : PR P n F C (.binOp op t x y u) v :=
  pr_arith hx hy fun a h1 h2 _ _ _ _ _ w => by
    rcases hop with rfl | rfl | rfl | rfl <;> simp [execOp, h1, h2, eqGuard, binOp, hr]
theorem pr_shl {x y : Operand} {k k' : IntKind} {p q r : Int} {t u : TypeId} (hx : ev F x = some (.int k p)) (hy : ev F y = some (.int k' q)) (h0 : 0 ≤ q) (hr : k.wrap (p * 2 ^ (min q.toNat k.bits)) = r) : PR P n F C (.binOp .shl t x y u) (.int k r) :=
  fun _ _ _ _ _ a w ha _ => by simp [execOp, ha.ev hx, ha.ev hy, eqGuard, binOp, Op.shift, hr, show ¬ q < 0 by omega]
theorem pr_shr {x y : Operand} {k k' : IntKind} {p q r : Int} {t u : TypeId} (hx : ev F x = some (.int k p)) (hy : ev F y = some (.int k' q)) (h0 : 0 ≤ q) (hr : p.fdiv (2 ^ (min q.toNat k.bits)) = r) : PR P n F C (.binOp .shr t x y u) (.int k r) :=
  fun _ _ _ _ _ a w ha _ => by simp [execOp, ha.ev hx, ha.ev hy, eqGuard, binOp, Op.shift, hr, show ¬ q < 0 by omega]

theorem pr_lss {x y : Operand} {k : IntKind} {p q : Int} {t u : TypeId} (hx : ev F x = some (.int k p)) (hy : ev F y = some (.int k q)) : PR P n F C (.binOp .lss t x y u) (.bool (decide (p < q))) :=
  pr_arith hx hy fun a h1 h2 _ _ _ _ _ w => by simp [execOp, h1, h2, eqGuard, binOp, Op.intCmp]
theorem pr_leq {x y : Operand} {k : IntKind} {p q : Int} {t u : TypeId} (hx : ev F x = some (.int k p)) (hy : ev F y = some (.int k q)) : PR P n F C (.binOp .leq t x y u) (.bool (decide (p ≤ q))) :=
  pr_arith hx hy fun a h1 h2 _ _ _ _ _ w => by simp [execOp, h1, h2, eqGuard, binOp, Op.intCmp]
theorem pr_gtr {x y : Operand} {k : IntKind} {p q : Int} {t u : TypeId} (hx : ev F x = some (.int k p)) (hy : ev F y = some (.int k q)) : PR P n F C (.binOp .gtr t x y u) (.bool (decide (q < p))) :=
  pr_arith hx hy fun a h1 h2 _ _ _ _ _ w => by simp [execOp, h1, h2, eqGuard, binOp, Op.intCmp]
theorem pr_geq {x y : Operand} {k : IntKind} {p q : Int} {t u : TypeId} (hx : ev F x = some (.int k p)) (hy : ev F y = some (.int k q)) : PR P n F C (.binOp .geq t x y u) (.bool (decide (q ≤ p))) :=
  pr_arith hx hy fun a h1 h2 _ _ _ _ _ w => by simp [execOp, h1, h2, eqGuard, binOp, Op.intCmp]
theorem pr_eql {x y : Operand} {k : IntKind} {p q : Int} {t u : TypeId} (hx : ev F x = some (.int k p)) (hy : ev F y = some (.int k q)) : PR P n F C (.binOp .eql t x y u) (.bool (decide (p = q))) :=
  pr_arith hx hy fun a h1 h2 _ _ _ _ _ w => by simp [execOp, h1, h2, eqGuard, binOp, Op.intCmp]; rfl
theorem pr_neq {x y : Operand} {k : IntKind} {p q : Int} {t u : TypeId} (hx : ev F x = some (.int k p)) (hy : ev F y = some (.int k q)) : PR P n F C (.binOp .neq t x y u) (.bool (!decide (p = q))) :=
  pr_arith hx hy fun a h1 h2 _ _ _ _ _ w => by simp [execOp, h1, h2, eqGuard, binOp, Op.intCmp]; rfl

theorem pr_not {x : Operand} {b : Bool} {t : TypeId} (hx : ev F x = some (.bool b)) : PR P n F C (.unOp .not t x) (.bool !b) := fun _ _ _ _ _ a w ha _ => by
  simp [execOp, ha.ev hx, Op.unary]
theorem pr_neg {x : Operand} {k : IntKind} {p r : Int} {t : TypeId} (hx : ev F x = some (.int k p)) (hr : k.wrap (0 - p) = r) : PR P n F C (.unOp .neg t x) (.int k r) := fun _ _ _ _ _ a w ha _ => by
  simp only [execOp, ha.ev hx, Op.unary, Op.intArith, hr]; rfl
theorem pr_conv {x : Operand} {s d : TypeId} {k k' : IntKind} {p r : Int} (hs : ∃ e, P.underlying s = some (.int e)) (hd : P.underlying d = some (.int k')) (hx : ev F x = some (.int k p)) (hr : k'.wrap p = r) : PR P n F C (.convert s d x) (.int k' r) := fun _ _ _ _ _ a w ha _ => by
  obtain ⟨e, he⟩ := hs
  simp [execOp, ha.ev hx, convert, underlying, program, he, hd, Conv.intToInt, hr, Sem.run]

/-! bools, pointers against nil -/
theorem pr_eql_of {x y : Operand} {p q : Value} {t u : TypeId} {r : Bool} (hx : ev F x = some p) (hy : ev F y = some q)
    (hg : ∀ w, (eqGuard .eql t x y p q).run P w = .ok () w) (hb : binOp .eql t p q = (Op.equal t p q >>= fun b => pure (.bool b))) (he : ∀ w, C w → (Op.equal t p q).run P w = .ok r w) : PR P n F C (.binOp .eql t x y u) (.bool r) := fun _ _ _ _ _ a w ha hC => by
  simp only [execOp, ha.ev hx, ha.ev hy, hb]
  simp [hg, he w hC]
theorem pr_neq_of {x y : Operand} {p q : Value} {t u : TypeId} {r : Bool} (hx : ev F x = some p) (hy : ev F y = some q)
    (hg : ∀ w, (eqGuard .neq t x y p q).run P w = .ok () w) (hb : binOp .neq t p q = (Op.equal t p q >>= fun b => pure (.bool !b))) (he : ∀ w, C w → (Op.equal t p q).run P w = .ok r w) : PR P n F C (.binOp .neq t x y u) (.bool !r) := fun _ _ _ _ _ a w ha hC => by
  simp only [execOp, ha.ev hx, ha.ev hy, hb]
  simp [hg, he w hC]
theorem run_equal_bool {t : TypeId} {p q : Bool} (ht : P.underlying t = some .bool) (w : World) : (Op.equal t (.bool p) (.bool q)).run P w = .ok (p == q) w := by
  unfold Op.equal Op.maxDepth
  unfold Op.equalIn
  simp only [underlying, program, ht, Sem.run, bind, Sem.bind, pure]
theorem run_equal_nil {t e : TypeId} {p : Option Addr} (ht : P.underlying t = some (.pointer e)) (w : World) : (Op.equal t (.pointer p) (.pointer none)).run P w = .ok p.isNone w := by
  unfold Op.equal Op.maxDepth
  unfold Op.equalIn
  cases p <;> simp only [underlying, program, ht, Sem.run, bind, Sem.bind, pure, Option.isNone]
theorem pr_beql {x y : Operand} {p q : Bool} {t u : TypeId} (ht : P.underlying t = some .bool) (hx : ev F x = some (.bool p)) (hy : ev F y = some (.bool q)) : PR P n F C (.binOp .eql t x y u) (.bool (p == q)) :=
  pr_eql_of hx hy (fun _ => rfl) rfl (fun w _ => run_equal_bool ht w)
theorem pr_bneq {x y : Operand} {p q : Bool} {t u : TypeId} (ht : P.underlying t = some .bool) (hx : ev F x = some (.bool p)) (hy : ev F y = some (.bool q)) : PR P n F C (.binOp .neq t x y u) (.bool (!(p == q))) :=
  pr_neq_of hx hy (fun _ => rfl) rfl (fun w _ => run_equal_bool ht w)
theorem pr_peql {x y : Operand} {p : Option Addr} {t u e : TypeId} (ht : P.underlying t = some (.pointer e)) (hx : ev F x = some (.pointer p)) (hy : ev F y = some (.pointer none)) : PR P n F C (.binOp .eql t x y u) (.bool p.isNone) :=
  pr_eql_of hx hy (fun _ => rfl) (by cases p <;> rfl) (fun w _ => run_equal_nil ht w)
theorem pr_pneq {x y : Operand} {p : Option Addr} {t u e : TypeId} (ht : P.underlying t = some (.pointer e)) (hx : ev F x = some (.pointer p)) (hy : ev F y = some (.pointer none)) : PR P n F C (.binOp .neq t x y u) (.bool !p.isNone) :=
  pr_neq_of hx hy (fun _ => rfl) (by cases p <;> rfl) (fun w _ => run_equal_nil ht w)

/-! builtins -/
theorem pr_len_sl {x : Operand} {t e : TypeId} {p : Option Addr} {l c : Nat} (ht : P.underlying t = some (.slice e)) (hx : ev F x = some (.slice p l c)) : PR P n F C (.call ⟨.builtin .len, #[x], #[t]⟩) (.int .i64 l) := fun _ _ _ _ _ a w ha _ => by
  simp [execOp, resolve, invoke, builtin, ha.ev hx, Builtin.len_, underlying, program, ht, Sem.run, goInt]
theorem pr_len_st {x : Operand} {t : TypeId} {s : ByteArray} (ht : P.underlying t = some .string) (hx : ev F x = some (.string s)) : PR P n F C (.call ⟨.builtin .len, #[x], #[t]⟩) (.int .i64 s.size) := fun _ _ _ _ _ a w ha _ => by
  simp [execOp, resolve, invoke, builtin, ha.ev hx, Builtin.len_, underlying, program, ht, Sem.run, goInt]
theorem pr_min {x y : Operand} {k : IntKind} {p q : Int} {ts : Array TypeId} (hx : ev F x = some (.int k p)) (hy : ev F y = some (.int k q)) : PR P n F C (.call ⟨.builtin .min, #[x, y], ts⟩) (.int k (if q < p then q else p)) := fun _ _ _ _ _ a w ha _ => by
  simp [execOp, resolve, invoke, builtin, ha.ev hx, ha.ev hy, Builtin.min_, Builtin.min2]
theorem pr_max {x y : Operand} {k : IntKind} {p q : Int} {ts : Array TypeId} (hx : ev F x = some (.int k p)) (hy : ev F y = some (.int k q)) : PR P n F C (.call ⟨.builtin .max, #[x, y], ts⟩) (.int k (if p < q then q else p)) := fun _ _ _ _ _ a w ha _ => by
  simp [execOp, resolve, invoke, builtin, ha.ev hx, ha.ev hy, Builtin.max_, Builtin.max2]

end
/-- the lengths, for simp -/
theorem lns : (∀ (α : Type) (a b : List α), (a ++ b).length = a.length + b.length) ∧ (∀ (α : Type) (i : Nat) (a : List α), (a.take i).length = min i a.length) ∧ (∀ (α : Type) (i : Nat) (a : List α), (a.drop i).length = a.length - i) ∧
    (∀ (α : Type), ([] : List α).length = 0) ∧ (∀ (α : Type) (x : α) (a : List α), (x :: a).length = a.length + 1) ∧ (∀ (α : Type) (a : List α) (i : Nat) (x : α), (a.set i x).length = a.length) ∧ maxLen = 9223372036854775807 ∧
    (∀ (α : Type) (n : Nat) (x : α), (List.replicate n x).length = n) ∧ (∀ (α : Type) (β : Type) (f : α → β) (a : List α), (a.map f).length = a.length) :=
  ⟨fun _ _ _ => List.length_append, fun _ _ _ => List.length_take, fun _ _ _ => List.length_drop, fun _ => rfl, fun _ _ _ => rfl, fun _ _ _ _ => List.length_set, rfl, fun _ _ _ => List.length_replicate, fun _ _ _ _ => List.length_map ..⟩
end Go.J
