/- Part 6 of what the law's proof needs: rules of the walk, contracts of functions, plain laws. No condition. -/
import Derived.Test.YtecifniognbomaaAuYZ5
import Derived.Lib.SliceRun
import Derived.Test.YtecifniognbomaaRows
import Derived.Lib.FrozenHead
/- A slice beside nil; what is cleared. -/
set_option linter.unusedSimpArgs false
set_option linter.unusedVariables false
set_option linter.unusedSectionVars false
set_option maxRecDepth 20000
namespace Go.J
open Go
section
variable {P : Program} {n : Nat} {F : Fr} {C : World → Prop}
theorem run_equal_slnil {t e : TypeId} {p : Option Addr} {l c l2 c2 : Nat} (ht : P.underlying t = some (.slice e)) (w : World) : (Op.equal t (.slice p l c) (.slice none l2 c2)).run P w = .ok p.isNone w := by
  simp [Op.equal, Op.maxDepth, Lib.run_equalIn_slice_nil w 9999 t e p l c l2 c2 ht]
theorem pr_sleql {x y : Operand} {p : Option Addr} {l c l2 c2 : Nat} {t u e : TypeId} (ht : P.underlying t = some (.slice e)) (hx : ev F x = some (.slice p l c)) (hy : ev F y = some (.slice none l2 c2)) : PR P n F C (.binOp .eql t x y u) (.bool p.isNone) :=
  pr_eql_of hx hy (fun _ => rfl) (by cases p <;> rfl) (fun w _ => run_equal_slnil ht w)
theorem pr_slneq {x y : Operand} {p : Option Addr} {l c l2 c2 : Nat} {t u e : TypeId} (ht : P.underlying t = some (.slice e)) (hx : ev F x = some (.slice p l c)) (hy : ev F y = some (.slice none l2 c2)) : PR P n F C (.binOp .neq t x y u) (.bool !p.isNone) :=
  pr_neq_of hx hy (fun _ => rfl) (by cases p <;> rfl) (fun w _ => run_equal_slnil ht w)
def zeroOneB (P : Program) (e : TypeId) : Bool := match P.info? e with
  | some i => match i.zero with
    | some z => z.cells.toList.all oneCell
    | none => false
  | none => false
end
section
variable {P : Program} {n : Nat} {w0 : World} {F : Fr} {m : Mem} {Rs : List Res} {Q : Exit → Act → World → Prop} {α : Type} [Inhabited α] {f : α → List Value} {sz : Nat} {E : TypeId} {p : Option Addr} {c : Nat} {l : List α} {Rs' : List Res}
theorem pr_slice_own {x z : Operand} {t : TypeId} {ln hi : Nat} {k : IntKind} (hx : ev F x = some (.slice p ln c)) (hz : ev F z = some (.int k (hi : Int))) (hp : Pick Rs (.own f sz E p c l) Rs') (hl : l.length = hi) (ht : P.underlying t = some (.slice E)) (hs : sizeB P E = some sz) :
    PR P n F (HW w0 m Rs) (.slice t x none (some z) none) (.slice (subp p c 0 sz) (hi - 0) (c - 0)) := by
  subst hl
  exact fun d ty pos aft g a w ha hC => pr_slice_h hx hz ht hs (own_le hp w hC) d ty pos aft g a w ha hC
theorem zeroCells_one {z : Array Value} (h : z.toList.all oneCell = true) (k : Nat) : ∀ v ∈ (Builtin.zeroCells z k).toList, v.oneCell' = true := fun v hv => by
  simp only [Builtin.zeroCells, Array.toList_map, Array.toList_range, List.mem_map, List.mem_range] at hv
  obtain ⟨i, hi, rfl⟩ := hv
  have hz : 0 < z.size := by
    rcases Nat.eq_zero_or_pos z.size with e | e
    · rw [e] at hi; simp at hi
    · exact e
  have hm := Nat.mod_lt i hz
  have := List.all_eq_true.1 h z[i % z.size]! (by
    rw [getElem!_pos z _ hm]
    exact Array.getElem_mem_toList hm)
  generalize z[i % z.size]! = u at this
  cases u <;> first | rfl | (simp [oneCell] at this)
/-- the end of what one owns is cleared: the rest stays -/
theorem At.clearW {ops : Array Oper} {rest : List Oper} {d : Option Nat} {x : Operand} {t : TypeId} {ty : TypeId} {pos : String} {aft : Array Edge} {ln c2 : Nat} {q : Option Addr}
    (lo : Nat) (hx : ev F x = some (.slice q ln c2)) (hp : Pick Rs (.own f sz E p c l) Rs') (hq : q = subp p c lo sz) (hf : Fl f sz) (ht : P.underlying t = some (.slice E)) (he : elemB P E sz = true) (hz1 : zeroOneB P E = true) (hlo : lo ≤ l.length) (hln : ln = l.length - lo) (hd : d = none)
    (h : At n w0 F m (.own f sz E p c (l.take lo) :: Rs') (wpList P ops Q rest)) :
    At n w0 F m Rs (wpList P ops Q (⟨d, .call ⟨.builtin .clear, #[x], #[t]⟩, ty, pos, aft, none⟩ :: rest)) := fun a w ha hw =>
  wpList_plain rfl fun K hK => by
    subst hln hd hq
    obtain ⟨i, z, hi, hz, hsz, hbt, hzs⟩ := elemB_spec he
    have hone : z.cells.toList.all oneCell = true := by
      unfold zeroOneB at hz1; rw [hi] at hz1; simp only [hz] at hz1; exact hz1
    have hrow : ∀ s, (Res.own f sz E p c l).p w s → ∃ w', (Builtin.clear_ #[t] ty #[.slice (subp p c lo sz) (l.length - lo) c2]).run P w = .ok (.tuple #[]) w' ∧ (Res.own f sz E p c (l.take lo)).p w' s ∧ w'.os = w.os ∧ w'.tape = w.tape ∧ w'.output = w.output ∧ w.heap.size ≤ w'.heap.size ∧ (∀ k, k < w.heap.size → ¬ s k → w'.heap[k]? = w.heap[k]?) := fun s hown => by
      by_cases hz0 : l.length - lo = 0
      · have hl : l.take lo = l := List.take_of_length_le (by omega)
        rw [hz0, hl]
        refine ⟨w, ?_, hown, rfl, rfl, rfl, Nat.le_refl _, fun _ _ _ => rfl⟩
        cases subp p c lo sz <;> simp [Builtin.clear_, run_underlying ht]
      · rcases hown with ⟨rfl, rfl, rfl, hno⟩ | ⟨g, o, cur, rfl, h4, h5, h6, h7, h8, hgs⟩
        · simp at hz0
        · have hne : c ≠ lo := by omega
          have hsub : subp (some ⟨g, o, none⟩) c lo sz = some ⟨g, o + lo * sz, none⟩ := by unfold subp; rw [if_neg hne]; simp [Addr.add_eq]
          rw [hsub]
          have hlen : (Builtin.zeroCells z.cells (l.length - lo)).toList.length = (l.length - lo) * sz := by rw [Array.length_toList, size_zeroCells, hzs]
          have hcs : l.length * sz ≤ c * sz := Nat.mul_le_mul_right _ h5
          have hsp : (l.length - lo) * sz + lo * sz = l.length * sz := by rw [← Nat.add_mul]; congr 1; omega
          have hst := run_storeCells_at P g (o + lo * sz) E (Builtin.zeroCells z.cells (l.length - lo)).toList 0 cur w h4 (by omega) (zeroCells_one hone _)
          simp only [Nat.add_zero] at hst
          refine ⟨w.setRow g (cur.toList.take (o + lo * sz) ++ (Builtin.zeroCells z.cells (l.length - lo)).toList ++ cur.toList.drop (o + lo * sz + (Builtin.zeroCells z.cells (l.length - lo)).toList.length)).toArray, ?_, .inr ⟨g, o, (cur.toList.take (o + lo * sz) ++ (Builtin.zeroCells z.cells (l.length - lo)).toList ++ cur.toList.drop (o + lo * sz + (Builtin.zeroCells z.cells (l.length - lo)).toList.length)).toArray, rfl, setRow_heap w g cur _ E _ h4, by simp only [List.length_take]; omega, h6, ?_, fun j hj => ?_, hgs⟩, rfl, rfl, rfl, by simp, fun i _ hi => setRow_other w g i _ (fun e => hi ((hgs i).2 e))⟩
          · obtain ⟨k, hk⟩ : ∃ k, l.length - lo = k + 1 := ⟨l.length - lo - 1, by omega⟩
            have hzv : ∀ w, (zeroValue E).run P w = .ok z w := fun w => by simp [zeroValue, typeInfo, hi, hz]
            rw [hk] at hst ⊢
            simp [Builtin.clear_, run_underlying ht, hzv, hst]
          · simp only [List.size_toArray, List.length_append, List.length_take, List.length_drop, Array.length_toList, size_zeroCells, hzs]
            omega
          · have hj2 : j < lo * sz := by rw [List.length_take] at hj; exact Nat.lt_of_lt_of_le hj (Nat.mul_le_mul_right _ (Nat.min_le_left _ _))
            have hll : lo * sz ≤ l.length * sz := Nat.mul_le_mul_right _ hlo
            rw [List.getElem?_toArray, List.append_assoc, List.getElem?_append_left (by simp only [List.length_take, Array.length_toList]; omega), List.getElem?_take, if_pos (by omega), Array.getElem?_toList, h8 j (by omega)]
            have e : l.flatMap f = (l.take lo).flatMap f ++ (l.drop lo).flatMap f := by rw [← List.flatMap_append, List.take_append_drop]
            rw [e, List.getElem?_append_left (by rw [flatMap_length hf.len]; exact hj)]
    obtain ⟨s0, hown⟩ := hw.get hp
    obtain ⟨w', hr', _⟩ := hrow s0 hown
    have hrun' : (execOp a.eval ⟨none, .call ⟨.builtin .clear, #[x], #[t]⟩, ty, pos, aft, none⟩).run P w = .ok (.value (.tuple #[])) w' := by
      rw [BigFrame.execOp_builtin]
      simp [BigFrame.builtin_clear, ha.ev hx, hr']
    unfold Oper.wp
    rw [hrun']
    refine hK _ _ (h _ _ ha (hw.turn hp fun s hs => ?_))
    obtain ⟨w2, hr2, h2, g1, g2, g3, g4, g5⟩ := hrow s hs
    rw [hr'] at hr2
    injection hr2 with _ e2
    subst e2
    exact ⟨s, h2, g1, g2, g3, g4, g5, fun k hk => .inl hk⟩
end
end Go.J
/- Lists of whole numbers, of texts, of bools, as cells; whether two are one. -/
set_option linter.unusedSimpArgs false
set_option linter.unusedVariables false
set_option linter.unusedSectionVars false
set_option maxRecDepth 20000
set_option maxHeartbeats 4000000
namespace Go.Proofs.Ytecifniognbomaa
open Go Go.J
attribute [local irreducible] At AtQ AtM AtM1 PR Ct Pu Rd Res.blk Res.own Res.ex RVs RV
namespace Ls
abbrev fI : Int → List Value := fun x => [.int .i64 x]
instance : Fl fI 1 := ⟨fun _ => rfl, fun _ v h => by simp at h; subst h; rfl, by decide⟩
abbrev fS : List UInt8 → List Value := fun x => [.string (str x)]
instance : Fl fS 1 := ⟨fun _ => rfl, fun _ v h => by simp at h; subst h; rfl, by decide⟩
abbrev fO : Bool → List Value := fun x => [.bool x]
instance : Fl fO 1 := ⟨fun _ => rfl, fun _ v h => by simp at h; subst h; rfl, by decide⟩
abbrev fH : Nat → List Value := fun x => [.int .u16 (x : Int)]
instance : Fl fH 1 := ⟨fun _ => rfl, fun _ v h => by simp at h; subst h; rfl, by decide⟩
/-- a slice that stands in a slice -/
structure SX (α : Type) where
  (l : List α) (p : Option Addr) (c : Nat)
instance {α : Type} : Inhabited (SX α) := ⟨⟨[], none, 0⟩⟩
abbrev fX {α : Type} : SX α → List Value := fun x => [.slice x.p x.l.length x.c]
instance {α : Type} : Fl (fX (α := α)) 1 := ⟨fun _ => rfl, fun _ v h => by simp at h; subst h; rfl, by decide⟩
theorem ext! {α : Type} [Inhabited α] {a b : List α} (hl : a.length = b.length) (h : ∀ i, i < a.length → a[i]! = b[i]!) : a = b :=
  List.ext_getElem hl fun i h1 h2 => by have := h i h1; rwa [getElem!_pos a i h1, getElem!_pos b i h2] at this
theorem take_snoc {α : Type} [Inhabited α] {l : List α} {i : Nat} (h : i < l.length) : l.take (i + 1) = l.take i ++ [l[i]!] := by
  rw [getElem!_pos l i h, List.take_succ_eq_append_getElem h]
theorem drop_cons {α : Type} [Inhabited α] {l : List α} {i : Nat} (h : i < l.length) : l.drop i = l[i]! :: l.drop (i + 1) := by
  rw [getElem!_pos l i h, List.drop_eq_getElem_cons h]
theorem mem! {α : Type} [Inhabited α] {l : List α} {i : Nat} (h : i < l.length) : l[i]! ∈ l := by
  rw [getElem!_pos l i h]; exact List.getElem_mem h
theorem clipSl {m : Mem} {α : Type} [Inhabited α] {f : α → List Value} {sz : Nat} {p : Option Addr} {c : Nat} {l : List α} (h : Sl m f sz p c l) : Sl m f sz p l.length l := by
  have hle := h.le
  refine ⟨h.fl, Nat.le_refl _, Nat.le_trans hle h.big, fun e => by have := h.nil e; omega, fun a ha h0 => ?_⟩
  obtain ⟨h1, E, cs, fz, h2, h3, h4⟩ := h.some a ha (by omega)
  exact ⟨h1, E, cs, fz, h2, Nat.le_trans (Nat.add_le_add_left (Nat.mul_le_mul_right _ hle) _) h3, h4⟩
end Ls
end Go.Proofs.Ytecifniognbomaa
/- Tiers: what a slot is, which are right; the program's answers. -/
set_option linter.unusedSimpArgs false
set_option linter.unusedVariables false
set_option linter.unusedSectionVars false
set_option maxRecDepth 20000
set_option maxHeartbeats 4000000
namespace Go.Proofs.Ytecifniognbomaa
open Go Go.J
attribute [local irreducible] At AtQ AtM AtM1 PR Ct Pu Rd Res.blk Res.own Res.ex RVs RV
structure Slot where
  (w : Int) (c : Cell)
namespace Slot
abbrev cells : Slot → List Value := fun s => .int .i64 s.w :: Cell.cells s.c
abbrev v (s : Slot) : Value := .agg (cells s).toArray
instance : Fl cells 15 := ⟨fun _ => rfl, fun x v h => by simp at h; rcases h with rfl | rfl | rfl | rfl | rfl | rfl | rfl | rfl | rfl | rfl | rfl | rfl | rfl | rfl | rfl <;> rfl, by decide⟩
abbrev z : Slot := ⟨0, Cell.z⟩
instance : Inhabited Slot := ⟨z⟩
theorem ext {a b : Slot} (h1 : a.w = b.w) (h2 : a.c = b.c) : a = b := by cases a; cases b; cases h1; cases h2; rfl
instance : DecidableEq Slot := fun a b => decidable_of_iff (a.w = b.w ∧ a.c = b.c) ⟨fun h => ext h.1 h.2, fun h => by subst h; exact ⟨rfl, rfl⟩⟩
def In (s : Slot) : Prop := (-9223372036854775808 ≤ s.w ∧ s.w ≤ 9223372036854775807) ∧ (-9223372036854775808 ≤ s.c.n ∧ s.c.n ≤ 9223372036854775807) ∧ s.c.F.V < 18446744073709551616 ∧ s.c.L.V < 18446744073709551616 ∧ s.c.I < 340282366920938463463374607431768211456
end Slot
namespace Ti
open Slot Win
theorem and_slot (a b : Slot) : andL [decide (a.w = b.w), decide (a.c.n = b.c.n), decide (a.c.F.T = b.c.F.T), decide ((a.c.F.V : Int) = (b.c.F.V : Int)), decide (a.c.F.C = b.c.F.C), a.c.F.S == b.c.F.S, decide (a.c.L.T = b.c.L.T), decide ((a.c.L.V : Int) = (b.c.L.V : Int)), decide (a.c.L.C = b.c.L.C), a.c.L.S == b.c.L.S,
    decide (((a.c.I / 18446744073709551616 : Nat) : Int) = ((b.c.I / 18446744073709551616 : Nat) : Int)), decide (((a.c.I % 18446744073709551616 : Nat) : Int) = ((b.c.I % 18446744073709551616 : Nat) : Int)), decide (a.c.R = b.c.R), decide (a.c.G = b.c.G), decide (a.c.X = b.c.X)] = decide (a = b) := by
  rw [andL_cons, Cell.and_cell, ← Bool.decide_and]
  exact decide_eq_decide.2 ⟨fun h => ext h.1 h.2, fun h => by subst h; exact ⟨rfl, rfl⟩⟩
theorem pr_sleq {n : Nat} {F : Fr} {C : World → Prop} {x y : Operand} {u : TypeId} {a b : Slot} (hx : ev F x = some a.v) (hy : ev F y = some b.v) : PR Try.prog n F C (.binOp .eql 57 x y u) (.bool (decide (a = b))) := by
  rw [← and_slot]
  exact pr_aggeq2 hx hy (by rfl) (by kernel_rfl) (by kernel_rfl) (by rfl)
theorem pr_slne {n : Nat} {F : Fr} {C : World → Prop} {x y : Operand} {u : TypeId} {a b : Slot} (hx : ev F x = some a.v) (hy : ev F y = some b.v) : PR Try.prog n F C (.binOp .neq 57 x y u) (.bool (!decide (a = b))) := by
  rw [← and_slot]
  exact pr_aggne2 hx hy (by rfl) (by kernel_rfl) (by kernel_rfl) (by rfl)
/-- a cell may be a window's -/
def fits (c : Cell) (w i : Int) : Prop := c.n ≠ 0 ∧ Cell.chk c = 0 ∧ (ofE c.F.T w = 0 ∧ ofV c.F.T w = i) ∧ ofE c.L.T w = 0 ∧ ofV c.L.T w = i
instance (c : Cell) (w i : Int) : Decidable (fits c w i) := by unfold fits; infer_instance
theorem none_ (s : Slot) : Pu Try.prog 81 #[s.v] (.bool (decide (s = z))) := Pu.intro fun m => by
  refine Ct.enterV (by rfl) Try.func81 rfl Try.ntmps81 rfl (fun w0 Rest => ?_)
  (repeat' (first | refine zss ?_ | ((first | (with_reducible first | apply At.val | apply AtQ.val)); (exact pr_sleq (b := z) (by rfl) (by rfl)); exact rfl) | refine zs0 ?_ | ((with_reducible apply At.box (d := 1)); exact rfl; exact rfl; exact rfl; intro b1) | (refine zsp ?_ ?_ <;> (intro hc; (try simp only [zhcs, reduceCtorEq] at hc); (try (exfalso; first | contradiction | omega | exact absurd rfl hc | exact absurd (by decide) hc))))))
  all_goals ((with_reducible apply At.retB1 (B := [])); exact rfl; exact rfl; exact zml; exact zkp; exact ⟨rfl, rfl, rfl⟩)
theorem fitsT (c : Cell) (w i : Int) (hn : -9223372036854775808 ≤ c.n ∧ c.n ≤ 9223372036854775807) : Pu Try.prog 69 #[c.v, .int .i64 w, .int .i64 i] (.bool (decide (fits c w i))) := Pu.intro fun m => by
  have k1 := Cell.check c hn
  have k2 := win_of c.F.T w
  have k3 := win_of c.L.T w
  by_cases h0 : c.n = 0
  · rw [decide_eq_false (fun h : fits c w i => h.1 h0)]
    refine Ct.enterV (by rfl) Try.func69 rfl Try.ntmps69 rfl (fun w0 Rest => ?_)
    (repeat' (first | refine zss ?_ | refine zs0 ?_ | ((with_reducible apply At.box (d := 3)); exact rfl; exact rfl; exact rfl; intro b3) | (refine zsp ?_ ?_ <;> (intro hc; (try simp only [zhcs, reduceCtorEq] at hc); (try (exfalso; first | (first | omega | exact absurd h0 hc) | contradiction | omega | exact absurd rfl hc | exact absurd (by decide) hc))))))
    all_goals ((with_reducible apply At.retB1 (B := [])); exact rfl; exact rfl; exact zml; exact zkp; exact ⟨rfl, rfl, rfl⟩)
  by_cases h1 : Cell.chk c = 0
  rotate_left
  · rw [decide_eq_false (fun h : fits c w i => h1 h.2.1)]
    generalize Cell.chk c = e at k1 h1
    refine Ct.enterV (by rfl) Try.func69 rfl Try.ntmps69 rfl (fun w0 Rest => ?_)
    (repeat' (first | refine zss ?_ | refine zs0 ?_ | ((with_reducible first | apply AtM1.callp | apply AtQ.callp | apply At.callp); kernel_rfl; exact rfl; exact rfl; exact k1) | ((with_reducible apply At.box (d := 3)); exact rfl; exact rfl; exact rfl; intro b3) | (refine zsp ?_ ?_ <;> (intro hc; (try simp only [zhcs, reduceCtorEq] at hc); (try (exfalso; first | (first | omega | exact absurd hc h0 | exact absurd hc h1) | contradiction | omega | exact absurd rfl hc | exact absurd (by decide) hc))))))
    all_goals ((with_reducible apply At.retB1 (B := [])); exact rfl; exact rfl; exact zml; exact zkp; exact ⟨rfl, rfl, rfl⟩)
  rw [h1] at k1
  refine Ct.enterV (by rfl) Try.func69 rfl Try.ntmps69 rfl (fun w0 Rest => ?_)
  (repeat' (first | refine zss ?_ | ((first | (with_reducible first | apply At.val | apply AtQ.val)); (exact pr_buildArr (by rfl) (by rfl)); exact rfl) | refine zs0 ?_ | ((with_reducible first | apply AtM1.callp | apply AtQ.callp | apply At.callp); kernel_rfl; exact rfl; exact rfl; exact k1) | ((with_reducible apply At.box (d := 3)); exact rfl; exact rfl; exact rfl; intro b3) | (refine zsp ?_ ?_ <;> (intro hc; (try simp only [zhcs, reduceCtorEq] at hc); (try (exfalso; first | (first | omega | exact absurd hc h0) | contradiction | omega | exact absurd rfl hc | exact absurd (by decide) hc))))))
  (refine At.loopk (σ := Nat) [1, 2, 25] (fun s F0 => (26, .int .i64 (s : Int)) :: F0) (fun s => m) (fun s => Rest) (fun s => s ≤ 2 ∧ (0 < s → ofE c.F.T w = 0 ∧ ofV c.F.T w = i) ∧ (1 < s → ofE c.L.T w = 0 ∧ ofV c.L.T w = i)) (fun s => 2 - s) 0 (by rfl) ?_ zsubs zml zente ?_)
  · exact ⟨Nat.zero_le _, fun h => absurd h (by decide), fun h => absurd h (by decide)⟩
  rintro s ⟨hs, g1, g2⟩
  rcases (show s = 0 ∨ s = 1 ∨ s = 2 by omega) with rfl | rfl | rfl
  · by_cases e : ofE c.F.T w = 0 ∧ ofV c.F.T w = i
    · obtain ⟨e1, e2⟩ := e
      (repeat' (first | refine zss ?_ | ((first | (with_reducible first | apply At.val | apply AtQ.val)); (exact pr_index_agg (k := 0) (by rfl) (by rfl) (by rfl) (by rfl) (by rfl) (by rfl) (by rfl)); exact rfl) | refine zs0 ?_ | ((with_reducible first | apply AtM1.callp | apply AtQ.callp | apply At.callp); kernel_rfl; exact rfl; exact rfl; exact k2) | ((with_reducible apply At.box (d := 3)); exact rfl; exact rfl; exact rfl; intro b3) | (refine zsp ?_ ?_ <;> (intro hc; (try simp only [zhcs, reduceCtorEq] at hc); (try (exfalso; first | (first | omega | exact absurd e1 hc | exact absurd e2 hc) | contradiction | omega | exact absurd rfl hc | exact absurd (by decide) hc))))))
      all_goals ((with_reducible refine At.reachk (1) ?_ ?_ ?_ ?_); exact zsubs; exact zml; exact zente; exact ⟨⟨by decide, fun _ => ⟨e1, e2⟩, fun h => absurd h (by decide)⟩, by decide⟩)
    · rw [decide_eq_false (fun h : fits c w i => e h.2.2.1)]
      by_cases e1 : ofE c.F.T w = 0
      · have e2 : ¬ ofV c.F.T w = i := fun h => e ⟨e1, h⟩
        (repeat' (first | refine zss ?_ | ((first | (with_reducible first | apply At.val | apply AtQ.val)); (exact pr_index_agg (k := 0) (by rfl) (by rfl) (by rfl) (by rfl) (by rfl) (by rfl) (by rfl)); exact rfl) | refine zs0 ?_ | ((with_reducible first | apply AtM1.callp | apply AtQ.callp | apply At.callp); kernel_rfl; exact rfl; exact rfl; exact k2) | ((with_reducible apply At.box (d := 3)); exact rfl; exact rfl; exact rfl; intro b3) | (refine zsp ?_ ?_ <;> (intro hc; (try simp only [zhcs, reduceCtorEq] at hc); (try (exfalso; first | (first | omega | exact absurd e1 hc | exact absurd hc e2) | contradiction | omega | exact absurd rfl hc | exact absurd (by decide) hc))))))
        all_goals ((with_reducible apply At.retB1 (B := [])); exact rfl; exact rfl; exact zml; exact zkp; exact ⟨rfl, rfl, rfl⟩)
      · (repeat' (first | refine zss ?_ | ((first | (with_reducible first | apply At.val | apply AtQ.val)); (exact pr_index_agg (k := 0) (by rfl) (by rfl) (by rfl) (by rfl) (by rfl) (by rfl) (by rfl)); exact rfl) | refine zs0 ?_ | ((with_reducible first | apply AtM1.callp | apply AtQ.callp | apply At.callp); kernel_rfl; exact rfl; exact rfl; exact k2) | ((with_reducible apply At.box (d := 3)); exact rfl; exact rfl; exact rfl; intro b3) | (refine zsp ?_ ?_ <;> (intro hc; (try simp only [zhcs, reduceCtorEq] at hc); (try (exfalso; first | (first | omega | exact absurd hc e1) | contradiction | omega | exact absurd rfl hc | exact absurd (by decide) hc))))))
        all_goals ((with_reducible apply At.retB1 (B := [])); exact rfl; exact rfl; exact zml; exact zkp; exact ⟨rfl, rfl, rfl⟩)
  · by_cases e : ofE c.L.T w = 0 ∧ ofV c.L.T w = i
    · obtain ⟨e1, e2⟩ := e
      (repeat' (first | refine zss ?_ | ((first | (with_reducible first | apply At.val | apply AtQ.val)); (exact pr_index_agg (k := 1) (by rfl) (by rfl) (by rfl) (by rfl) (by rfl) (by rfl) (by rfl)); exact rfl) | refine zs0 ?_ | ((with_reducible first | apply AtM1.callp | apply AtQ.callp | apply At.callp); kernel_rfl; exact rfl; exact rfl; exact k3) | ((with_reducible apply At.box (d := 3)); exact rfl; exact rfl; exact rfl; intro b3) | (refine zsp ?_ ?_ <;> (intro hc; (try simp only [zhcs, reduceCtorEq] at hc); (try (exfalso; first | (first | omega | exact absurd e1 hc | exact absurd e2 hc) | contradiction | omega | exact absurd rfl hc | exact absurd (by decide) hc))))))
      all_goals ((with_reducible refine At.reachk (2) ?_ ?_ ?_ ?_); exact zsubs; exact zml; exact zente; exact ⟨⟨by decide, fun _ => g1 (by decide), fun _ => ⟨e1, e2⟩⟩, by decide⟩)
    · rw [decide_eq_false (fun h : fits c w i => e h.2.2.2)]
      by_cases e1 : ofE c.L.T w = 0
      · have e2 : ¬ ofV c.L.T w = i := fun h => e ⟨e1, h⟩
        (repeat' (first | refine zss ?_ | ((first | (with_reducible first | apply At.val | apply AtQ.val)); (exact pr_index_agg (k := 1) (by rfl) (by rfl) (by rfl) (by rfl) (by rfl) (by rfl) (by rfl)); exact rfl) | refine zs0 ?_ | ((with_reducible first | apply AtM1.callp | apply AtQ.callp | apply At.callp); kernel_rfl; exact rfl; exact rfl; exact k3) | ((with_reducible apply At.box (d := 3)); exact rfl; exact rfl; exact rfl; intro b3) | (refine zsp ?_ ?_ <;> (intro hc; (try simp only [zhcs, reduceCtorEq] at hc); (try (exfalso; first | (first | omega | exact absurd e1 hc | exact absurd hc e2) | contradiction | omega | exact absurd rfl hc | exact absurd (by decide) hc))))))
        all_goals ((with_reducible apply At.retB1 (B := [])); exact rfl; exact rfl; exact zml; exact zkp; exact ⟨rfl, rfl, rfl⟩)
      · (repeat' (first | refine zss ?_ | ((first | (with_reducible first | apply At.val | apply AtQ.val)); (exact pr_index_agg (k := 1) (by rfl) (by rfl) (by rfl) (by rfl) (by rfl) (by rfl) (by rfl)); exact rfl) | refine zs0 ?_ | ((with_reducible first | apply AtM1.callp | apply AtQ.callp | apply At.callp); kernel_rfl; exact rfl; exact rfl; exact k3) | ((with_reducible apply At.box (d := 3)); exact rfl; exact rfl; exact rfl; intro b3) | (refine zsp ?_ ?_ <;> (intro hc; (try simp only [zhcs, reduceCtorEq] at hc); (try (exfalso; first | (first | omega | exact absurd hc e1) | contradiction | omega | exact absurd rfl hc | exact absurd (by decide) hc))))))
        all_goals ((with_reducible apply At.retB1 (B := [])); exact rfl; exact rfl; exact zml; exact zkp; exact ⟨rfl, rfl, rfl⟩)
  · rw [decide_eq_true (show fits c w i from ⟨h0, h1, g1 (by decide), g2 (by decide)⟩)]
    (repeat' (first | refine zss ?_ | refine zs0 ?_ | ((with_reducible apply At.box (d := 3)); exact rfl; exact rfl; exact rfl; intro b3) | (refine zsp ?_ ?_ <;> (intro hc; (try simp only [zhcs, reduceCtorEq] at hc); (try (exfalso; first | omega | contradiction | omega | exact absurd rfl hc | exact absurd (by decide) hc))))))
    all_goals ((with_reducible apply At.retB1 (B := [])); exact rfl; exact rfl; exact zml; exact zkp; exact ⟨rfl, rfl, rfl⟩)
/-- a slot may stand where it does -/
def okS (l : List Slot) (w : Int) (k : Nat) : Prop := l[k]! = z ∨ (slotV l[k]!.w (l.length : Int) = (k : Int) ∧ fits l[k]!.c w l[k]!.w)
instance (l : List Slot) (w : Int) (k : Nat) : Decidable (okS l w k) := by unfold okS; infer_instance
def okT (l : List Slot) (w : Int) : Prop := (1 ≤ l.length ∧ l.length ≤ 4096) ∧ (1 ≤ w ∧ w ≤ 1099511627776) ∧ ∀ k, k < l.length → okS l w k
instance (l : List Slot) (w : Int) : Decidable (okT l w) := by unfold okT; infer_instance
def chk (l : List Slot) (w : Int) : Int := if okT l w then 0 else 2
theorem check {m : Mem} (p : Option Addr) (c : Nat) (l : List Slot) (w : Int) (hI : ∀ s ∈ l, Slot.In s) (sl0 : Sl m cells 15 p c l) :
    Rd Try.prog 71 #[.slice p l.length c, .int .i64 w] m [] (.int .i64 (chk l w)) := by
  unfold Rd
  by_cases h0 : (1 ≤ l.length ∧ l.length ≤ 4096) ∧ (1 ≤ w ∧ w ≤ 1099511627776)
  rotate_left
  · rw [show chk l w = 2 from if_neg (fun h => h0 ⟨h.1, h.2.1⟩)]
    refine Ct.enterV (by rfl) Try.func71 rfl Try.ntmps71 rfl (fun w0 Rest => ?_)
    (repeat' (first | refine zss ?_ | refine zsM ?_ | ((with_reducible apply At.alloc (d := 6)); exact rfl; exact rfl; intro b6) | (refine zsp ?_ ?_ <;> (intro hc; (try simp only [zhcs, reduceCtorEq] at hc); (try (exfalso; first | omega | contradiction | omega | exact absurd rfl hc | exact absurd (by decide) hc))))))
    all_goals ((with_reducible apply At.retB1 (B := [])); exact rfl; exact rfl; exact zml; exact zkp; exact ⟨rfl, rfl, rfl⟩)
  obtain ⟨h1, h2⟩ := h0
  refine Ct.enterV (by rfl) Try.func71 rfl Try.ntmps71 rfl (fun w0 Rest => ?_)
  (repeat' (first | refine zss ?_ | refine zsM ?_ | ((with_reducible apply At.alloc (d := 6)); exact rfl; exact rfl; intro b6) | (refine zsp ?_ ?_ <;> (intro hc; (try simp only [zhcs, reduceCtorEq] at hc); (try (exfalso; first | omega | contradiction | omega | exact absurd rfl hc | exact absurd (by decide) hc))))))
  (refine At.loopk (σ := Nat) [0, 1, 23, 24] (fun s F0 => (25, .int .i64 (s : Int)) :: F0) (fun s => m) (fun s => Rest) (fun s => s ≤ l.length ∧ ∀ k, k < s → okS l w k) (fun s => l.length - s) 0 (by rfl) ?_ zsubs zml zente ?_)
  · exact ⟨Nat.zero_le _, fun k h => absurd h (Nat.not_lt_zero k)⟩
  rintro s ⟨hs, hn⟩
  by_cases h : s < l.length
  · have hi := hI l[s]! (by rw [getElem!_pos l s h]; exact List.getElem_mem h)
    have k1 := none_ l[s]!
    have k2 := win_slot l[s]!.w (l.length : Int) hi.1 (by omega)
    have k3 := fitsT l[s]!.c w l[s]!.w hi.2.1
    have hstep : okS l w s → ∀ k, k < s + 1 → okS l w k := fun ho k hk => by
      by_cases e : k = s
      · subst e; exact ho
      · exact hn k (by omega)
    have hbad : ¬ okS l w s → chk l w = 2 := fun ho => if_neg fun hh => ho (hh.2.2 s h)
    unfold okS at hstep hbad
    clear hI hi hn
    by_cases hz : l[s]! = z
    · rw [decide_eq_true hz] at k1
      (repeat' (first | refine zss ?_ | refine zsM ?_ | ((with_reducible first | apply AtM1.callp | apply AtQ.callp | apply At.callp); kernel_rfl; exact rfl; exact rfl; exact k1) | ((with_reducible apply At.alloc (d := 6)); exact rfl; exact rfl; intro b6) | (refine zsp ?_ ?_ <;> (intro hc; (try simp only [zhcs, reduceCtorEq] at hc); (try (exfalso; first | omega | contradiction | omega | exact absurd rfl hc | exact absurd (by decide) hc))))))
      all_goals ((with_reducible refine At.reachk ((s + 1)) ?_ ?_ ?_ ?_); exact zsubs; exact zml; exact zente; exact ⟨⟨h, hstep (.inl hz)⟩, by omega⟩)
    rw [decide_eq_false hz] at k1
    by_cases e1 : slotV l[s]!.w (l.length : Int) = (s : Int)
    rotate_left
    · rw [hbad (fun ho => ho.elim hz (fun ho => e1 ho.1))]
      generalize slotV l[s]!.w (l.length : Int) = q at k2 e1
      (repeat' (first | refine zss ?_ | refine zsM ?_ | ((with_reducible first | apply AtM1.callp | apply AtQ.callp | apply At.callp); kernel_rfl; exact rfl; exact rfl; exact k1) | ((with_reducible first | apply AtM1.callp | apply AtQ.callp | apply At.callp); kernel_rfl; exact rfl; exact rfl; exact k2) | ((with_reducible apply At.alloc (d := 6)); exact rfl; exact rfl; intro b6) | (refine zsp ?_ ?_ <;> (intro hc; (try simp only [zhcs, reduceCtorEq] at hc); (try (exfalso; first | (first | omega | exact absurd hc e1) | contradiction | omega | exact absurd rfl hc | exact absurd (by decide) hc))))))
      all_goals ((with_reducible apply At.retB1 (B := [])); exact rfl; exact rfl; exact zml; exact zkp; exact ⟨rfl, rfl, rfl⟩)
    by_cases e2 : fits l[s]!.c w l[s]!.w
    · rw [decide_eq_true e2] at k3
      have hst := hstep (.inr ⟨e1, e2⟩)
      rw [e1] at k2
      clear hstep hbad e1
      (repeat' (first | refine zss ?_ | refine zsM ?_ | ((with_reducible first | apply AtM1.callp | apply AtQ.callp | apply At.callp); kernel_rfl; exact rfl; exact rfl; exact k1) | ((with_reducible first | apply AtM1.callp | apply AtQ.callp | apply At.callp); kernel_rfl; exact rfl; exact rfl; exact k2) | ((with_reducible first | apply AtM1.callp | apply AtQ.callp | apply At.callp); kernel_rfl; exact rfl; exact rfl; exact k3) | ((with_reducible apply At.alloc (d := 6)); exact rfl; exact rfl; intro b6) | (refine zsp ?_ ?_ <;> (intro hc; (try simp only [zhcs, reduceCtorEq] at hc); (try (exfalso; first | (first | omega | exact absurd rfl hc) | contradiction | omega | exact absurd rfl hc | exact absurd (by decide) hc))))))
      all_goals ((with_reducible refine At.reachk ((s + 1)) ?_ ?_ ?_ ?_); exact zsubs; exact zml; exact zente; exact ⟨⟨h, hst⟩, by omega⟩)
    · rw [hbad (fun ho => ho.elim hz (fun ho => e2 ho.2))]
      rw [decide_eq_false e2] at k3
      rw [e1] at k2
      clear hstep hbad e1
      (repeat' (first | refine zss ?_ | refine zsM ?_ | ((with_reducible first | apply AtM1.callp | apply AtQ.callp | apply At.callp); kernel_rfl; exact rfl; exact rfl; exact k1) | ((with_reducible first | apply AtM1.callp | apply AtQ.callp | apply At.callp); kernel_rfl; exact rfl; exact rfl; exact k2) | ((with_reducible first | apply AtM1.callp | apply AtQ.callp | apply At.callp); kernel_rfl; exact rfl; exact rfl; exact k3) | ((with_reducible apply At.alloc (d := 6)); exact rfl; exact rfl; intro b6) | (refine zsp ?_ ?_ <;> (intro hc; (try simp only [zhcs, reduceCtorEq] at hc); (try (exfalso; first | (first | omega | exact absurd rfl hc) | contradiction | omega | exact absurd rfl hc | exact absurd (by decide) hc))))))
      all_goals ((with_reducible apply At.retB1 (B := [])); exact rfl; exact rfl; exact zml; exact zkp; exact ⟨rfl, rfl, rfl⟩)
  · rw [show chk l w = 0 from if_pos ⟨h1, h2, fun k hk => hn k (by omega)⟩]
    (repeat' (first | refine zss ?_ | refine zsM ?_ | ((with_reducible apply At.alloc (d := 6)); exact rfl; exact rfl; intro b6) | (refine zsp ?_ ?_ <;> (intro hc; (try simp only [zhcs, reduceCtorEq] at hc); (try (exfalso; first | omega | contradiction | omega | exact absurd rfl hc | exact absurd (by decide) hc))))))
    all_goals ((with_reducible apply At.retB1 (B := [])); exact rfl; exact rfl; exact zml; exact zkp; exact ⟨rfl, rfl, rfl⟩)
end Ti
end Go.Proofs.Ytecifniognbomaa
/- The contracts of the package raw: which are right, the last one, whether two are equal. -/
set_option linter.unusedSimpArgs false
set_option linter.unusedVariables false
set_option linter.unusedSectionVars false
set_option maxRecDepth 20000
set_option maxHeartbeats 4000000
namespace Go.Proofs.Ytecifniognbomaa
open Go Go.J
attribute [local irreducible] At AtQ AtM AtM1 PR Ct Pu Rd Res.blk Res.own Res.ex RVs RV
/-- raw events, and where they lie -/
structure Rw where
  (lost mark : Int) (p : Option Addr) (c : Nat) (l : List Ev)
abbrev rv (lost mark : Int) (p : Option Addr) (n c : Nat) : Value := .agg #[.int .i64 lost, .int .i64 mark, .slice p n c]
namespace Rw
abbrev cells (r : Rw) : List Value := [.int .i64 r.lost, .int .i64 r.mark, .slice r.p r.l.length r.c]
abbrev v (r : Rw) : Value := rv r.lost r.mark r.p r.l.length r.c
end Rw
namespace Raw
open Ev Mrg
def ris (l : List Ev) : Prop := aok l ∧ asc l
instance (l : List Ev) : Decidable (ris l) := by unfold ris; infer_instance
def mkd (lost mark : Int) (l : List Ev) (room : Int) : Prop := if lost = 0 then mark = 0 else (l.length : Int) = room ∧ 0 ≤ mark ∧ mark < (l[0]!).T
instance (lost mark : Int) (l : List Ev) (room : Int) : Decidable (mkd lost mark l room) := by unfold mkd; infer_instance
def bnd (lost : Int) (l : List Ev) (room : Int) : Prop := 1 ≤ room ∧ room ≤ 4096 ∧ (l.length : Int) ≤ room ∧ 0 ≤ lost ∧ lost ≤ 70368744177664
instance (lost : Int) (l : List Ev) (room : Int) : Decidable (bnd lost l room) := by unfold bnd; infer_instance
def rk (lost mark : Int) (l : List Ev) (room : Int) : Prop := bnd lost l room ∧ ris l ∧ mkd lost mark l room
instance (lost mark : Int) (l : List Ev) (room : Int) : Decidable (rk lost mark l room) := by unfold rk; infer_instance
def chkR (lost mark : Int) (l : List Ev) (room : Int) : Int := if rk lost mark l room then 0 else 2
def lastV (l : List Ev) : Ev := if l.length = 0 then z else l[l.length - 1]!
def lastE (l : List Ev) : Int := if l.length = 0 then 3 else 0


theorem rising {m : Mem} (p : Option Addr) (c : Nat) (l : List Ev) (hl : l.length ≤ 1000000) (sl0 : Sl m cells 4 p c l) :
    Rd Try.prog 65 #[.slice p l.length c] m [] (.bool (decide (ris l))) := by
  unfold Rd
  refine Ct.enterV (by rfl) Try.func65 rfl Try.ntmps65 rfl (fun w0 Rest => ?_)
  (repeat' (first | refine zss ?_ | refine zsM ?_ | ((with_reducible apply At.alloc (d := 4)); exact rfl; exact rfl; intro b4) | (refine zsp ?_ ?_ <;> (intro hc; (try simp only [zhcs, reduceCtorEq] at hc); (try (exfalso; first | contradiction | omega | exact absurd rfl hc | exact absurd (by decide) hc))))))
  (refine At.loopk (σ := Nat) [0, 5, 6] (fun s F0 => (7, .int .i64 (s : Int)) :: F0) (fun s => m) (fun s => Rest) (fun s => s ≤ l.length ∧ (∀ i, i < s → (l[i]!).ok) ∧ (∀ i, i + 1 < s → (l[i]!).T < (l[i + 1]!).T)) (fun s => l.length - s) 0 (by rfl) ?_ zsubs zml zente ?_)
  · exact ⟨Nat.zero_le _, fun i h => absurd h (Nat.not_lt_zero i), fun i h => absurd h (by omega)⟩
  rintro s ⟨hs, ha, hb⟩
  by_cases h : s < l.length
  · have hk := Ev.check (l[s]!)
    by_cases ho : (l[s]!).ok
    · rw [show (l[s]!).chk = 0 from if_pos ho] at hk
      have hn : ∀ i, i < s + 1 → (l[i]!).ok := fun i hi => by
        by_cases e : i = s
        · subst e; exact ho
        · exact ha i (by omega)
      rcases s with _ | j
      · (repeat' (first | refine zss ?_ | refine zsM ?_ | ((with_reducible first | apply AtM1.callp | apply AtQ.callp | apply At.callp); kernel_rfl; exact rfl; exact rfl; exact hk) | ((with_reducible apply At.alloc (d := 4)); exact rfl; exact rfl; intro b4) | (refine zsp ?_ ?_ <;> (intro hc; (try simp only [zhcs, reduceCtorEq] at hc); (try (exfalso; first | omega | contradiction | omega | exact absurd rfl hc | exact absurd (by decide) hc))))))
        all_goals ((with_reducible refine At.reachk (1) ?_ ?_ ?_ ?_); exact zsubs; exact zml; exact zente; exact ⟨⟨h, hn, fun i hi => absurd hi (by omega)⟩, by omega⟩)
      · have hw : IntKind.wrap .i64 (((j + 1 : Nat) : Int) - 1) = (j : Int) := by rw [show (((j + 1 : Nat) : Int) - 1) = (j : Int) by omega]; exact IntWalk.i64_in _ (by omega)
        have hf := Ev.follow (l[j]!) (l[j + 1]!)
        rw [show fol (l[j]!) (l[j + 1]!) = decide ((l[j]!).T < (l[j + 1]!).T) by unfold fol; rw [decide_eq_true (show two (l[j]!) (l[j + 1]!) from ⟨ha j (by omega), ho⟩), Bool.true_and]] at hf
        by_cases hlt : (l[j]!).T < (l[j + 1]!).T
        · have hnn : ∀ i, i + 1 < j + 2 → (l[i]!).T < (l[i + 1]!).T := fun i hi => by
            by_cases e : i = j
            · subst e; exact hlt
            · exact hb i (by omega)
          rw [decide_eq_true hlt] at hf
          (repeat' (first | refine zss ?_ | ((first | (with_reducible first | apply At.val | apply AtQ.val)); (exact pr_sub (by rfl) (by rfl) hw); exact rfl) | refine zsM ?_ | ((with_reducible first | apply AtM1.callp | apply AtQ.callp | apply At.callp); kernel_rfl; exact rfl; exact rfl; exact hk) | ((with_reducible first | apply AtM1.callp | apply AtQ.callp | apply At.callp); kernel_rfl; exact rfl; exact rfl; exact hf) | ((with_reducible apply At.alloc (d := 4)); exact rfl; exact rfl; intro b4) | (refine zsp ?_ ?_ <;> (intro hc; (try simp only [zhcs, reduceCtorEq] at hc); (try (exfalso; first | omega | contradiction | omega | exact absurd rfl hc | exact absurd (by decide) hc))))))
          all_goals ((with_reducible refine At.reachk ((j + 2)) ?_ ?_ ?_ ?_); exact zsubs; exact zml; exact zente; exact ⟨⟨by omega, hn, hnn⟩, by omega⟩)
        · rw [decide_eq_false hlt] at hf
          rw [show decide (ris l) = false from decide_eq_false fun hh => hlt (hh.2 j (by omega))]
          (repeat' (first | refine zss ?_ | ((first | (with_reducible first | apply At.val | apply AtQ.val)); (exact pr_sub (by rfl) (by rfl) hw); exact rfl) | refine zsM ?_ | ((with_reducible first | apply AtM1.callp | apply AtQ.callp | apply At.callp); kernel_rfl; exact rfl; exact rfl; exact hk) | ((with_reducible first | apply AtM1.callp | apply AtQ.callp | apply At.callp); kernel_rfl; exact rfl; exact rfl; exact hf) | ((with_reducible apply At.alloc (d := 4)); exact rfl; exact rfl; intro b4) | (refine zsp ?_ ?_ <;> (intro hc; (try simp only [zhcs, reduceCtorEq] at hc); (try (exfalso; first | omega | contradiction | omega | exact absurd rfl hc | exact absurd (by decide) hc))))))
          all_goals ((with_reducible apply At.retB1 (B := [])); exact rfl; exact rfl; exact zml; exact zkp; exact ⟨rfl, rfl, rfl⟩)
    · rw [show (l[s]!).chk = 2 from if_neg ho] at hk
      rw [show decide (ris l) = false from decide_eq_false fun hh => ho (hh.1 s h)]
      (repeat' (first | refine zss ?_ | refine zsM ?_ | ((with_reducible first | apply AtM1.callp | apply AtQ.callp | apply At.callp); kernel_rfl; exact rfl; exact rfl; exact hk) | ((with_reducible apply At.alloc (d := 4)); exact rfl; exact rfl; intro b4) | (refine zsp ?_ ?_ <;> (intro hc; (try simp only [zhcs, reduceCtorEq] at hc); (try (exfalso; first | omega | contradiction | omega | exact absurd rfl hc | exact absurd (by decide) hc))))))
      all_goals ((with_reducible apply At.retB1 (B := [])); exact rfl; exact rfl; exact zml; exact zkp; exact ⟨rfl, rfl, rfl⟩)
  · rw [show decide (ris l) = true from decide_eq_true ⟨fun i hi => ha i (by omega), fun i hi => hb i (by omega)⟩]
    (repeat' (first | refine zss ?_ | refine zsM ?_ | ((with_reducible apply At.alloc (d := 4)); exact rfl; exact rfl; intro b4) | (refine zsp ?_ ?_ <;> (intro hc; (try simp only [zhcs, reduceCtorEq] at hc); (try (exfalso; first | omega | contradiction | omega | exact absurd rfl hc | exact absurd (by decide) hc))))))
    all_goals ((with_reducible apply At.retB1 (B := [])); exact rfl; exact rfl; exact zml; exact zkp; exact ⟨rfl, rfl, rfl⟩)

theorem marked {m : Mem} (lost mark : Int) (p : Option Addr) (c : Nat) (l : List Ev) (room : Int) (hr : 1 ≤ room) (hl : l.length ≤ 1000000) (sl0 : Sl m cells 4 p c l) :
    Rd Try.prog 66 #[rv lost mark p l.length c, .int .i64 room] m [] (.bool (decide (mkd lost mark l room))) := by
  unfold Rd
  by_cases h0 : lost = 0
  · rw [show decide (mkd lost mark l room) = decide (mark = 0) by unfold mkd; simp only [if_pos h0]]
    refine Ct.enterV (by rfl) Try.func66 rfl Try.ntmps66 rfl (fun w0 Rest => ?_)
    (repeat' (first | refine zss ?_ | refine zsM ?_ | ((with_reducible apply At.box (d := 2)); exact rfl; exact rfl; exact rfl; intro b2) | (refine zsp ?_ ?_ <;> (intro hc; (try simp only [zhcs, reduceCtorEq] at hc); (try (exfalso; first | (first | omega | exact absurd h0 hc) | contradiction | omega | exact absurd rfl hc | exact absurd (by decide) hc))))))
    all_goals ((with_reducible apply At.retB1 (B := [])); exact rfl; exact rfl; exact zml; exact zkp; exact ⟨rfl, rfl, rfl⟩)
  · by_cases h1 : (l.length : Int) = room
    · by_cases h2 : 0 ≤ mark
      · rw [show decide (mkd lost mark l room) = decide (mark < (l[0]!).T) by unfold mkd; simp only [if_neg h0, h1, h2, true_and]]
        refine Ct.enterV (by rfl) Try.func66 rfl Try.ntmps66 rfl (fun w0 Rest => ?_)
        (repeat' (first | refine zss ?_ | ((first | (with_reducible first | apply At.val | apply AtQ.val)); (exact pr_fieldAddr_at (k := 0 * 4) (by rfl) (by rfl)); exact rfl) | refine zsM ?_ | ((with_reducible apply At.box (d := 2)); exact rfl; exact rfl; exact rfl; intro b2) | (refine zsp ?_ ?_ <;> (intro hc; (try simp only [zhcs, reduceCtorEq] at hc); (try (exfalso; first | (first | omega | exact absurd hc h0) | contradiction | omega | exact absurd rfl hc | exact absurd (by decide) hc))))))
        all_goals ((with_reducible apply At.retB1 (B := [])); exact rfl; exact rfl; exact zml; exact zkp; exact ⟨rfl, rfl, rfl⟩)
      · rw [show decide (mkd lost mark l room) = false from decide_eq_false (by unfold mkd; rw [if_neg h0]; exact fun h => h2 h.2.1)]
        refine Ct.enterV (by rfl) Try.func66 rfl Try.ntmps66 rfl (fun w0 Rest => ?_)
        (repeat' (first | refine zss ?_ | ((first | (with_reducible first | apply At.val | apply AtQ.val)); (exact pr_fieldAddr_at (k := 0 * 4) (by rfl) (by rfl)); exact rfl) | refine zsM ?_ | ((with_reducible apply At.box (d := 2)); exact rfl; exact rfl; exact rfl; intro b2) | (refine zsp ?_ ?_ <;> (intro hc; (try simp only [zhcs, reduceCtorEq] at hc); (try (exfalso; first | (first | omega | exact absurd hc h0) | contradiction | omega | exact absurd rfl hc | exact absurd (by decide) hc))))))
        all_goals ((with_reducible apply At.retB1 (B := [])); exact rfl; exact rfl; exact zml; exact zkp; exact ⟨rfl, rfl, rfl⟩)
    · rw [show decide (mkd lost mark l room) = false from decide_eq_false (by unfold mkd; rw [if_neg h0]; exact fun h => h1 h.1)]
      refine Ct.enterV (by rfl) Try.func66 rfl Try.ntmps66 rfl (fun w0 Rest => ?_)
      (repeat' (first | refine zss ?_ | ((first | (with_reducible first | apply At.val | apply AtQ.val)); (exact pr_fieldAddr_at (k := 0 * 4) (by rfl) (by rfl)); exact rfl) | refine zsM ?_ | ((with_reducible apply At.box (d := 2)); exact rfl; exact rfl; exact rfl; intro b2) | (refine zsp ?_ ?_ <;> (intro hc; (try simp only [zhcs, reduceCtorEq] at hc); (try (exfalso; first | (first | omega | exact absurd hc h0) | contradiction | omega | exact absurd rfl hc | exact absurd (by decide) hc))))))
      all_goals ((with_reducible apply At.retB1 (B := [])); exact rfl; exact rfl; exact zml; exact zkp; exact ⟨rfl, rfl, rfl⟩)
theorem check {m : Mem} (lost mark : Int) (p : Option Addr) (c : Nat) (l : List Ev) (room : Int) (hl : l.length ≤ 1000000) (sl0 : Sl m cells 4 p c l) :
    Rd Try.prog 54 #[rv lost mark p l.length c, .int .i64 room] m [] (.int .i64 (chkR lost mark l room)) := by
  unfold Rd
  by_cases h0 : bnd lost l room
  · have hk : ∀ m', m.le m' → Rd Try.prog 65 #[.slice p l.length c] m' [] (.bool (decide (ris l))) := fun m' hm => rising p c l hl (sl0.mono hm)
    have hj : ∀ m', m.le m' → Rd Try.prog 66 #[rv lost mark p l.length c, .int .i64 room] m' [] (.bool (decide (mkd lost mark l room))) := fun m' hm => marked lost mark p c l room h0.1 hl (sl0.mono hm)
    have g0 := h0
    obtain ⟨g1, g2, g3, g4, g5⟩ := g0
    by_cases h1 : ris l
    · rw [decide_eq_true h1] at hk
      by_cases h2 : mkd lost mark l room
      · rw [decide_eq_true h2] at hj
        rw [show chkR lost mark l room = 0 from if_pos ⟨h0, h1, h2⟩]
        refine Ct.enterV (by rfl) Try.func54 rfl Try.ntmps54 rfl (fun w0 Rest => ?_)
        (repeat' (first | refine zss ?_ | refine zsM ?_ | ((with_reducible first | apply AtM1.cr | apply AtQ.cr | apply At.cr); exact rfl; exact rfl; exact fun _ hmm => hk _ hmm; exact ztk; kernel_rfl) | ((with_reducible first | apply AtM1.cr | apply AtQ.cr | apply At.cr); exact rfl; exact rfl; exact fun _ hmm => hj _ hmm; exact ztk; kernel_rfl) | ((with_reducible apply At.box (d := 2)); exact rfl; exact rfl; exact rfl; intro b2) | (refine zsp ?_ ?_ <;> (intro hc; (try simp only [zhcs, reduceCtorEq] at hc); (try (exfalso; first | omega | contradiction | omega | exact absurd rfl hc | exact absurd (by decide) hc))))))
        all_goals ((with_reducible apply At.retB1 (B := [])); exact rfl; exact rfl; exact zml; exact zkp; exact ⟨rfl, rfl, rfl⟩)
      · rw [decide_eq_false h2] at hj
        rw [show chkR lost mark l room = 2 from if_neg (fun h => h2 h.2.2)]
        refine Ct.enterV (by rfl) Try.func54 rfl Try.ntmps54 rfl (fun w0 Rest => ?_)
        (repeat' (first | refine zss ?_ | refine zsM ?_ | ((with_reducible first | apply AtM1.cr | apply AtQ.cr | apply At.cr); exact rfl; exact rfl; exact fun _ hmm => hk _ hmm; exact ztk; kernel_rfl) | ((with_reducible first | apply AtM1.cr | apply AtQ.cr | apply At.cr); exact rfl; exact rfl; exact fun _ hmm => hj _ hmm; exact ztk; kernel_rfl) | ((with_reducible apply At.box (d := 2)); exact rfl; exact rfl; exact rfl; intro b2) | (refine zsp ?_ ?_ <;> (intro hc; (try simp only [zhcs, reduceCtorEq] at hc); (try (exfalso; first | omega | contradiction | omega | exact absurd rfl hc | exact absurd (by decide) hc))))))
        all_goals ((with_reducible apply At.retB1 (B := [])); exact rfl; exact rfl; exact zml; exact zkp; exact ⟨rfl, rfl, rfl⟩)
    · rw [decide_eq_false h1] at hk
      rw [show chkR lost mark l room = 2 from if_neg (fun h => h1 h.2.1)]
      refine Ct.enterV (by rfl) Try.func54 rfl Try.ntmps54 rfl (fun w0 Rest => ?_)
      (repeat' (first | refine zss ?_ | refine zsM ?_ | ((with_reducible first | apply AtM1.cr | apply AtQ.cr | apply At.cr); exact rfl; exact rfl; exact fun _ hmm => hk _ hmm; exact ztk; kernel_rfl) | ((with_reducible apply At.box (d := 2)); exact rfl; exact rfl; exact rfl; intro b2) | (refine zsp ?_ ?_ <;> (intro hc; (try simp only [zhcs, reduceCtorEq] at hc); (try (exfalso; first | omega | contradiction | omega | exact absurd rfl hc | exact absurd (by decide) hc))))))
      all_goals ((with_reducible apply At.retB1 (B := [])); exact rfl; exact rfl; exact zml; exact zkp; exact ⟨rfl, rfl, rfl⟩)
  · rw [show chkR lost mark l room = 2 from if_neg (fun h => h0 h.1)]
    unfold bnd at h0
    refine Ct.enterV (by rfl) Try.func54 rfl Try.ntmps54 rfl (fun w0 Rest => ?_)
    (repeat' (first | refine zss ?_ | refine zsM ?_ | ((with_reducible apply At.box (d := 2)); exact rfl; exact rfl; exact rfl; intro b2) | (refine zsp ?_ ?_ <;> (intro hc; (try simp only [zhcs, reduceCtorEq] at hc); (try (exfalso; first | omega | contradiction | omega | exact absurd rfl hc | exact absurd (by decide) hc))))))
    all_goals ((with_reducible apply At.retB1 (B := [])); exact rfl; exact rfl; exact zml; exact zkp; exact ⟨rfl, rfl, rfl⟩)
theorem last {m : Mem} (lost mark : Int) (p : Option Addr) (c : Nat) (l : List Ev) (hl : l.length ≤ 1000000) (sl0 : Sl m cells 4 p c l) :
    Rd Try.prog 68 #[rv lost mark p l.length c] m [] (.tuple #[(lastV l).v, .int .i64 (lastE l)]) := by
  unfold Rd
  by_cases h : l.length = 0
  · rw [show lastV l = z from if_pos h, show lastE l = 3 from if_pos h]
    refine Ct.enterV (by rfl) Try.func68 rfl Try.ntmps68 rfl (fun w0 Rest => ?_)
    (repeat' (first | refine zss ?_ | refine zsM ?_ | ((with_reducible apply At.box (d := 1)); exact rfl; exact rfl; exact rfl; intro b1) | ((with_reducible apply At.alloc (d := 2)); exact rfl; exact rfl; intro b2) | (refine zsp ?_ ?_ <;> (intro hc; (try simp only [zhcs, reduceCtorEq] at hc); (try (exfalso; first | omega | contradiction | omega | exact absurd rfl hc | exact absurd (by decide) hc))))))
    all_goals ((with_reducible apply At.retV (B := [])); exact rfl; (repeat' (first | exact RVs.nil | (with_reducible apply RVs.cons) | exact rv_tmp (by rfl) | exact rv_cellN (by rfl) (by repeat constructor) (by rfl) (by rfl) (by rfl) | exact rv_cell1 (by rfl) (by repeat constructor) (by rfl) (by rfl))); exact zml; exact zkp; exact ⟨rfl, rfl, rfl⟩)
  · obtain ⟨j, hj⟩ : ∃ j, l.length - 1 = j := ⟨_, rfl⟩
    have hw : IntKind.wrap .i64 ((l.length : Int) - 1) = (j : Int) := by rw [show (l.length : Int) - 1 = (j : Int) by omega]; exact IntWalk.i64_in _ (by omega)
    rw [show lastV l = l[j]! by unfold lastV; rw [if_neg h, hj], show lastE l = 0 from if_neg h]
    refine Ct.enterV (by rfl) Try.func68 rfl Try.ntmps68 rfl (fun w0 Rest => ?_)
    (repeat' (first | refine zss ?_ | ((first | (with_reducible first | apply At.val | apply AtQ.val)); (exact pr_sub (by rfl) (by rfl) hw); exact rfl) | refine zsM ?_ | ((with_reducible apply At.box (d := 1)); exact rfl; exact rfl; exact rfl; intro b1) | ((with_reducible apply At.alloc (d := 2)); exact rfl; exact rfl; intro b2) | (refine zsp ?_ ?_ <;> (intro hc; (try simp only [zhcs, reduceCtorEq] at hc); (try (exfalso; first | omega | contradiction | omega | exact absurd rfl hc | exact absurd (by decide) hc))))))
    all_goals ((with_reducible apply At.retV (B := [])); exact rfl; (repeat' (first | exact RVs.nil | (with_reducible apply RVs.cons) | exact rv_tmp (by rfl) | exact rv_cellN (by rfl) (by repeat constructor) (by rfl) (by rfl) (by rfl) | exact rv_cell1 (by rfl) (by repeat constructor) (by rfl) (by rfl))); exact zml; exact zkp; exact ⟨rfl, rfl, rfl⟩)
theorem equal {m : Mem} (p : Option Addr) (c : Nat) (a : List Ev) (q : Option Addr) (d : Nat) (b : List Ev) (hl : a.length ≤ 1000000) (hlb : b.length ≤ 1000000) (sl0 : Sl m cells 4 p c a) (sl1 : Sl m cells 4 q d b) :
    Rd Try.prog 62 #[.slice p a.length c, .slice q b.length d] m [] (.bool (decide (a = b))) := by
  unfold Rd
  by_cases hlen : a.length = b.length
  · refine Ct.enterV (by rfl) Try.func62 rfl Try.ntmps62 rfl (fun w0 Rest => ?_)
    (repeat' (first | refine zss ?_ | refine zsM ?_ | (refine zsp ?_ ?_ <;> (intro hc; (try simp only [zhcs, reduceCtorEq] at hc); (try (exfalso; first | omega | contradiction | omega | exact absurd rfl hc | exact absurd (by decide) hc))))))
    (refine At.loopk (σ := Nat) [0, 1, 12] (fun s F0 => (13, .int .i64 (s : Int)) :: F0) (fun s => m) (fun s => Rest) (fun s => s ≤ a.length ∧ ∀ i, i < s → a[i]! = b[i]!) (fun s => a.length - s) 0 (by rfl) ?_ zsubs zml zente ?_)
    · exact ⟨Nat.zero_le _, fun i h => absurd h (Nat.not_lt_zero i)⟩
    rintro s ⟨hs, hn⟩
    by_cases h : s < a.length
    · by_cases e : a[s]! = b[s]!
      · have hnn : ∀ i, i < s + 1 → a[i]! = b[i]! := fun i hi => by
          by_cases e1 : i = s
          · subst e1; exact e
          · exact hn i (by omega)
        (repeat' (first | refine zss ?_ | ((first | (with_reducible first | apply At.val | apply AtQ.val)); (exact pr_evne (by rfl) (by rfl)); exact rfl) | refine zsM ?_ | (refine zsp ?_ ?_ <;> (intro hc; (try simp only [zhcs, reduceCtorEq] at hc); (try (exfalso; first | (first | omega | exact absurd e hc) | contradiction | omega | exact absurd rfl hc | exact absurd (by decide) hc))))))
        all_goals ((with_reducible refine At.reachk ((s + 1)) ?_ ?_ ?_ ?_); exact zsubs; exact zml; exact zente; exact ⟨⟨h, hnn⟩, by omega⟩)
      · rw [decide_eq_false (show ¬ a = b from fun h => e (by rw [h]))]
        (repeat' (first | refine zss ?_ | ((first | (with_reducible first | apply At.val | apply AtQ.val)); (exact pr_evne (by rfl) (by rfl)); exact rfl) | refine zsM ?_ | (refine zsp ?_ ?_ <;> (intro hc; (try simp only [zhcs, reduceCtorEq] at hc); (try (exfalso; first | (first | omega | exact absurd hc e) | contradiction | omega | exact absurd rfl hc | exact absurd (by decide) hc))))))
        all_goals ((with_reducible apply At.retB1 (B := [])); exact rfl; exact rfl; exact zml; exact zkp; exact ⟨rfl, rfl, rfl⟩)
    · rw [decide_eq_true (show a = b from List.ext_getElem hlen fun i h1 h2 => by have := hn i (by omega); rwa [getElem!_pos a i h1, getElem!_pos b i h2] at this)]
      (repeat' (first | refine zss ?_ | refine zsM ?_ | (refine zsp ?_ ?_ <;> (intro hc; (try simp only [zhcs, reduceCtorEq] at hc); (try (exfalso; first | omega | contradiction | omega | exact absurd rfl hc | exact absurd (by decide) hc))))))
      all_goals ((with_reducible apply At.retB1 (B := [])); exact rfl; exact rfl; exact zml; exact zkp; exact ⟨rfl, rfl, rfl⟩)
  · rw [decide_eq_false (show ¬ a = b from fun h => hlen (by rw [h]))]
    refine Ct.enterV (by rfl) Try.func62 rfl Try.ntmps62 rfl (fun w0 Rest => ?_)
    (repeat' (first | refine zss ?_ | refine zsM ?_ | (refine zsp ?_ ?_ <;> (intro hc; (try simp only [zhcs, reduceCtorEq] at hc); (try (exfalso; first | omega | contradiction | omega | exact absurd rfl hc | exact absurd (by decide) hc))))))
    all_goals ((with_reducible apply At.retB1 (B := [])); exact rfl; exact rfl; exact zml; exact zkp; exact ⟨rfl, rfl, rfl⟩)
def eqR (r o : Rw) : Bool := decide (r.lost = o.lost ∧ r.mark = o.mark ∧ r.l = o.l)
theorem eqR_1 {r o : Rw} (h : ¬ r.lost = o.lost) : eqR r o = false := decide_eq_false fun e => h e.1
theorem eqR_2 {r o : Rw} (h : ¬ r.mark = o.mark) : eqR r o = false := decide_eq_false fun e => h e.2.1
theorem eqR_3 {r o : Rw} (h1 : r.lost = o.lost) (h2 : r.mark = o.mark) : eqR r o = decide (r.l = o.l) := by unfold eqR; simp [h1, h2]
theorem same {m : Mem} (r o : Rw) (hr : r.l.length ≤ 1000000) (ho : o.l.length ≤ 1000000) (sl0 : Sl m cells 4 r.p r.c r.l) (sl1 : Sl m cells 4 o.p o.c o.l) :
    Rd Try.prog 50 #[r.v, o.v] m [] (.bool (eqR r o)) := by
  unfold Rd
  by_cases h1 : r.lost = o.lost
  · by_cases h2 : r.mark = o.mark
    · rw [eqR_3 h1 h2]
      refine Ct.enterV (by rfl) Try.func50 rfl Try.ntmps50 rfl (fun w0 Rest => ?_)
      (repeat' (first | refine zss ?_ | refine zsM ?_ | ((with_reducible first | apply AtM1.cr | apply AtQ.cr | apply At.cr); exact rfl; exact rfl; exact fun _ hmm => equal r.p r.c r.l o.p o.c o.l hr ho (sl0.mono hmm) (sl1.mono hmm); exact ztk; kernel_rfl) | ((with_reducible apply At.box (d := 2)); exact rfl; exact rfl; exact rfl; intro b2) | ((with_reducible apply At.box (d := 3)); exact rfl; exact rfl; exact rfl; intro b3) | (refine zsp ?_ ?_ <;> (intro hc; (try simp only [zhcs, reduceCtorEq] at hc); (try (exfalso; first | omega | contradiction | omega | exact absurd rfl hc | exact absurd (by decide) hc))))))
      all_goals ((with_reducible apply At.retB1 (B := [])); exact rfl; exact rfl; exact zml; exact zkp; exact ⟨rfl, rfl, rfl⟩)
    · rw [eqR_2 h2]
      refine Ct.enterV (by rfl) Try.func50 rfl Try.ntmps50 rfl (fun w0 Rest => ?_)
      (repeat' (first | refine zss ?_ | refine zsM ?_ | ((with_reducible apply At.box (d := 2)); exact rfl; exact rfl; exact rfl; intro b2) | ((with_reducible apply At.box (d := 3)); exact rfl; exact rfl; exact rfl; intro b3) | (refine zsp ?_ ?_ <;> (intro hc; (try simp only [zhcs, reduceCtorEq] at hc); (try (exfalso; first | omega | contradiction | omega | exact absurd rfl hc | exact absurd (by decide) hc))))))
      all_goals ((with_reducible apply At.retB1 (B := [])); exact rfl; exact rfl; exact zml; exact zkp; exact ⟨rfl, rfl, rfl⟩)
  · rw [eqR_1 h1]
    refine Ct.enterV (by rfl) Try.func50 rfl Try.ntmps50 rfl (fun w0 Rest => ?_)
    (repeat' (first | refine zss ?_ | refine zsM ?_ | ((with_reducible apply At.box (d := 2)); exact rfl; exact rfl; exact rfl; intro b2) | ((with_reducible apply At.box (d := 3)); exact rfl; exact rfl; exact rfl; intro b3) | (refine zsp ?_ ?_ <;> (intro hc; (try simp only [zhcs, reduceCtorEq] at hc); (try (exfalso; first | omega | contradiction | omega | exact absurd rfl hc | exact absurd (by decide) hc))))))
    all_goals ((with_reducible apply At.retB1 (B := [])); exact rfl; exact rfl; exact zml; exact zkp; exact ⟨rfl, rfl, rfl⟩)
end Raw
end Go.Proofs.Ytecifniognbomaa
/- The order of texts. -/
set_option linter.unusedSimpArgs false
set_option linter.unusedVariables false
set_option linter.unusedSectionVars false
set_option maxRecDepth 20000
namespace Go.J
open Go
abbrev ltB : List UInt8 → List UInt8 → Bool := Op.bytesLess
theorem u8_lt_irrefl (a : UInt8) : ¬ a < a := by rw [UInt8.lt_iff_toNat_lt]; omega
theorem u8_lt_trans {a b c : UInt8} (h : a < b) (k : b < c) : a < c := by rw [UInt8.lt_iff_toNat_lt] at *; omega
theorem u8_tri (a b : UInt8) : a < b ∨ a = b ∨ b < a := by
  rw [UInt8.lt_iff_toNat_lt, UInt8.lt_iff_toNat_lt]
  rcases Nat.lt_trichotomy a.toNat b.toNat with h | h | h
  · exact .inl h
  · exact .inr (.inl (UInt8.toNat_inj.1 h))
  · exact .inr (.inr h)
theorem ltB_cons (a b : UInt8) (x y : List UInt8) : ltB (a :: x) (b :: y) = true ↔ a < b ∨ (a = b ∧ ltB x y = true) := by
  simp [ltB, Op.bytesLess]
theorem ltB_nil (x : List UInt8) : ltB x [] = false := by cases x <;> rfl
theorem ltB_nil_cons (b : UInt8) (y : List UInt8) : ltB [] (b :: y) = true := rfl
theorem ltB_irrefl : ∀ x : List UInt8, ltB x x = false
  | [] => rfl
  | a :: x => by
    have := ltB_irrefl x
    cases h : ltB (a :: x) (a :: x) with
    | false => rfl
    | true => rcases (ltB_cons a a x x).1 h with h | ⟨_, h⟩
              · exact absurd h (u8_lt_irrefl a)
              · rw [this] at h; cases h
theorem ltB_trans : ∀ {x y z : List UInt8}, ltB x y = true → ltB y z = true → ltB x z = true
  | x, [], _, h, _ => by rw [ltB_nil] at h; cases h
  | _, _ :: _, [], _, k => by rw [ltB_nil] at k; cases k
  | [], _ :: _, _ :: _, _, _ => rfl
  | a :: x, b :: y, c :: z, h, k => by
    rw [ltB_cons] at h k ⊢
    rcases h with h | ⟨rfl, h⟩
    · rcases k with k | ⟨rfl, k⟩
      · exact .inl (u8_lt_trans h k)
      · exact .inl h
    · rcases k with k | ⟨rfl, k⟩
      · exact .inl k
      · exact .inr ⟨rfl, ltB_trans h k⟩
theorem ltB_tri : ∀ x y : List UInt8, ltB x y = true ∨ x = y ∨ ltB y x = true
  | [], [] => .inr (.inl rfl)
  | [], _ :: _ => .inl rfl
  | _ :: _, [] => .inr (.inr rfl)
  | a :: x, b :: y => by
    rw [ltB_cons, ltB_cons]
    rcases u8_tri a b with h | rfl | h
    · exact .inl (.inl h)
    · rcases ltB_tri x y with h | rfl | h
      · exact .inl (.inr ⟨rfl, h⟩)
      · exact .inr (.inl rfl)
      · exact .inr (.inr (.inr ⟨rfl, h⟩))
    · exact .inr (.inr (.inl h))
theorem ltB_asymm {x y : List UInt8} (h : ltB x y = true) : ltB y x = false := by
  cases k : ltB y x with
  | false => rfl
  | true => have := ltB_trans h k; rw [ltB_irrefl] at this; cases this
theorem ltB_ne {x y : List UInt8} (h : ltB x y = true) : x ≠ y := fun e => by subst e; rw [ltB_irrefl] at h; cases h
theorem gtB (x y : List UInt8) : (!(ltB x y || x == y)) = ltB y x := by
  rcases ltB_tri x y with h | rfl | h
  · rw [h, ltB_asymm h]; rfl
  · rw [ltB_irrefl]; simp
  · rw [h, ltB_asymm h]
    have : (x == y) = false := by simpa using (ltB_ne h).symm
    rw [this]; rfl
/-- what begins so does not come ahead of it -/
theorem pre_not_lt : ∀ {f s : List UInt8}, f <+: s → ltB s f = false
  | [], s, _ => ltB_nil s
  | a :: f, [], h => by cases (List.prefix_nil.1 h)
  | a :: f, b :: s, h => by
    rw [List.cons_prefix_cons] at h
    obtain ⟨rfl, h⟩ := h
    have ih := pre_not_lt h
    cases k : ltB (a :: s) (a :: f) with
    | false => rfl
    | true => rcases (ltB_cons a a s f).1 k with k | ⟨_, k⟩
              · exact absurd k (u8_lt_irrefl a)
              · rw [ih] at k; cases k
/-- where one begins so no more, none behind it does -/
theorem pre_gone : ∀ {f s t : List UInt8}, ltB s f = false → ¬ f <+: s → ltB s t = true → ¬ f <+: t
  | [], s, _, _, h, _ => absurd (List.nil_prefix) h
  | a :: f, [], _, h, _, _ => by cases h
  | a :: f, b :: s, [], _, _, h => by rw [ltB_nil] at h; cases h
  | a :: f, b :: s, c :: t, h1, h2, h3 => fun h4 => by
    rw [List.cons_prefix_cons] at h2 h4
    obtain ⟨rfl, h4⟩ := h4
    have h1' : ¬ (b < a ∨ (b = a ∧ ltB s f = true)) := fun e => by rw [(ltB_cons b a s f).2 e] at h1; cases h1
    rcases (ltB_cons b a s t).1 h3 with k3 | ⟨rfl, k3⟩
    · exact h1' (.inl k3)
    · refine pre_gone (f := f) (s := s) (t := t) ?_ (fun e => h2 ⟨rfl, e⟩) k3 h4
      cases k : ltB s f with
      | false => rfl
      | true => exact absurd (.inr ⟨rfl, k⟩) h1'
section
variable {P : Program} {n : Nat} {F : Fr} {C : World → Prop} {x y : Operand} {p q : List UInt8} {t u : TypeId} {r : Bool}
theorem run_strcmp (op : BinOp) (hop : op = .lss ∨ op = .leq ∨ op = .gtr ∨ op = .geq) {v : Bool} (hx : ev F x = some (.string (str p))) (hy : ev F y = some (.string (str q)))
    (hv : (Op.stringOp op (str p) (str q)) = pure (.bool v)) : PR P n F C (.binOp op t x y u) (.bool v) := fun _ _ _ _ _ a w ha _ => by
  have hg : ∀ w, (eqGuard op t x y (.string (str p)) (.string (str q))).run P w = .ok () w := fun w => by rcases hop with rfl | rfl | rfl | rfl <;> rfl
  have hb : binOp op t (.string (str p)) (.string (str q)) = Op.stringOp op (str p) (str q) := by rcases hop with rfl | rfl | rfl | rfl <;> rfl
  simp only [execOp, ha.ev hx, ha.ev hy, hb, Sem.run_bind, hg, Result.andThen]
  rw [hv]
  rfl
theorem pr_strlss (hx : ev F x = some (.string (str p))) (hy : ev F y = some (.string (str q))) (h : ltB p q = r) : PR P n F C (.binOp .lss t x y u) (.bool r) :=
  run_strcmp .lss (.inl rfl) hx hy (by subst h; simp [Op.stringOp, str])
theorem pr_strgtr (hx : ev F x = some (.string (str p))) (hy : ev F y = some (.string (str q))) (h : ltB q p = r) : PR P n F C (.binOp .gtr t x y u) (.bool r) :=
  run_strcmp .gtr (.inr (.inr (.inl rfl))) hx hy (by subst h; rw [← gtB]; simp [Op.stringOp, str])
theorem pr_strleq (hx : ev F x = some (.string (str p))) (hy : ev F y = some (.string (str q))) (h : ltB q p = r) : PR P n F C (.binOp .leq t x y u) (.bool (!r)) :=
  run_strcmp .leq (.inr (.inl rfl)) hx hy (by subst h; rw [← gtB, Bool.not_not]; simp [Op.stringOp, str])
theorem pr_strgeq (hx : ev F x = some (.string (str p))) (hy : ev F y = some (.string (str q))) (h : ltB p q = r) : PR P n F C (.binOp .geq t x y u) (.bool (!r)) :=
  run_strcmp .geq (.inr (.inr (.inr rfl))) hx hy (by subst h; simp [Op.stringOp, str])
end
end Go.J
/- Labels (plain): which are right, what a name has, their order. -/
set_option linter.unusedSimpArgs false
set_option linter.unusedVariables false
set_option linter.unusedSectionVars false
set_option maxRecDepth 20000
set_option maxHeartbeats 4000000
namespace Go.Proofs.Ytecifniognbomaa
open Go Go.J
/-- a label -/
structure Lab where
  (n v : List UInt8)
deriving DecidableEq, Inhabited
abbrev Lab.val (x : Lab) : Value := .agg #[.string (str x.n), .string (str x.v)]
namespace Lb
abbrev cells : Lab → List Value := fun x => [.string (str x.n), .string (str x.v)]
instance : Fl cells 2 := ⟨fun _ => rfl, fun _ v h => by simp at h; rcases h with rfl | rfl <;> rfl, by decide⟩
def dig (c : UInt8) : Bool := decide (48 ≤ bI c ∧ bI c ≤ 57)
def sgn (c : UInt8) : Bool := decide ((97 ≤ bI c ∧ bI c ≤ 122) ∨ (65 ≤ bI c ∧ bI c ≤ 90) ∨ (48 ≤ bI c ∧ bI c ≤ 57) ∨ bI c = 95)
def nameB (s : List UInt8) : Bool := decide (1 ≤ s.length ∧ s.length ≤ 64 ∧ dig s[0]! = false ∧ ∀ i, i < s.length → sgn s[i]! = true)
def okAt (l : List Lab) (i : Nat) : Bool := decide (nameB l[i]!.n = true ∧ l[i]!.v.length ≤ 128 ∧ (0 < i → ltB l[i - 1]!.n l[i]!.n = true))
def tot (l : List Lab) : Nat := (l.map fun x => x.n.length + x.v.length).sum
def right (l : List Lab) : Prop := 1 ≤ l.length ∧ l.length ≤ 16 ∧ (∀ i, i < l.length → okAt l i = true) ∧ tot l ≤ 256
instance (l : List Lab) : Decidable (right l) := by unfold right; infer_instance
def chk (l : List Lab) : Int := if right l then 0 else 8
def few (l : List Lab) : Prop := l.length ≤ 40 ∧ ∀ i, i < l.length → l[i]!.n.length ≤ 1000 ∧ l[i]!.v.length ≤ 1000
instance (l : List Lab) : Decidable (few l) := by unfold few; infer_instance
def val (l : List Lab) (t : List UInt8) : List UInt8 := match l.find? fun x => decide (x.n = t) with
  | some x => x.v
  | none => []
theorem or_letter : ∀ n : Nat, n < 256 → (decide (97 ≤ bits .or .u8 (n : Int) 32 ∧ bits .or .u8 (n : Int) 32 ≤ 122)) = decide ((97 ≤ (n : Int) ∧ (n : Int) ≤ 122) ∨ (65 ≤ (n : Int) ∧ (n : Int) ≤ 90)) := by decide +kernel
theorem or_let (c : UInt8) : (97 ≤ bits .or .u8 (bI c) 32 ∧ bits .or .u8 (bI c) 32 ≤ 122) ↔ ((97 ≤ bI c ∧ bI c ≤ 122) ∨ (65 ≤ bI c ∧ bI c ≤ 90)) := by
  have := or_letter c.toNat c.toNat_lt
  rwa [decide_eq_decide] at this
theorem lab_ext {a b : Lab} (h1 : a.n = b.n) (h2 : a.v = b.v) : a = b := by cases a; cases b; cases h1; cases h2; rfl
theorem and_lab (a b : Lab) : andL [decide (str a.n = str b.n), decide (str a.v = str b.v)] = decide (a = b) := by
  by_cases h : a = b
  · subst h; simp [andL_cons, andL_nil]
  · rw [decide_eq_false h]
    cases hb : andL [decide (str a.n = str b.n), decide (str a.v = str b.v)] with
    | false => rfl
    | true =>
      simp only [andL_cons, andL_nil, Bool.and_eq_true, decide_eq_true_eq] at hb
      exact absurd (lab_ext (str_inj.1 hb.1) (str_inj.1 hb.2.1)) h
theorem pr_lbne {n : Nat} {F : Fr} {C : World → Prop} {x y : Operand} {u : TypeId} {a b : Lab} (hx : ev F x = some a.val) (hy : ev F y = some b.val) : PR Try.prog n F C (.binOp .neq 87 x y u) (.bool (!decide (a = b))) := by
  rw [← and_lab]
  exact pr_aggne2 hx hy (by rfl) (by kernel_rfl) (by kernel_rfl) (by rfl)
theorem pr_lbeq {n : Nat} {F : Fr} {C : World → Prop} {x y : Operand} {u : TypeId} {a b : Lab} (hx : ev F x = some a.val) (hy : ev F y = some b.val) : PR Try.prog n F C (.binOp .eql 87 x y u) (.bool (decide (a = b))) := by
  rw [← and_lab]
  exact pr_aggeq2 hx hy (by rfl) (by kernel_rfl) (by kernel_rfl) (by rfl)
theorem tot_take {l : List Lab} {i : Nat} (h : i < l.length) : tot (l.take (i + 1)) = tot (l.take i) + (l[i]!.n.length + l[i]!.v.length) := by
  rw [Ls.take_snoc h]; simp [tot]
theorem tot_take_le (l : List Lab) (i : Nat) : tot (l.take i) ≤ tot l := by
  conv => rhs; rw [← List.take_append_drop i l]
  unfold tot
  rw [List.map_append, List.sum_append]
  omega
theorem bad_at {l : List Lab} {i : Nat} (hi : i < l.length) (h : ¬ (nameB l[i]!.n = true ∧ l[i]!.v.length ≤ 128 ∧ (0 < i → ltB l[i - 1]!.n l[i]!.n = true))) : chk l = 8 := by
  unfold chk
  rw [if_neg fun k => h (of_decide_eq_true (k.2.2.1 i hi))]
theorem bad_tot {l : List Lab} {i : Nat} (h : 256 < tot (l.take i)) : chk l = 8 := by
  unfold chk
  have := tot_take_le l i
  rw [if_neg fun k => by have := k.2.2.2; omega]
theorem bad_len {l : List Lab} (h : l.length < 1 ∨ 16 < l.length) : chk l = 8 := by
  unfold chk
  rw [if_neg fun k => by have := k.1; have := k.2.1; omega]
theorem chk_ok {l : List Lab} (h : right l) : chk l = 0 := if_pos h
theorem chk_right {l : List Lab} : chk l = 0 ↔ right l := by
  unfold chk; split
  · simp [*]
  · simp [*]
theorem val_none {l : List Lab} {t : List UInt8} (h : ∀ i, i < l.length → l[i]!.n ≠ t) : val l t = [] := by
  unfold val
  rw [List.find?_eq_none.2]
  intro x hx
  obtain ⟨i, hi, rfl⟩ := List.mem_iff_getElem.1 hx
  have := h i hi
  rw [getElem!_pos l i hi] at this
  simpa using this
theorem val_at : ∀ {l : List Lab} {t : List UInt8} {i : Nat}, i < l.length → l[i]!.n = t → (∀ k, k < i → l[k]!.n ≠ t) → val l t = l[i]!.v
  | [], _, _, h, _, _ => absurd h (Nat.not_lt_zero _)
  | x :: l, t, 0, _, h, _ => by unfold val; rw [List.find?_cons, show decide (x.n = t) = true from decide_eq_true h]; rfl
  | x :: l, t, i + 1, hi, h, hk => by
    have h0 : x.n ≠ t := hk 0 (by omega)
    have := val_at (l := l) (t := t) (i := i) (by simpa using hi) (by simpa using h) (fun k hk' => by simpa using hk (k + 1) (by omega))
    unfold val at this ⊢
    rw [List.find?_cons, show decide (x.n = t) = false from decide_eq_false h0]
    simpa using this
theorem nameB_no {s : List UInt8} (h : ¬ (1 ≤ s.length ∧ s.length ≤ 64 ∧ dig s[0]! = false ∧ ∀ i, i < s.length → sgn s[i]! = true)) : nameB s = false := decide_eq_false h
end Lb
end Go.Proofs.Ytecifniognbomaa
/- The bytes of a text that may be written; an array as a slice. -/
set_option linter.unusedSimpArgs false
set_option linter.unusedVariables false
set_option linter.unusedSectionVars false
set_option maxRecDepth 20000
namespace Go.J
open Go
/-- the bytes of a text, that may be written -/
def Res.byt (E : TypeId) (p : Option Addr) (c : Nat) (L : List Int) : Res where
  p w s := ∃ g cur, p = some ⟨g, 0, none⟩ ∧ w.heap[g]? = some (.cells cur E (cur.size, cur.size + 1)) ∧ L.length ≤ c ∧ c ≤ maxLen ∧ c ≤ cur.size ∧ (∀ j, j < L.length → cur[j]? = some (.int .u8 L[j]!)) ∧ ∀ k, s k ↔ k = g
  loc := fun {w w' s} h he => by
    obtain ⟨g, cur, h1, h2, h3, h4, h5, h6, h7⟩ := h
    exact ⟨g, cur, h1, by rw [he g ((h7 g).2 rfl)]; exact h2, h3, h4, h5, h6, h7⟩
  dom := fun {w s k} h hk => by
    obtain ⟨g, cur, h1, h2, h3, h4, h5, h6, h7⟩ := h
    rw [(h7 k).1 hk]; exact (Array.getElem?_eq_some_iff.1 h2).1
section
variable {P : Program} {n : Nat} {w0 : World} {F : Fr} {m : Mem} {Rs Rs' : List Res} {Q : Exit → Act → World → Prop} {K : Act → World → Prop} {E : TypeId} {p : Option Addr} {c : Nat} {L : List Int}
theorem byt_rdb (hp : Pick Rs (.byt E p c L) Rs') : Rdb (HW w0 m Rs) fb 1 p c L := by
  refine ⟨inferInstance, fun w hw hl => ?_, fun w hw => ?_, fun w hw i j hi hj => ?_⟩
  · obtain ⟨_, g, cur, h1, _⟩ := hw.get hp
    exact ⟨g, 0, h1⟩
  · obtain ⟨_, g, cur, h1, h2, h3, _⟩ := hw.get hp
    exact h3
  · obtain ⟨_, g, cur, h1, h2, h3, h4, h5, h6, h7⟩ := hw.get hp
    subst h1
    have hj0 : j = 0 := by omega
    subst hj0
    show w.cell? ⟨g, 0 + (i * 1 + 0), none⟩ = _
    rw [World.cell_of h2, show 0 + (i * 1 + 0) = i by omega, h6 i hi]
    rfl
theorem At.byt_freeze (hp : Pick Rs (.byt E p c L) Rs') (h : ∀ m' : Mem, m.le m' → Sl m' fb 1 p c L → At n w0 F m' Rs' K) : At n w0 F m Rs K := fun a w ha hw => by
  obtain ⟨s, ⟨s1, s2, h1, h2, hd, he⟩, hm⟩ := (hw.ent (Ent.of_pick hp)).res
  obtain ⟨g, cur, rfl, h4, h5, h6, h7, h8, hg⟩ := h1
  have hmb : m g = none := hm g ((he g).2 (.inl ((hg g).2 rfl)))
  refine h (fun k => if k = g then some (.cells cur E (cur.size, cur.size + 1)) else m k) (fun k o hk => ?_) ⟨inferInstance, h5, h6, (fun e => by cases e), fun a' ha' _ => ?_⟩ a w ha
    ⟨hw.os, hw.tape, hw.output, hw.size, fun k o hk => ?_, s2, h2, fun k hk => ?_⟩
  · show (if k = g then _ else _) = _
    rw [if_neg (fun e => by subst e; rw [hmb] at hk; cases hk)]; exact hk
  · cases ha'
    refine ⟨rfl, E, cur, _, if_pos rfl, by show 0 + c * 1 ≤ _; omega, fun i j hi hj => ?_⟩
    have hj0 : j = 0 := by omega
    subst hj0
    show cur[0 + (i * 1 + 0)]? = _
    rw [show 0 + (i * 1 + 0) = i by omega, h8 i hi]
    rfl
  · by_cases e : k = g
    · subst e
      rw [if_pos rfl] at hk; cases hk; exact h4
    · rw [if_neg e] at hk; exact hw.mem k o hk
  · show (if k = g then _ else _) = _
    rw [if_neg (fun e => hd k ⟨(hg k).2 e, hk⟩)]
    exact hm k ((he k).2 (.inr hk))
theorem At.str_own {ops : Array Oper} {rest : List Oper} {d : Nat} {x : Operand} {s t e : TypeId} {ty : TypeId} {pos : String} {aft : Array Edge} {l : List UInt8}
    (hs : P.underlying s = some .string) (ht : P.underlying t = some (.slice e)) (he : P.underlying e = some (.int .u8)) (hx : ev F x = some (.string (str l))) (hl : l.length ≤ 34359738368) (hd : Nat.blt d n = true)
    (h : ∀ p c, At n w0 ((d, .slice p (l.map bI).length c) :: F) m (.byt e p c (l.map bI) :: Rs) (wpList P ops Q rest)) : At n w0 F m Rs (wpList P ops Q (⟨some d, .convert s t x, ty, pos, aft, none⟩ :: rest)) := fun a w ha hw =>
  wpList_plain rfl fun K hK => by
    have hrun := run_bytes_of_string (P := P) w s t e (str l) hs ht he
    have hge := grownCap_ge w (str l).size 0 e
    have hle := grownCap_le_maxLen w (str l).size 0 e (by rw [str_size]; simp only [maxLen]; omega)
    generalize grownCap w (str l).size 0 e = c at hrun hge hle
    rw [str_size] at hrun hge
    have hsize : (bytesRow (str l) c).size = c := by rw [bytesRow_str]; simp; omega
    unfold Oper.wp
    have hex : (execOp a.eval ⟨some d, .convert s t x, ty, pos, aft, none⟩).run P w = .ok (.value (.slice (some ⟨w.heap.size, 0, none⟩) l.length c)) (w.drew.alloc (.cells (bytesRow (str l) c) e ((bytesRow (str l) c).size, (bytesRow (str l) c).size + 1))) := by
      simp only [execOp, ha.ev hx, Sem.run_bind, hrun, Result.andThen]
      rfl
    rw [hex]
    refine hK _ _ (h (some ⟨w.heap.size, 0, none⟩) c _ _ (by rw [List.length_map]; exact ha.put hd) (hw.add rfl rfl rfl (by show w.heap.size ≤ (w.heap.push _).size; simp) (fun k hk => by show (w.heap.push _)[k]? = _; rw [Array.getElem?_push, if_neg (by omega)])
      ⟨fun k => k = w.heap.size, ⟨w.heap.size, bytesRow (str l) c, rfl, by show (w.heap.push _)[w.heap.size]? = _; simp, by simpa using hge, hle, by rw [hsize]; exact Nat.le_refl _, fun j hj => ?_, fun _ => Iff.rfl⟩, fun k hk => by omega⟩))
    have hj' : j < l.length := by simpa using hj
    rw [bytesRow_str, Array.getElem?_append_left (by simp; omega)]
    simp [hj']
theorem At.store_byt {ops : Array Oper} {rest : List Oper} {t : TypeId} {x y : Operand} {ty : TypeId} {pos : String} {aft : Array Edge} {k : Nat} {v : Int}
    (hx : ev F x = some (.pointer (some (at_ p (k * 1))))) (hy : ev F y = some (.int .u8 v)) (hp : Pick Rs (.byt E p c L) Rs') (hs : sizeB P t = some 1) (hk : k < L.length)
    (h : At n w0 F m (.byt E p c (L.set k v) :: Rs') (wpList P ops Q rest)) : At n w0 F m Rs (wpList P ops Q (⟨none, .store t x y, ty, pos, aft, none⟩ :: rest)) := fun a w ha hw =>
  wpList_plain rfl fun K hK => by
    have hrow : ∀ s, (Res.byt E p c L).p w s → ∃ w', (storeVar t (at_ p (k * 1)) (.int .u8 v)).run P w = .ok () w' ∧ (Res.byt E p c (L.set k v)).p w' s ∧ w'.os = w.os ∧ w'.tape = w.tape ∧ w'.output = w.output ∧ w.heap.size ≤ w'.heap.size ∧ (∀ k, k < w.heap.size → ¬ s k → w'.heap[k]? = w.heap[k]?) := fun s hown => by
      obtain ⟨g, cur, rfl, h4, h5, h6, h7, h8, hgs⟩ := hown
      have hkc : k < cur.size := by omega
      have e0 : at_ (some ⟨g, 0, none⟩) (k * 1) = ⟨g, k, none⟩ := by show (⟨g, 0 + k * 1, none⟩ : Addr) = _; congr 1; omega
      have hcell : w.cell? ⟨g, k, none⟩ = some cur[k] := by simp [World.cell?, h4, hkc]
      have hfro : w.frozen? ⟨g, k, none⟩ = false := by
        simp only [World.frozen?, h4, Bool.and_eq_false_iff, decide_eq_false_iff_not]
        left
        omega
      have hst : (storeVar t (at_ (some ⟨g, 0, none⟩) (k * 1)) (.int .u8 v)).run P w = .ok () (w.setRow g (cur.setIfInBounds k (.int .u8 v))) := by
        have hs1 : (_root_.Go.store (⟨g, k, none⟩ : Addr) (.int .u8 v)).run P w = .ok () (w.setRow g (cur.setIfInBounds k (.int .u8 v))) := by
          rw [run_store P w _ _ _ rfl, hcell]
          simp [hfro, setCell_eq_setRow w g k cur E _ (.int .u8 v) h4]
        have ha0 : (⟨g, k, none⟩ : Addr).add 0 = ⟨g, k, none⟩ := addr_add0 _
        rw [e0]
        simp only [storeVar, Sem.run_bind, run_sizeOf hs, Result.andThen]
        simp only [Value.cells, storeCells, Sem.run_bind, ha0, hs1, Result.andThen]
        rw [if_neg (show ¬ ((#[Value.int .u8 v] : Array Value).size ≠ 1) by simp)]
        simp only [Sem.run_bind, hs1, Result.andThen]
        rfl
      refine ⟨_, hst, ⟨g, cur.setIfInBounds k (.int .u8 v), rfl, by rw [Array.size_setIfInBounds]; exact setRow_heap w g cur _ E _ h4, by rw [List.length_set]; exact h5, h6, by rw [Array.size_setIfInBounds]; exact h7, fun j hj => ?_, hgs⟩, rfl, rfl, rfl, by simp, fun i _ hi => setRow_other w g i _ (fun e => hi ((hgs i).2 e))⟩
      rw [List.length_set] at hj
      by_cases e : j = k
      · subst e
        rw [Array.getElem?_setIfInBounds_self_of_lt hkc, List.getElem!_eq_getElem?_getD, List.getElem?_set_self hj]; rfl
      · rw [Array.getElem?_setIfInBounds_ne (Ne.symm e), h8 j hj, List.getElem!_eq_getElem?_getD, List.getElem!_eq_getElem?_getD, List.getElem?_set_ne (Ne.symm e)]
    obtain ⟨s0, hown⟩ := hw.get hp
    obtain ⟨w', hr', _⟩ := hrow s0 hown
    have hrun' : (execOp a.eval ⟨none, .store t x y, ty, pos, aft, none⟩).run P w = .ok .skip w' := by
      have e0 : (Pure.pure (at_ p (k * 1)) : Sem Addr).run P w = .ok (at_ p (k * 1)) w := rfl
      simp only [execOp, ha.ev hx, ha.ev hy, Instr.storeAt, Instr.sureAddr, Sem.run_bind, e0, Result.andThen, hr']
      rfl
    unfold Oper.wp
    rw [hrun']
    refine hK _ _ (h _ _ ha (hw.turn hp fun s hs => ?_))
    obtain ⟨w2, hr2, h2, g1, g2, g3, g4, g5⟩ := hrow s hs
    rw [hr'] at hr2
    injection hr2 with _ e2
    subst e2
    exact ⟨s, h2, g1, g2, g3, g4, g5, fun k hk => .inl hk⟩
theorem pr_index_byt {x y : Operand} {t : TypeId} {ln k : Nat} {ki : IntKind} (hx : ev F x = some (.slice p ln c)) (hy : ev F y = some (.int ki (k : Int))) (hp : Pick Rs (.byt E p c L) Rs')
    (ht : P.underlying t = some (.slice E)) (hs : sizeB P E = some 1) (hl : ln = L.length) (hk : k < L.length) : PR P n F (HW w0 m Rs) (.indexAddr t x y) (.pointer (some (at_ p (k * 1)))) :=
  pr_indexAddr (byt_rdb hp) ht hs hx hy hl hk
theorem pr_load_byt {x : Operand} {t : TypeId} {k : Nat} (hx : ev F x = some (.pointer (some (at_ p (k * 1))))) (hp : Pick Rs (.byt E p c L) Rs') (hk : k < L.length) (ht : isAggB P t = some false) : PR P n F (HW w0 m Rs) (.load t x) (.int .u8 L[k]!) :=
  pr_load_sl1 (byt_rdb hp) hk ht hx rfl
/-- an array that is a block, as a slice -/
theorem pr_slice_arr {C : World → Prop} {x : Operand} {t e : TypeId} {len b sz : Nat} (hx : ev F x = some (.pointer (some ⟨b, 0, none⟩))) (ht : P.underlying t = some (.array len e)) (hs : sizeB P e = some sz) :
    PR P n F C (.slice t x none none none) (.slice (some ⟨b, 0, none⟩) len len) := fun _ _ _ _ _ a w ha hC => by
  have hr : ∀ w, (underlying t).run P w = .ok (.array len e) w := fun w => by simp only [underlying, program, bind, Sem.bind, Sem.run, ht]; rfl
  have hb : (Instr.sliceBounds false len len none none none).run P w = .ok (0, len, len) w := by
    unfold Instr.sliceBounds Instr.sliceBound
    simp [pure, Sem.run, bind, Sem.bind]
  have e0 : (Pure.pure (⟨b, 0, none⟩ : Addr) : Sem Addr).run P w = .ok ⟨b, 0, none⟩ w := rfl
  have hz : (if len = 0 then (⟨b, 0, none⟩ : Addr) else (⟨b, 0, none⟩ : Addr).add (0 * sz)) = ⟨b, 0, none⟩ := by
    split
    · rfl
    · rw [Nat.zero_mul]; exact addr_add0 _
  simp only [execOp, ha.ev hx, Option.map_none, Sem.run_bind]
  unfold Instr.sliceAt
  simp only [Sem.run_bind, hr, Result.andThen, Instr.sureAddr, e0, hb, run_sizeOf hs, pure, Sem.run, hz, Nat.sub_zero]
/-- such a slice can be read -/
theorem blk_rdb {b c : Nat} {L : List Int} (hp : Pick Rs (.blk b E (L.map (fun x => Value.int .u8 x))) Rs') (hc : L.length = c) : Rdb (HW w0 m Rs) fb 1 (some ⟨b, 0, none⟩) c L := by
  refine ⟨inferInstance, fun w hw hl => ⟨b, 0, rfl⟩, fun w hw => by omega, fun w hw i j hi hj => ?_⟩
  have hj0 : j = 0 := by omega
  subst hj0
  have hb := hw.blk hp
  show w.cell? ⟨b, 0 + (i * 1 + 0), none⟩ = _
  rw [World.cell_of hb, show 0 + (i * 1 + 0) = i by omega]
  simp [hi, fb]
theorem Pu.ct {f : FuncId} {args : Array Value} {V : Value} (h : Pu P f args V) (m : Mem) : Ct P f args m [] (fun v m' B => v = V ∧ m = m' ∧ B = []) := (h m).mono fun _ _ _ _ ⟨a, b, c⟩ => ⟨a, b.symm, c⟩
end
end Go.J
/- The contracts of labels: names, Check, Value, Same, Small; the document's. -/
set_option linter.unusedSimpArgs false
set_option linter.unusedVariables false
set_option linter.unusedSectionVars false
set_option maxRecDepth 20000
set_option maxHeartbeats 4000000
namespace Go.Proofs.Ytecifniognbomaa
open Go Go.J
attribute [local irreducible] At AtQ AtM AtM1 PR Ct Pu Rd Res.blk Res.own Res.ex RVs RV
namespace Lb
theorem digit (c : UInt8) : Pu Try.prog 72 #[.int .u8 (bI c)] (.bool (dig c)) := Pu.intro fun m => by
  refine Ct.enterV (by rfl) Try.func72 rfl Try.ntmps72 rfl (fun w0 Rest => ?_)
  (repeat' (first | refine zss ?_ | refine zs0 ?_ | (refine zsp ?_ ?_ <;> (intro hc; (try simp only [zhcs, reduceCtorEq] at hc); (try (exfalso; first | contradiction | omega | exact absurd rfl hc | exact absurd (by decide) hc))))))
  all_goals ((with_reducible apply At.retB1 (B := [])); exact rfl; exact rfl; exact zml; exact zkp; exact ⟨congrArg Value.bool (by unfold dig; first | (rw [decide_eq_decide]; omega) | (symm; rw [decide_eq_false_iff_not]; omega) | (symm; rw [decide_eq_true_eq]; omega)), rfl, rfl⟩)
theorem sign (c : UInt8) : Pu Try.prog 75 #[.int .u8 (bI c)] (.bool (sgn c)) := Pu.intro fun m => by
  have ho := or_let c
  have hd := digit c
  cases h : dig c with
  | true =>
    have h' := of_decide_eq_true h
    rw [h] at hd
    rw [show sgn c = true by unfold sgn; rw [decide_eq_true_eq]; omega]
    refine Ct.enterV (by rfl) Try.func75 rfl Try.ntmps75 rfl (fun w0 Rest => ?_)
    (repeat' (first | refine zss ?_ | ((first | (with_reducible first | apply At.val | apply AtQ.val)); (exact pr_or (by rfl) (by rfl) rfl); exact rfl) | refine zs0 ?_ | ((with_reducible first | apply AtM1.callp | apply AtQ.callp | apply At.callp); kernel_rfl; exact rfl; exact rfl; exact hd) | (refine zsp ?_ ?_ <;> (intro hc; (try simp only [zhcs, reduceCtorEq] at hc); (try (exfalso; first | contradiction | omega | exact absurd rfl hc | exact absurd (by decide) hc))))))
    all_goals ((with_reducible apply At.retB1 (B := [])); exact rfl; exact rfl; exact zml; exact zkp; exact ⟨rfl, rfl, rfl⟩)
  | false =>
    have h' := of_decide_eq_false h
    rw [h] at hd
    have hs : sgn c = decide ((97 ≤ bits .or .u8 (bI c) 32 ∧ bits .or .u8 (bI c) 32 ≤ 122) ∨ bI c = 95) := by unfold sgn; rw [decide_eq_decide]; omega
    obtain ⟨o, eo⟩ : ∃ o, bits .or .u8 (bI c) 32 = o := ⟨_, rfl⟩
    rw [hs, eo]
    refine Ct.enterV (by rfl) Try.func75 rfl Try.ntmps75 rfl (fun w0 Rest => ?_)
    (repeat' (first | refine zss ?_ | ((first | (with_reducible first | apply At.val | apply AtQ.val)); (exact pr_or (by rfl) (by rfl) eo); exact rfl) | refine zs0 ?_ | ((with_reducible first | apply AtM1.callp | apply AtQ.callp | apply At.callp); kernel_rfl; exact rfl; exact rfl; exact hd) | (refine zsp ?_ ?_ <;> (intro hc; (try simp only [zhcs, reduceCtorEq] at hc); (try (exfalso; first | contradiction | omega | exact absurd rfl hc | exact absurd (by decide) hc))))))
    all_goals ((with_reducible apply At.retB1 (B := [])); exact rfl; exact rfl; exact zml; exact zkp; exact ⟨congrArg Value.bool (by first | (rw [decide_eq_decide]; omega) | (symm; rw [decide_eq_false_iff_not]; omega) | (symm; rw [decide_eq_true_eq]; omega)), rfl, rfl⟩)
theorem name1 (c : UInt8) : Pu Try.prog 74 #[.int .u8 (bI c)] (.bool (!sgn c)) := Pu.intro fun m => by
  refine Ct.enterV (by rfl) Try.func74 rfl Try.ntmps74 rfl (fun w0 Rest => ?_)
  (repeat' (first | refine zss ?_ | refine zs0 ?_ | ((with_reducible first | apply AtM1.callp | apply AtQ.callp | apply At.callp); kernel_rfl; exact rfl; exact rfl; exact sign c) | (refine zsp ?_ ?_ <;> (intro hc; (try simp only [zhcs, reduceCtorEq] at hc); (try (exfalso; first | contradiction | omega | exact absurd rfl hc | exact absurd (by decide) hc))))))
  all_goals ((with_reducible apply At.retB1 (B := [])); exact rfl; exact rfl; exact zml; exact zkp; exact ⟨rfl, rfl, rfl⟩)
theorem map_get {l : List UInt8} {s : Nat} (h : s < l.length) : (l.map bI)[s]! = bI (l[s]!) := by
  rw [getElem!_pos _ s (by rw [List.length_map]; exact h), getElem!_pos l s h, List.getElem_map]
theorem indexN {m : Mem} (p : Option Addr) (c : Nat) (l : List UInt8) (hl : l.length ≤ 1000000) (sl0 : Sl m fb 1 p c (l.map bI)) :
    Ct Try.prog 83 #[.slice p (l.map bI).length c, .func (.func 74) #[] #[]] m [] (fun r m' B => m = m' ∧ B = [] ∧ ∃ k : Int, r = .int .i64 k ∧ (0 ≤ k ↔ ¬ ∀ i, i < l.length → sgn (l[i]!) = true)) := by
  have hml : (l.map bI).length = l.length := by simp
  refine Ct.enterV (by rfl) Try.func83 rfl Try.ntmps83 rfl (fun w0 Rest => ?_)
  (repeat' (first | refine zss ?_ | refine zsM ?_ | (refine zsp ?_ ?_ <;> (intro hc; (try simp only [zhcs, reduceCtorEq] at hc); (try (exfalso; first | contradiction | omega | exact absurd rfl hc | exact absurd (by decide) hc))))))
  (refine At.loopk (σ := Nat) [0, 1, 7] (fun s F0 => (8, .int .i64 (s : Int)) :: F0) (fun s => m) (fun s => Rest) (fun s => s ≤ l.length ∧ ∀ i, i < s → sgn (l[i]!) = true) (fun s => l.length - s) 0 (by rfl) ?_ zsubs zml zente ?_)
  · exact ⟨Nat.zero_le _, fun i h => absurd h (Nat.not_lt_zero i)⟩
  rintro s ⟨hs, hn⟩
  by_cases h : s < l.length
  · have hg : (l.map bI)[s]! = bI (l[s]!) := map_get h
    have hlp := name1 (l[s]!)
    rw [← hg] at hlp
    cases e : sgn (l[s]!) with
    | false =>
      rw [e, Bool.not_false] at hlp
      (repeat' (first | refine zss ?_ | refine zsM ?_ | ((with_reducible apply At.callf); exact rfl; kernel_rfl; exact rfl; exact rfl; exact Pu.ct hlp _; exact ztk; rintro v' m' B' hm' ⟨rfl, rfl, rfl⟩; (try replace sl0 := sl0.mono hm')) | (refine zsp ?_ ?_ <;> (intro hc; (try simp only [zhcs, reduceCtorEq] at hc); (try (exfalso; first | omega | contradiction | omega | exact absurd rfl hc | exact absurd (by decide) hc))))))
      all_goals ((with_reducible apply At.retB1 (B := [])); exact rfl; exact rfl; exact zml; exact zkp; exact ⟨rfl, rfl, _, rfl, ⟨fun _ hh => absurd ((hh s h).symm.trans e) (by decide), fun _ => by omega⟩⟩)
    | true =>
      rw [e, Bool.not_true] at hlp
      have hnn : ∀ i, i < s + 1 → sgn (l[i]!) = true := fun i hi => by
        by_cases e1 : i = s
        · subst e1; exact e
        · exact hn i (by omega)
      (repeat' (first | refine zss ?_ | refine zsM ?_ | ((with_reducible apply At.callf); exact rfl; kernel_rfl; exact rfl; exact rfl; exact Pu.ct hlp _; exact ztk; rintro v' m' B' hm' ⟨rfl, rfl, rfl⟩; (try replace sl0 := sl0.mono hm')) | (refine zsp ?_ ?_ <;> (intro hc; (try simp only [zhcs, reduceCtorEq] at hc); (try (exfalso; first | omega | contradiction | omega | exact absurd rfl hc | exact absurd (by decide) hc))))))
      all_goals ((with_reducible refine At.reachk ((s + 1)) ?_ ?_ ?_ ?_); exact zsubs; exact zml; exact zente; exact ⟨⟨h, hnn⟩, by omega⟩)
  · (repeat' (first | refine zss ?_ | refine zsM ?_ | (refine zsp ?_ ?_ <;> (intro hc; (try simp only [zhcs, reduceCtorEq] at hc); (try (exfalso; first | omega | contradiction | omega | exact absurd rfl hc | exact absurd (by decide) hc))))))
    all_goals ((with_reducible apply At.retB1 (B := [])); exact rfl; exact rfl; exact zml; exact zkp; exact ⟨rfl, rfl, _, rfl, ⟨fun hh => absurd hh (by decide), fun hh => absurd (fun i hi => hn i (by omega)) hh⟩⟩)
theorem containsN {m : Mem} (p : Option Addr) (c : Nat) (l : List UInt8) (hl : l.length ≤ 1000000) (sl0 : Sl m fb 1 p c (l.map bI)) :
    Rd Try.prog 73 #[.slice p (l.map bI).length c, .func (.func 74) #[] #[]] m [] (.bool (!decide (∀ i, i < l.length → sgn (l[i]!) = true))) := by
  unfold Rd
  refine Ct.enterV (by rfl) Try.func73 rfl Try.ntmps73 rfl (fun w0 Rest => ?_)
  (repeat' (first | refine zss ?_ | refine zsM ?_ | ((with_reducible first | apply At.c1 | apply At.c0); exact rfl; exact rfl; exact indexN p c l hl sl0; exact ztk; kernel_rfl; rintro v' m' B' hm' ⟨rfl, rfl, k, rfl, hk⟩; (try replace sl0 := sl0.mono hm'); (try (have hq0 : hm' = Mem.le_refl _ := rfl; clear hq0 hm'))) | (refine zsp ?_ ?_ <;> (intro hc; (try simp only [zhcs, reduceCtorEq] at hc); (try (exfalso; first | contradiction | omega | exact absurd rfl hc | exact absurd (by decide) hc))))))
  all_goals ((with_reducible apply At.retB1 (B := [])); exact rfl; exact rfl; exact zml; exact zkp; exact ⟨congrArg Value.bool (by rw [← decide_not, decide_eq_decide]; exact hk), rfl, rfl⟩)
theorem name (s : List UInt8) : Pu Try.prog 64 #[.string (str s)] (.bool (nameB s)) := by
  by_cases h0 : s = []
  · subst h0
    refine Pu.intro fun m => ?_
    refine Ct.enterV (by rfl) Try.func64 rfl Try.ntmps64 rfl (fun w0 Rest => ?_)
    (repeat' (first | refine zss ?_ | refine zs0 ?_ | (refine zsp ?_ ?_ <;> (intro hc; (try simp only [zhcs, reduceCtorEq] at hc); (try (exfalso; first | contradiction | omega | exact absurd rfl hc | exact absurd (by decide) hc))))))
    all_goals ((with_reducible apply At.retB1 (B := [])); exact rfl; exact rfl; exact zml; exact zkp; exact ⟨rfl, rfl, rfl⟩)
  have hl0 : 1 ≤ s.length := by cases s with
    | nil => exact absurd rfl h0
    | cons x s => simp
  have hs0 : str s ≠ str [] := fun e => h0 (str_inj.1 e)
  by_cases h1 : s.length ≤ 64
  · have hd := digit (s[0]!)
    cases e : dig (s[0]!) with
    | true =>
      rw [e] at hd
      rw [nameB_no fun k => absurd (k.2.2.1.symm.trans e) (by decide)]
      refine Pu.intro fun m => ?_
      refine Ct.enterV (by rfl) Try.func64 rfl Try.ntmps64 rfl (fun w0 Rest => ?_)
      (repeat' (first | refine zss ?_ | refine zs0 ?_ | ((with_reducible first | apply AtM1.callp | apply AtQ.callp | apply At.callp); kernel_rfl; exact rfl; exact rfl; exact hd) | (refine zsp ?_ ?_ <;> (intro hc; (try simp only [zhcs, reduceCtorEq] at hc); (try (exfalso; first | (first | omega | exact absurd hc hs0) | contradiction | omega | exact absurd rfl hc | exact absurd (by decide) hc))))))
      all_goals ((with_reducible apply At.retB1 (B := [])); exact rfl; exact rfl; exact zml; exact zkp; exact ⟨rfl, rfl, rfl⟩)
    | false =>
      rw [e] at hd
      have hv : nameB s = decide (∀ i, i < s.length → sgn (s[i]!) = true) := by unfold nameB; rw [decide_eq_decide]; exact ⟨fun k => k.2.2.2, fun k => ⟨hl0, h1, e, k⟩⟩
      rw [hv]
      have hq : (!(!decide (∀ i, i < s.length → sgn (s[i]!) = true))) = decide (∀ i, i < s.length → sgn (s[i]!) = true) := Bool.not_not _
      refine Pu.of_le fun m => ?_
      have hle : m.le m := Mem.le_refl m
      refine Ct.enterV (by rfl) Try.func64 rfl Try.ntmps64 rfl (fun w0 Rest => ?_)
      (repeat' (first | refine zss ?_ | refine zsM ?_ | ((with_reducible first | apply AtM1.callp | apply AtQ.callp | apply At.callp); kernel_rfl; exact rfl; exact rfl; exact hd) | ((with_reducible apply At.str_bytes); (iterate 4 exact rfl); exact zom; exact rfl; intro p' c' m' hm' sl1; skip) | ((with_reducible first | apply AtM1.cr | apply AtQ.cr | apply At.cr); exact rfl; exact rfl; exact fun _ hmm => containsN _ _ s (by omega) (sl1.mono hmm); exact ztk; kernel_rfl) | (refine zsp ?_ ?_ <;> (intro hc; (try simp only [zhcs, reduceCtorEq] at hc); (try (exfalso; first | (first | omega | exact absurd hc hs0) | contradiction | omega | exact absurd rfl hc | exact absurd (by decide) hc))))))
      all_goals ((with_reducible apply At.retB1 (B := [])); exact rfl; exact rfl; exact zml; exact zkp; exact ⟨congrArg Value.bool hq, by assumption, rfl⟩)
  · rw [nameB_no fun k => by omega]
    refine Pu.intro fun m => ?_
    refine Ct.enterV (by rfl) Try.func64 rfl Try.ntmps64 rfl (fun w0 Rest => ?_)
    (repeat' (first | refine zss ?_ | refine zs0 ?_ | (refine zsp ?_ ?_ <;> (intro hc; (try simp only [zhcs, reduceCtorEq] at hc); (try (exfalso; first | (first | omega | exact absurd hc hs0) | contradiction | omega | exact absurd rfl hc | exact absurd (by decide) hc))))))
    all_goals ((with_reducible apply At.retB1 (B := [])); exact rfl; exact rfl; exact zml; exact zkp; exact ⟨rfl, rfl, rfl⟩)
end Lb
end Go.Proofs.Ytecifniognbomaa
