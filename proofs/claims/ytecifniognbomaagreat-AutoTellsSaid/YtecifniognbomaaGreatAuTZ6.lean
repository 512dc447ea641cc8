/- Part 6 of what the law's proof needs: rules of the walk, contracts of functions, plain laws. No condition. -/
import Derived.Test.YtecifniognbomaaGreatAuTZ5
import Derived.Test.YtecifniognbomaaGreatRows
import Derived.Lib.SliceRun
/- append where there is no room: to whatever can be read, into what is new. -/
set_option linter.unusedSimpArgs false
set_option linter.unusedVariables false
set_option linter.unusedSectionVars false
set_option maxRecDepth 20000
namespace Go.J
open Go
section
variable {P : Program} {n : Nat} {w0 : World} {F : Fr} {m : Mem} {Rs : List Res} {Q : Exit → Act → World → Prop} {α : Type} [Inhabited α] {f : α → List Value} {sz : Nat}
theorem At.appendF {ops : Array Oper} {rest : List Oper} {d : Nat} {x y : Operand} {t tx e2 : TypeId} {ty : TypeId} {pos : String} {aft : Array Edge} {E : TypeId} {p p2 : Option Addr} {c ln ln2 c2 : Nat} {l l2 : List α}
    (hx : ev F x = some (.slice p ln c)) (hy : ev F y = some (.slice p2 ln2 c2)) (h1 : Rdb (HW w0 m Rs) f sz p c l) (hln : ln = l.length) (h2 : Rdb (HW w0 m Rs) f sz p2 c2 l2) (hl2 : ln2 = l2.length)
    (ht : P.underlying t = some (.slice E)) (ht2 : P.underlying tx = some (.slice e2)) (he : elemB P E sz = true) (hc : c < l.length + l2.length)
    (hsm : l.length + l2.length ≤ 34359738368) (hd : Nat.blt d n = true)
    (h : ∀ p' c', At n w0 ((d, .slice p' (l ++ l2).length c') :: F) m (.own f sz E p' c' (l ++ l2) :: Rs) (wpList P ops Q rest)) :
    At n w0 F m Rs (wpList P ops Q (⟨some d, .call ⟨.builtin .append, #[x, y], #[t, tx]⟩, ty, pos, aft, none⟩ :: rest)) := fun a w ha hw =>
  wpList_plain rfl fun K hK => by
    subst hln hl2
    have hf := h1.fl
    obtain ⟨i, z, hi, hz, hsz, hbt, hzs⟩ := elemB_spec he
    have hby : (l.length + l2.length) * i.bytes ≤ 140737488355328 := Nat.le_trans (Nat.mul_le_mul hsm hbt) (by omega)
    have h63 : l.length + l2.length ≤ maxLen := by simp only [maxLen]; omega
    have hsmall : ((l.length + l2.length : Nat) : Int) ≤ 9223372036854775807 := by omega
    have s1 := rdb_src (P := P) h1 hw ht
    have s2 := rdb_src (P := P) h2 hw ht2
    have hl1 := flatMap_length hf.len l
    have hl2 := flatMap_length hf.len l2
    have hll : (l ++ l2).length = l.length + l2.length := by simp
    have hold : (Builtin.firstCells i.size l.length (.slice p l.length c)).run P w.drew = .ok (l.flatMap f).toArray w.drew := by rw [hsz]; exact s1.cellsD
    have hr := run_append_grow_src (P := P) (ty := ty) (w := w) t tx E i z ht hi hz p l.length c (l.flatMap f) hold (.slice p2 l2.length c2) l2.length (l2.flatMap f) (by rw [hsz]; exact s2) hc hsmall (growslice_fits hc hby)
    have hge := grownCap_ge w (l.length + l2.length) c E
    have hcm : grownCap w (l.length + l2.length) c E ≤ maxLen := grownCap_le_maxLen w (l.length + l2.length) c E h63
    rw [← hll] at hr hge hcm
    unfold Oper.wp
    have hrun : ∀ v w', (Builtin.append_ #[t, tx] ty #[.slice p l.length c, .slice p2 l2.length c2]).run P w = .ok v w' → (execOp a.eval ⟨some d, .call ⟨.builtin .append, #[x, y], #[t, tx]⟩, ty, pos, aft, none⟩).run P w = .ok (.value v) w' := fun v w' hr => by
      rw [BigFrame.execOp_builtin]
      simp [BigFrame.builtin_append, ha.ev hx, ha.ev hy, hr]
    rw [hrun _ _ hr]
    refine hK _ _ (h _ _ _ _ (ha.put hd) (hw.add rfl rfl rfl (by simp) (fun k hk => heap_alloc_old w.drew _ hk) ⟨fun k => k = w.heap.size, .inr ⟨w.heap.size, 0, _, rfl, heap_alloc_new w.drew _, hge, hcm, ?_, fun j hj => ?_, fun _ => Iff.rfl⟩, fun k hk => by omega⟩))
    · simp only [Array.size_append, List.size_toArray, size_zeroCells, hzs, List.length_append, hl1, hl2, ← Nat.add_mul]
      rw [List.length_append] at hge
      rw [Nat.add_sub_cancel' hge, Nat.zero_add]
      exact Nat.le_refl _
    · rw [Nat.zero_add, List.flatMap_append, Array.getElem?_append_left (by
        rw [hll, Nat.add_mul] at hj
        simp only [List.size_toArray, List.length_append, hl1, hl2]; omega)]
      simp
theorem addr_add0 (a : Addr) : a.add 0 = a := by cases a; simp [Addr.add]
theorem subp0 (p : Option Addr) (c sz : Nat) : subp p c 0 sz = p := by
  unfold subp
  split
  · rfl
  · rw [Nat.zero_mul]; cases p <;> simp [addr_add0]
theorem Rdb.cut {C : World → Prop} {p : Option Addr} {c : Nat} {l : List α} (h : Rdb C f sz p c l) (hi : Nat) (h1 : hi ≤ l.length) : Rdb C f sz p hi (l.take hi) := by
  have := Rdb.subh h hi h1
  rw [subp0] at this
  exact ⟨this.fl, this.some, fun w hw => by rw [List.length_take]; omega, this.cell⟩
/-- a part from the front, with no room behind it -/
theorem run_slice3 {t e : TypeId} (ht : P.underlying t = some (.slice e)) (hs : sizeB P e = some sz) (p : Option Addr) (l c hi : Nat) (h2 : hi ≤ c) (k k' : IntKind) (w : World) :
    (Instr.sliceAt t (.slice p l c) none (some (.int k (hi : Int))) (some (.int k' (hi : Int)))).run P w = .ok (.slice p hi hi) w := by
  have hr : ∀ w, (underlying t).run P w = .ok (.slice e) w := fun w => by simp only [underlying, program, bind, Sem.bind, Sem.run, ht]; rfl
  have a2 : (0 : Int) ≤ (hi : Int) ∧ (hi : Int) ≤ (c : Int) := ⟨by omega, by omega⟩
  unfold Instr.sliceAt
  simp only [Sem.run_bind, hr, Result.andThen]
  unfold Instr.slice
  simp only [Sem.run_bind, hr, Result.andThen]
  have hb : (Instr.sliceBounds true l c none (some (.int k (hi : Int))) (some (.int k' (hi : Int)))).run P w = .ok (0, hi, hi) w := by
    unfold Instr.sliceBounds Instr.sliceBound
    simp [asIntOf, pure, Sem.run, bind, Sem.bind, h2]
  rw [hb]
  simp only [run_sizeOf hs, pure, Sem.run]
  have := subp0 p hi sz
  unfold subp at this
  simp only [Nat.sub_zero, this]
theorem pr_slice3 {C : World → Prop} {x y z : Operand} {t e : TypeId} {p : Option Addr} {l c hi : Nat} {k k' : IntKind} (hx : ev F x = some (.slice p l c)) (hz : ev F z = some (.int k (hi : Int))) (hy : ev F y = some (.int k' (hi : Int))) (ht : P.underlying t = some (.slice e)) (hs : sizeB P e = some sz) (hle : LeSz C sz c l) (h2 : hi ≤ l) :
    PR P n F C (.slice t x none (some z) (some y)) (.slice p hi hi) := fun _ _ _ _ _ a w ha hC => by
  simp only [execOp, ha.ev hx, Sem.run_bind, Option.map_none, Option.map_some, ha.ev hz, ha.ev hy]
  rw [run_slice3 ht hs p l c hi (Nat.le_trans h2 (hle w hC))]
  rfl
end
end Go.J
/- What one owns may be made to stay: for a call's argument, and for what comes back. -/
set_option linter.unusedSimpArgs false
set_option linter.unusedVariables false
set_option linter.unusedSectionVars false
set_option maxRecDepth 20000
namespace Go.J
open Go
section
variable {P : Program} {m : Mem} {Rs : List Res} {α : Type} [Inhabited α] {f : α → List Value} {sz : Nat}
theorem HW.freeze {w0 w : World} {E : TypeId} {p : Option Addr} {c : Nat} {l : List α} (hf : Fl f sz) (hw : HW w0 m (.own f sz E p c l :: Rs) w) : ∃ m', m.le m' ∧ Sl m' f sz p c l ∧ HW w0 m' Rs w := by
  have k := At.own_freeze (n := 0) (w0 := w0) (F := []) (m := m) (Rs := .own f sz E p c l :: Rs) (K := fun _ w => ∃ m', m.le m' ∧ Sl m' f sz p c l ∧ HW w0 m' Rs w) hf pk0
    (fun m' hm' sl => by
      unfold At
      intro a w1 _ hw1
      exact ⟨m', hm', sl, hw1⟩)
  unfold At at k
  exact k ⟨#[], []⟩ w ⟨rfl, rfl, fun _ _ h => by cases h⟩ hw
theorem Ct.freezeG {g : FuncId} {args : Array Value} {E : TypeId} {p : Option Addr} {c : Nat} {l : List α} {R : Value → Mem → List Res → Prop} (hf : Fl f sz) (h : ∀ m', m.le m' → Sl m' f sz p c l → Ct P g args m' Rs R) :
    Ct P g args m (.own f sz E p c l :: Rs) R := by
  unfold Ct at h ⊢
  intro w0 Rest w hw
  obtain ⟨m', hm', sl, hw'⟩ := HW.freeze hf hw
  exact (h m' hm' sl w0 Rest w hw').mono fun _ _ ⟨v, m2, B, h1, h2, h3, h4⟩ => ⟨v, m2, B, h1, Mem.le_trans hm' h2, h3, h4⟩
theorem Ct.slice {g : FuncId} {args : Array Value} {A B0 : List Res} {E : TypeId} {l : List α} {R : Value → Option Addr → Nat → Prop} (hf : Fl f sz) (h : Ct P g args m A (fun v m' B => ∃ p c, R v p c ∧ B = .own f sz E p c l :: B0)) :
    Ct P g args m A (fun v m' B => B = B0 ∧ ∃ p c, R v p c ∧ Sl m' f sz p c l) := by
  unfold Ct at h ⊢
  intro w0 Rest w hw
  refine (h w0 Rest w hw).mono fun _ _ ⟨v, m2, B, h1, h2, ⟨p, c, h3, hB⟩, h4⟩ => ?_
  subst hB
  obtain ⟨m3, hm3, sl, hw3⟩ := HW.freeze hf h4
  exact ⟨v, m3, B0, h1, Mem.le_trans h2 hm3, ⟨rfl, p, c, h3, sl⟩, hw3⟩
/-- a slice's literal, that stays -/
theorem At.litF {n : Nat} {w0 : World} {F : Fr} {Q : Exit → Act → World → Prop} {ops : Array Oper} {rest : List Oper} {d : Nat} {t E : TypeId} {len : Nat} {xs : List (Nat × Operand)} {ps : List (Nat × Value)} {ty : TypeId} {pos : String} {aft : Array Edge}
    (f : α → List Value) (l : List α) (hf : Fl f sz) (ht : P.underlying t = some (.slice E)) (he : elemB P E sz = true) (hx : evps F xs = some ps) (hsm : Nat.ble (len * sz) 16777216 = true) (hl : l.length = len)
    (hb : litL P E sz len ps = flat (l.flatMap f)) (hd : Nat.blt d n = true)
    (h : ∀ b m', m.le m' → Sl m' f sz (some ⟨b, 0, none⟩) len l → At n w0 ((d, .slice (some ⟨b, 0, none⟩) len len) :: F) m' Rs (wpList P ops Q rest)) :
    At n w0 F m Rs (wpList P ops Q (⟨some d, .buildSlice t len xs.toArray, ty, pos, aft, none⟩ :: rest)) :=
  At.lit f l hf ht he hx hsm hl hb hd (fun b => At.own_freeze hf pk0 fun m' hm' sl => h b m' hm' sl)
end
end Go.J
/- Cells held against one another; which are right: the program's answer. -/
set_option linter.unusedSimpArgs false
set_option linter.unusedVariables false
set_option linter.unusedSectionVars false
set_option maxRecDepth 20000
set_option maxHeartbeats 4000000
namespace Go.Proofs.YtecifniognbomaaGreat
open Go Go.J
attribute [local irreducible] At AtQ AtM AtM1 PR Ct Pu Rd Res.blk Res.own Res.ex RVs RV
namespace Cell
open Ev Wide
theorem wide_ext {a b : Nat} (h1 : ((a / 18446744073709551616 : Nat) : Int) = ((b / 18446744073709551616 : Nat) : Int)) (h2 : ((a % 18446744073709551616 : Nat) : Int) = ((b % 18446744073709551616 : Nat) : Int)) : a = b := by omega
theorem and_cell (a b : Cell) : andL [decide (a.n = b.n), decide (a.F.T = b.F.T), decide ((a.F.V : Int) = (b.F.V : Int)), decide (a.F.C = b.F.C), a.F.S == b.F.S, decide (a.L.T = b.L.T), decide ((a.L.V : Int) = (b.L.V : Int)), decide (a.L.C = b.L.C), a.L.S == b.L.S,
    decide (((a.I / 18446744073709551616 : Nat) : Int) = ((b.I / 18446744073709551616 : Nat) : Int)), decide (((a.I % 18446744073709551616 : Nat) : Int) = ((b.I % 18446744073709551616 : Nat) : Int)), decide (a.R = b.R), decide (a.G = b.G), decide (a.X = b.X)] = decide (a = b) := by
  by_cases h : a = b
  · subst h; simp [andL_cons, andL_nil]
  · rw [decide_eq_false h]
    cases hb : andL [decide (a.n = b.n), decide (a.F.T = b.F.T), decide ((a.F.V : Int) = (b.F.V : Int)), decide (a.F.C = b.F.C), a.F.S == b.F.S, decide (a.L.T = b.L.T), decide ((a.L.V : Int) = (b.L.V : Int)), decide (a.L.C = b.L.C), a.L.S == b.L.S,
    decide (((a.I / 18446744073709551616 : Nat) : Int) = ((b.I / 18446744073709551616 : Nat) : Int)), decide (((a.I % 18446744073709551616 : Nat) : Int) = ((b.I % 18446744073709551616 : Nat) : Int)), decide (a.R = b.R), decide (a.G = b.G), decide (a.X = b.X)] with
    | false => rfl
    | true =>
      simp only [andL_cons, andL_nil, Bool.and_eq_true, decide_eq_true_eq, beq_iff_eq] at hb
      obtain ⟨h1, h2, h3, h4, h5, h6, h7, h8, h9, h10, h11, h12, h13, h14, _⟩ := hb
      exact absurd (ext h1 (Mrg.ev_ext h2 (Int.ofNat.inj h3) h4 h5) (Mrg.ev_ext h6 (Int.ofNat.inj h7) h8 h9) (wide_ext h10 h11) h12 h13 h14) h
theorem pr_ceq {n : Nat} {F : Fr} {C : World → Prop} {x y : Operand} {u : TypeId} {a b : Cell} (hx : ev F x = some a.v) (hy : ev F y = some b.v) : PR Tryz.prog n F C (.binOp .eql 49 x y u) (.bool (decide (a = b))) := by
  rw [← and_cell]
  exact pr_aggeq2 hx hy (by rfl) (by kernel_rfl) (by kernel_rfl) (by rfl)
theorem pr_cne {n : Nat} {F : Fr} {C : World → Prop} {x y : Operand} {u : TypeId} {a b : Cell} (hx : ev F x = some a.v) (hy : ev F y = some b.v) : PR Tryz.prog n F C (.binOp .neq 49 x y u) (.bool (!decide (a = b))) := by
  rw [← and_cell]
  exact pr_aggne2 hx hy (by rfl) (by kernel_rfl) (by kernel_rfl) (by rfl)
theorem none_ (c : Cell) : Pu Tryz.prog 124 #[c.v] (.bool (decide (c = z))) := Pu.intro fun m => by
  refine Ct.enterV (by rfl) Tryz.func124 rfl Tryz.ntmps124 rfl (fun w0 Rest => ?_)
  (repeat' (first | refine zss ?_ | ((first | (with_reducible first | apply At.val | apply AtQ.val)); (exact pr_ceq (b := z) (by rfl) (by rfl)); exact rfl) | refine zs0 ?_ | ((with_reducible apply At.box (d := 1)); exact rfl; exact rfl; exact rfl; intro b1) | (refine zsp ?_ ?_ <;> (intro hc; (try simp only [zhcs, reduceCtorEq] at hc); (try (exfalso; first | contradiction | omega | exact absurd rfl hc | exact absurd (by decide) hc))))))
  all_goals ((with_reducible apply At.retB1 (B := [])); exact rfl; exact rfl; exact zml; exact zkp; exact ⟨rfl, rfl, rfl⟩)
theorem in_ (n k : Int) : Pu Tryz.prog 129 #[.int .i64 n, .int .i64 k] (.bool (decide (0 ≤ n ∧ n ≤ k))) := Pu.intro fun m => by
  refine Ct.enterV (by rfl) Tryz.func129 rfl Tryz.ntmps129 rfl (fun w0 Rest => ?_)
  (repeat' (first | refine zss ?_ | refine zs0 ?_ | (refine zsp ?_ ?_ <;> (intro hc; (try simp only [zhcs, reduceCtorEq] at hc); (try (exfalso; first | contradiction | omega | exact absurd rfl hc | exact absurd (by decide) hc))))))
  all_goals ((with_reducible apply At.retB1 (B := [])); exact rfl; exact rfl; exact zml; exact zkp; exact ⟨congrArg Value.bool (by simp [hc]), rfl, rfl⟩)
/-- a cell's events may be its first and its last -/
def spn (c : Cell) : Prop := (c.n = 1 ∧ c.F = c.L ∧ c.F.ok) ∨ (1 < c.n ∧ c.F.ok ∧ c.L.ok ∧ c.F.T < c.L.T ∧ c.n - 1 ≤ c.L.T - c.F.T)
instance (c : Cell) : Decidable (spn c) := by unfold spn; infer_instance
theorem spans (c : Cell) (hn : -9223372036854775808 ≤ c.n ∧ c.n ≤ 9223372036854775807) : Pu Tryz.prog 125 #[c.v] (.bool (decide (spn c))) := Pu.intro fun m => by
  have hk := Ev.check c.F
  by_cases h1 : c.n = 1
  · by_cases h2 : c.F = c.L
    · by_cases h3 : c.F.ok
      · rw [show c.F.chk = 0 from if_pos h3] at hk
        rw [decide_eq_true (show spn c from .inl ⟨h1, h2, h3⟩)]
        refine Ct.enterV (by rfl) Tryz.func125 rfl Tryz.ntmps125 rfl (fun w0 Rest => ?_)
        (repeat' (first | refine zss ?_ | ((first | (with_reducible first | apply At.val | apply AtQ.val)); (exact Mrg.pr_eveq (a := c.F) (b := c.L) (by rfl) (by rfl)); exact rfl) | refine zs0 ?_ | ((with_reducible first | apply AtM1.callp | apply AtQ.callp | apply At.callp); kernel_rfl; exact rfl; exact rfl; exact hk) | ((with_reducible apply At.box (d := 1)); exact rfl; exact rfl; exact rfl; intro b1) | (refine zsp ?_ ?_ <;> (intro hc; (try simp only [zhcs, reduceCtorEq] at hc); (try (exfalso; first | (first | omega | exact absurd h2 hc) | contradiction | omega | exact absurd rfl hc | exact absurd (by decide) hc))))))
        all_goals ((with_reducible apply At.retB1 (B := [])); exact rfl; exact rfl; exact zml; exact zkp; exact ⟨rfl, rfl, rfl⟩)
      · rw [show c.F.chk = 2 from if_neg h3] at hk
        rw [decide_eq_false (show ¬ spn c from fun h => h.elim (fun h => h3 h.2.2) (fun h => by omega))]
        refine Ct.enterV (by rfl) Tryz.func125 rfl Tryz.ntmps125 rfl (fun w0 Rest => ?_)
        (repeat' (first | refine zss ?_ | ((first | (with_reducible first | apply At.val | apply AtQ.val)); (exact Mrg.pr_eveq (a := c.F) (b := c.L) (by rfl) (by rfl)); exact rfl) | refine zs0 ?_ | ((with_reducible first | apply AtM1.callp | apply AtQ.callp | apply At.callp); kernel_rfl; exact rfl; exact rfl; exact hk) | ((with_reducible apply At.box (d := 1)); exact rfl; exact rfl; exact rfl; intro b1) | (refine zsp ?_ ?_ <;> (intro hc; (try simp only [zhcs, reduceCtorEq] at hc); (try (exfalso; first | (first | omega | exact absurd h2 hc) | contradiction | omega | exact absurd rfl hc | exact absurd (by decide) hc))))))
        all_goals ((with_reducible apply At.retB1 (B := [])); exact rfl; exact rfl; exact zml; exact zkp; exact ⟨rfl, rfl, rfl⟩)
    · rw [decide_eq_false (show ¬ spn c from fun h => h.elim (fun h => h2 h.2.1) (fun h => by omega))]
      refine Ct.enterV (by rfl) Tryz.func125 rfl Tryz.ntmps125 rfl (fun w0 Rest => ?_)
      (repeat' (first | refine zss ?_ | ((first | (with_reducible first | apply At.val | apply AtQ.val)); (exact Mrg.pr_eveq (a := c.F) (b := c.L) (by rfl) (by rfl)); exact rfl) | refine zs0 ?_ | ((with_reducible apply At.box (d := 1)); exact rfl; exact rfl; exact rfl; intro b1) | (refine zsp ?_ ?_ <;> (intro hc; (try simp only [zhcs, reduceCtorEq] at hc); (try (exfalso; first | (first | omega | exact absurd hc h2) | contradiction | omega | exact absurd rfl hc | exact absurd (by decide) hc))))))
      all_goals ((with_reducible apply At.retB1 (B := [])); exact rfl; exact rfl; exact zml; exact zkp; exact ⟨rfl, rfl, rfl⟩)
  · by_cases h2 : 1 < c.n
    · have hf := Ev.follow c.F c.L
      by_cases h3 : c.F.ok ∧ c.L.ok ∧ c.F.T < c.L.T
      · obtain ⟨o1, o2, o3⟩ := h3
        rw [show fol c.F c.L = true by unfold fol; rw [decide_eq_true (show two c.F c.L from ⟨o1, o2⟩), decide_eq_true o3]; rfl] at hf
        have ⟨p1, p2, _⟩ := o1
        have ⟨p3, p4, _⟩ := o2
        by_cases h4 : c.n - 1 ≤ c.L.T - c.F.T
        · rw [decide_eq_true (show spn c from .inr ⟨h2, o1, o2, o3, h4⟩)]
          refine Ct.enterV (by rfl) Tryz.func125 rfl Tryz.ntmps125 rfl (fun w0 Rest => ?_)
          (repeat' (first | refine zss ?_ | refine zs0 ?_ | ((with_reducible first | apply AtM1.callp | apply AtQ.callp | apply At.callp); kernel_rfl; exact rfl; exact rfl; exact hf) | ((with_reducible apply At.box (d := 1)); exact rfl; exact rfl; exact rfl; intro b1) | (refine zsp ?_ ?_ <;> (intro hc; (try simp only [zhcs, reduceCtorEq] at hc); (try (exfalso; first | omega | contradiction | omega | exact absurd rfl hc | exact absurd (by decide) hc))))))
          all_goals ((with_reducible apply At.retB1 (B := [])); exact rfl; exact rfl; exact zml; exact zkp; exact ⟨congrArg Value.bool (decide_eq_true h4), rfl, rfl⟩)
        · rw [decide_eq_false (show ¬ spn c from fun h => h.elim (fun h => h1 h.1) (fun h => h4 h.2.2.2.2))]
          refine Ct.enterV (by rfl) Tryz.func125 rfl Tryz.ntmps125 rfl (fun w0 Rest => ?_)
          (repeat' (first | refine zss ?_ | refine zs0 ?_ | ((with_reducible first | apply AtM1.callp | apply AtQ.callp | apply At.callp); kernel_rfl; exact rfl; exact rfl; exact hf) | ((with_reducible apply At.box (d := 1)); exact rfl; exact rfl; exact rfl; intro b1) | (refine zsp ?_ ?_ <;> (intro hc; (try simp only [zhcs, reduceCtorEq] at hc); (try (exfalso; first | omega | contradiction | omega | exact absurd rfl hc | exact absurd (by decide) hc))))))
          all_goals ((with_reducible apply At.retB1 (B := [])); exact rfl; exact rfl; exact zml; exact zkp; exact ⟨congrArg Value.bool (decide_eq_false h4), rfl, rfl⟩)
      · rw [show fol c.F c.L = false by
          unfold fol
          by_cases ht : two c.F c.L
          · rw [decide_eq_false (show ¬ c.F.T < c.L.T from fun h => h3 ⟨ht.1, ht.2, h⟩), Bool.and_false]
          · rw [decide_eq_false ht, Bool.false_and]] at hf
        rw [decide_eq_false (show ¬ spn c from fun h => h.elim (fun h => h1 h.1) (fun h => h3 ⟨h.2.1, h.2.2.1, h.2.2.2.1⟩))]
        refine Ct.enterV (by rfl) Tryz.func125 rfl Tryz.ntmps125 rfl (fun w0 Rest => ?_)
        (repeat' (first | refine zss ?_ | refine zs0 ?_ | ((with_reducible first | apply AtM1.callp | apply AtQ.callp | apply At.callp); kernel_rfl; exact rfl; exact rfl; exact hf) | ((with_reducible apply At.box (d := 1)); exact rfl; exact rfl; exact rfl; intro b1) | (refine zsp ?_ ?_ <;> (intro hc; (try simp only [zhcs, reduceCtorEq] at hc); (try (exfalso; first | omega | contradiction | omega | exact absurd rfl hc | exact absurd (by decide) hc))))))
        all_goals ((with_reducible apply At.retB1 (B := [])); exact rfl; exact rfl; exact zml; exact zkp; exact ⟨rfl, rfl, rfl⟩)
    · rw [decide_eq_false (show ¬ spn c from fun h => h.elim (fun h => h1 h.1) (fun h => h2 h.1))]
      refine Ct.enterV (by rfl) Tryz.func125 rfl Tryz.ntmps125 rfl (fun w0 Rest => ?_)
      (repeat' (first | refine zss ?_ | refine zs0 ?_ | ((with_reducible apply At.box (d := 1)); exact rfl; exact rfl; exact rfl; intro b1) | (refine zsp ?_ ?_ <;> (intro hc; (try simp only [zhcs, reduceCtorEq] at hc); (try (exfalso; first | omega | contradiction | omega | exact absurd rfl hc | exact absurd (by decide) hc))))))
      all_goals ((with_reducible apply At.retB1 (B := [])); exact rfl; exact rfl; exact zml; exact zkp; exact ⟨rfl, rfl, rfl⟩)
end Cell
end Go.Proofs.YtecifniognbomaaGreat
/- Which cells are right, as the program and the document tell it. -/
set_option linter.unusedSimpArgs false
set_option linter.unusedVariables false
set_option linter.unusedSectionVars false
set_option maxRecDepth 20000
set_option maxHeartbeats 4000000
namespace Go.Proofs.YtecifniognbomaaGreat
open Go Go.J
attribute [local irreducible] At AtQ AtM AtM1 PR Ct Pu Rd Res.blk Res.own Res.ex RVs RV
namespace Cell
open Ev Wide
theorem spn_pos {c : Cell} (h : spn c) : 1 ≤ c.n ∧ c.n ≤ 35184372088833 ∧ c.F.ok ∧ c.L.ok ∧ (c.n = 1 → c.F = c.L) ∧ (1 < c.n → c.F.T < c.L.T) ∧ c.n - 1 ≤ c.L.T - c.F.T := by
  rcases h with ⟨h1, h2, h3⟩ | ⟨h1, h2, h3, h4, h5⟩
  · exact ⟨by omega, by omega, h3, h2 ▸ h3, fun _ => h2, fun h => by omega, by rw [h2]; omega⟩
  · have ⟨p1, p2, _⟩ := h2
    have ⟨p3, p4, _⟩ := h3
    exact ⟨by omega, by omega, h2, h3, fun h => by omega, fun _ => h4, h5⟩
theorem full_iff {c : Cell} {k : Nat} (hk : c.n - 1 = (k : Int)) (hs : spn c) : Full c ↔ c.I ≤ 18446744073709551615 * k ∧ (0 ≤ c.G ∧ c.G ≤ (k : Int)) ∧ (0 ≤ c.R ∧ c.R ≤ (k : Int) - c.G) ∧ 0 ≤ c.X ∧ c.X ≤ c.L.T - c.F.T := by
  obtain ⟨a1, a2, a3, a4, a5, a6, a7⟩ := spn_pos hs
  have e : (c.n - 1).toNat = k := by omega
  constructor
  · intro h
    have h1 := h.I
    have h2 := h.G
    have h3 := h.R
    have h4 := h.RG
    have h5 := h.X
    have h6 := h.XL
    rw [e] at h1
    exact ⟨h1, ⟨h2, by omega⟩, ⟨h3, by omega⟩, h5, h6⟩
  · rintro ⟨h1, ⟨h2, h3⟩, ⟨h4, h5⟩, h6, h7⟩
    exact ⟨a1, a3, a4, a5, a6, a7, h4, h2, by omega, h6, h7, by rw [e]; exact h1⟩
theorem full_spn {c : Cell} (h : Full c) : spn c := by
  by_cases h1 : c.n = 1
  · exact .inl ⟨h1, h.one h1, h.F⟩
  · have := h.n
    exact .inr ⟨by omega, h.F, h.L, h.lt (by omega), h.len⟩
theorem sV_small {x : Nat} (h : x < 340282366920938463463374607431768211456) : sV x = x ∧ sE x = 0 := ⟨if_pos h, if_pos h⟩
set_option maxHeartbeats 1000000 in
theorem check (c : Cell) (hn : -9223372036854775808 ≤ c.n ∧ c.n ≤ 9223372036854775807) : Pu Tryz.prog 117 #[c.v] (.int .i64 (chk c)) := Pu.of_le fun m => by
  have k1 := none_ c
  have k2 := spans c hn
  by_cases hz : c = z
  · rw [show chk c = 0 from if_pos (.inl hz)]
    rw [decide_eq_true hz] at k1
    refine Ct.enterV (by rfl) Tryz.func117 rfl Tryz.ntmps117 rfl (fun w0 Rest => ?_)
    (repeat' (first | refine zss ?_ | refine zs0 ?_ | ((with_reducible first | apply AtM1.callp | apply AtQ.callp | apply At.callp); kernel_rfl; exact rfl; exact rfl; exact k1) | ((with_reducible apply At.box (d := 1)); exact rfl; exact rfl; exact rfl; intro b1) | ((with_reducible apply At.alloc (d := 4)); exact rfl; exact rfl; intro b4) | (refine zsp ?_ ?_ <;> (intro hc; (try simp only [zhcs, reduceCtorEq] at hc); (try (exfalso; first | omega | contradiction | omega | exact absurd rfl hc | exact absurd (by decide) hc))))))
    all_goals ((with_reducible apply At.retB1 (B := [])); exact rfl; exact rfl; exact zml; exact zkp; exact ⟨rfl, Mem.le_refl _, rfl⟩)
  · rw [decide_eq_false hz] at k1
    by_cases hs : spn c
    · rw [decide_eq_true hs] at k2
      obtain ⟨a1, a2, a3, a4, a5, a6, a7⟩ := spn_pos hs
      obtain ⟨k, hk⟩ : ∃ k : Nat, c.n - 1 = (k : Int) := ⟨(c.n - 1).toNat, by omega⟩
      have hf := full_iff hk hs
      have ⟨p1, p2, _⟩ := a3
      have ⟨p3, p4, _⟩ := a4
      have ht := Wide.times 18446744073709551615 k (by decide) (by omega)
      obtain ⟨e1, e2⟩ := sV_small (x := 18446744073709551615 * k) (by omega)
      rw [e1, e2] at ht
      have ho := Wide.of_ 18446744073709551615 (by decide)
      obtain ⟨T, hT⟩ : ∃ T, 18446744073709551615 * k = T := ⟨_, rfl⟩
      rw [hT] at ht hf
      have hl := Wide.less T c.I
      have hsub : IntKind.wrap .i64 (c.n - 1) = (k : Int) := by rw [hk]; exact IntWalk.i64_in _ (by omega)
      have hcv : IntKind.wrap .u64 (k : Int) = (k : Int) := IntWalk.u64_in _ (by omega)
      by_cases hF : Full c
      · rw [show chk c = 0 from if_pos (.inr hF)]
        obtain ⟨h1, ⟨h2, h3⟩, ⟨h4, h5⟩, h6, h7⟩ := hf.1 hF
        rw [decide_eq_false (by omega)] at hl
        refine Ct.enterV (by rfl) Tryz.func117 rfl Tryz.ntmps117 rfl (fun w0 Rest => ?_)
        (repeat' (first | refine zss ?_ | ((first | (with_reducible first | apply At.val | apply AtQ.val)); (first | exact pr_sub (by rfl) (by rfl) hsub | exact pr_conv ⟨_, rfl⟩ (by rfl) (by rfl) hcv); exact rfl) | refine zs0 ?_ | ((with_reducible first | apply AtM1.callp | apply AtQ.callp | apply At.callp); kernel_rfl; exact rfl; exact rfl; exact k1) | ((with_reducible first | apply AtM1.callp | apply AtQ.callp | apply At.callp); kernel_rfl; exact rfl; exact rfl; exact k2) | ((with_reducible first | apply AtM1.callp | apply AtQ.callp | apply At.callp); kernel_rfl; exact rfl; exact rfl; exact ho) | ((with_reducible first | apply AtM1.callp | apply AtQ.callp | apply At.callp); kernel_rfl; exact rfl; exact rfl; exact ht) | ((with_reducible first | apply AtM1.callp | apply AtQ.callp | apply At.callp); kernel_rfl; exact rfl; exact rfl; exact hl) | ((with_reducible first | apply AtM1.callp | apply AtQ.callp | apply At.callp); kernel_rfl; exact rfl; exact rfl; exact in_ _ _) | ((with_reducible apply At.box (d := 1)); exact rfl; exact rfl; exact rfl; intro b1) | ((with_reducible apply At.alloc (d := 4)); exact rfl; exact rfl; intro b4) | (refine zsp ?_ ?_ <;> (intro hc; (try simp only [zhcs, reduceCtorEq] at hc); (try (exfalso; first | omega | contradiction | omega | exact absurd rfl hc | exact absurd (by decide) hc))))))
        all_goals ((with_reducible apply At.retB1 (B := [])); exact rfl; exact rfl; exact zml; exact zkp; exact ⟨rfl, Mem.le_refl _, rfl⟩)
      · rw [show chk c = 2 from if_neg (fun h => h.elim hz hF)]
        rw [hf] at hF
        refine Ct.enterV (by rfl) Tryz.func117 rfl Tryz.ntmps117 rfl (fun w0 Rest => ?_)
        (repeat' (first | refine zss ?_ | ((first | (with_reducible first | apply At.val | apply AtQ.val)); (first | exact pr_sub (by rfl) (by rfl) hsub | exact pr_conv ⟨_, rfl⟩ (by rfl) (by rfl) hcv); exact rfl) | refine zs0 ?_ | ((with_reducible first | apply AtM1.callp | apply AtQ.callp | apply At.callp); kernel_rfl; exact rfl; exact rfl; exact k1) | ((with_reducible first | apply AtM1.callp | apply AtQ.callp | apply At.callp); kernel_rfl; exact rfl; exact rfl; exact k2) | ((with_reducible first | apply AtM1.callp | apply AtQ.callp | apply At.callp); kernel_rfl; exact rfl; exact rfl; exact ho) | ((with_reducible first | apply AtM1.callp | apply AtQ.callp | apply At.callp); kernel_rfl; exact rfl; exact rfl; exact ht) | ((with_reducible first | apply AtM1.callp | apply AtQ.callp | apply At.callp); kernel_rfl; exact rfl; exact rfl; exact hl) | ((with_reducible first | apply AtM1.callp | apply AtQ.callp | apply At.callp); kernel_rfl; exact rfl; exact rfl; exact in_ _ _) | ((with_reducible apply At.box (d := 1)); exact rfl; exact rfl; exact rfl; intro b1) | ((with_reducible apply At.alloc (d := 4)); exact rfl; exact rfl; intro b4) | (refine zsp ?_ ?_ <;> (intro hc; (try simp only [zhcs, reduceCtorEq] at hc); (try (exfalso; first | (first | omega | exact hF ⟨by omega, by omega, by omega, by omega, by omega⟩) | contradiction | omega | exact absurd rfl hc | exact absurd (by decide) hc))))))
        all_goals ((with_reducible apply At.retB1 (B := [])); exact rfl; exact rfl; exact zml; exact zkp; exact ⟨rfl, Mem.le_refl _, rfl⟩)
    · rw [show chk c = 2 from if_neg (fun h => h.elim hz (fun h => hs (full_spn h)))]
      rw [decide_eq_false hs] at k2
      refine Ct.enterV (by rfl) Tryz.func117 rfl Tryz.ntmps117 rfl (fun w0 Rest => ?_)
      (repeat' (first | refine zss ?_ | refine zs0 ?_ | ((with_reducible first | apply AtM1.callp | apply AtQ.callp | apply At.callp); kernel_rfl; exact rfl; exact rfl; exact k1) | ((with_reducible first | apply AtM1.callp | apply AtQ.callp | apply At.callp); kernel_rfl; exact rfl; exact rfl; exact k2) | ((with_reducible apply At.box (d := 1)); exact rfl; exact rfl; exact rfl; intro b1) | ((with_reducible apply At.alloc (d := 4)); exact rfl; exact rfl; intro b4) | (refine zsp ?_ ?_ <;> (intro hc; (try simp only [zhcs, reduceCtorEq] at hc); (try (exfalso; first | omega | contradiction | omega | exact absurd rfl hc | exact absurd (by decide) hc))))))
      all_goals ((with_reducible apply At.retB1 (B := [])); exact rfl; exact rfl; exact zml; exact zkp; exact ⟨rfl, Mem.le_refl _, rfl⟩)
set_option maxHeartbeats 2000000 in
theorem rcheck (c : Cell) (hn : -9223372036854775808 ≤ c.n ∧ c.n ≤ 9223372036854775807) (hI : c.I < 340282366920938463463374607431768211456) : Pu Tryz.prog 80 #[c.v] (.int .i64 (chk c)) := Pu.intro fun m => by
  have kF := Ev.rcheck c.F
  have kL := Ev.rcheck c.L
  by_cases hz : c = z
  · rw [show chk c = 0 from if_pos (.inl hz)]
    refine Ct.enterV (by rfl) Tryz.func80 rfl Tryz.ntmps80 rfl (fun w0 Rest => ?_)
    (repeat' (first | refine zss ?_ | ((first | (with_reducible first | apply At.val | apply AtQ.val)); (exact pr_ceq (b := z) (by rfl) (by rfl)); exact rfl) | refine zs0 ?_ | ((with_reducible apply At.box (d := 1)); exact rfl; exact rfl; exact rfl; intro b1) | ((with_reducible apply At.alloc (d := 3)); exact rfl; exact rfl; intro b3) | (refine zsp ?_ ?_ <;> (intro hc; (try simp only [zhcs, reduceCtorEq] at hc); (try (exfalso; first | (first | omega | exact absurd hz hc) | contradiction | omega | exact absurd rfl hc | exact absurd (by decide) hc))))))
    all_goals ((with_reducible apply At.retB1 (B := [])); exact rfl; exact rfl; exact zml; exact zkp; exact ⟨rfl, rfl, rfl⟩)
  by_cases h1 : 1 ≤ c.n
  · by_cases a3 : c.F.ok
    · rw [show c.F.chk = 0 from if_pos a3] at kF
      have ⟨p1, p2, _⟩ := a3
      by_cases a4 : c.L.ok
      · rw [show c.L.chk = 0 from if_pos a4] at kL
        have ⟨p3, p4, _⟩ := a4
        by_cases h5 : c.F.T ≤ c.L.T ∧ c.n ≤ c.L.T - c.F.T + 1
        · obtain ⟨h5, h6⟩ := h5
          by_cases hs : spn c
          · obtain ⟨b1, b2, _, _, b5, b6, b7⟩ := spn_pos hs
            obtain ⟨k, hk⟩ : ∃ k : Nat, c.n - 1 = (k : Int) := ⟨(c.n - 1).toNat, by omega⟩
            have hf := full_iff hk hs
            have ht := Wide.times_r 18446744073709551615 k (by decide) (by omega)
            obtain ⟨e1, e2⟩ := sV_small (x := 18446744073709551615 * k) (by omega)
            rw [e1, e2] at ht
            obtain ⟨T, hT⟩ : ∃ T, 18446744073709551615 * k = T := ⟨_, rfl⟩
            rw [hT] at ht hf
            have hl := Wide.less_r T c.I (by omega) hI
            have hsub : IntKind.wrap .i64 (c.n - 1) = (k : Int) := by rw [hk]; exact IntWalk.i64_in _ (by omega)
            have hcv : IntKind.wrap .u64 (k : Int) = (k : Int) := IntWalk.u64_in _ (by omega)
            by_cases hF : Full c
            · rw [show chk c = 0 from if_pos (.inr hF)]
              obtain ⟨g1, ⟨g2, g3⟩, ⟨g4, g5⟩, g6, g7⟩ := hf.1 hF
              rw [decide_eq_false (by omega)] at hl
              refine Ct.enterV (by rfl) Tryz.func80 rfl Tryz.ntmps80 rfl (fun w0 Rest => ?_)
              (repeat' (first | refine zss ?_ | ((first | (with_reducible first | apply At.val | apply AtQ.val)); (first | exact pr_ceq (b := z) (by rfl) (by rfl) | exact Mrg.pr_evne (a := c.F) (b := c.L) (by rfl) (by rfl) | exact pr_sub (by rfl) (by rfl) hsub | exact pr_conv ⟨_, rfl⟩ (by rfl) (by rfl) hcv); exact rfl) | refine zs0 ?_ | ((with_reducible first | apply AtM1.callp | apply AtQ.callp | apply At.callp); kernel_rfl; exact rfl; exact rfl; exact kF) | ((with_reducible first | apply AtM1.callp | apply AtQ.callp | apply At.callp); kernel_rfl; exact rfl; exact rfl; exact kL) | ((with_reducible first | apply AtM1.callp | apply AtQ.callp | apply At.callp); kernel_rfl; exact rfl; exact rfl; exact ht) | ((with_reducible first | apply AtM1.callp | apply AtQ.callp | apply At.callp); kernel_rfl; exact rfl; exact rfl; exact hl) | ((with_reducible apply At.box (d := 1)); exact rfl; exact rfl; exact rfl; intro b1) | ((with_reducible apply At.alloc (d := 3)); exact rfl; exact rfl; intro b3) | (refine zsp ?_ ?_ <;> (intro hc; (try simp only [zhcs, reduceCtorEq] at hc); (try (exfalso; first | (first | omega | exact absurd hc hz | exact hc (b5 (by omega))) | contradiction | omega | exact absurd rfl hc | exact absurd (by decide) hc))))))
              all_goals ((with_reducible apply At.retB1 (B := [])); exact rfl; exact rfl; exact zml; exact zkp; exact ⟨rfl, rfl, rfl⟩)
            · rw [show chk c = 2 from if_neg (fun h => h.elim hz hF)]
              rw [hf] at hF
              refine Ct.enterV (by rfl) Tryz.func80 rfl Tryz.ntmps80 rfl (fun w0 Rest => ?_)
              (repeat' (first | refine zss ?_ | ((first | (with_reducible first | apply At.val | apply AtQ.val)); (first | exact pr_ceq (b := z) (by rfl) (by rfl) | exact Mrg.pr_evne (a := c.F) (b := c.L) (by rfl) (by rfl) | exact pr_sub (by rfl) (by rfl) hsub | exact pr_conv ⟨_, rfl⟩ (by rfl) (by rfl) hcv); exact rfl) | refine zs0 ?_ | ((with_reducible first | apply AtM1.callp | apply AtQ.callp | apply At.callp); kernel_rfl; exact rfl; exact rfl; exact kF) | ((with_reducible first | apply AtM1.callp | apply AtQ.callp | apply At.callp); kernel_rfl; exact rfl; exact rfl; exact kL) | ((with_reducible first | apply AtM1.callp | apply AtQ.callp | apply At.callp); kernel_rfl; exact rfl; exact rfl; exact ht) | ((with_reducible first | apply AtM1.callp | apply AtQ.callp | apply At.callp); kernel_rfl; exact rfl; exact rfl; exact hl) | ((with_reducible apply At.box (d := 1)); exact rfl; exact rfl; exact rfl; intro b1) | ((with_reducible apply At.alloc (d := 3)); exact rfl; exact rfl; intro b3) | (refine zsp ?_ ?_ <;> (intro hc; (try simp only [zhcs, reduceCtorEq] at hc); (try (exfalso; first | (first | omega | exact absurd hc hz | exact hF ⟨by omega, by omega, by omega, by omega, by omega⟩) | contradiction | omega | exact absurd rfl hc | exact absurd (by decide) hc))))))
              all_goals ((with_reducible apply At.retB1 (B := [])); exact rfl; exact rfl; exact zml; exact zkp; exact ⟨rfl, rfl, rfl⟩)
          · rw [show chk c = 2 from if_neg (fun h => h.elim hz (fun h => hs (full_spn h)))]
            refine Ct.enterV (by rfl) Tryz.func80 rfl Tryz.ntmps80 rfl (fun w0 Rest => ?_)
            (repeat' (first | refine zss ?_ | ((first | (with_reducible first | apply At.val | apply AtQ.val)); (first | exact pr_ceq (b := z) (by rfl) (by rfl) | exact Mrg.pr_evne (a := c.F) (b := c.L) (by rfl) (by rfl)); exact rfl) | refine zs0 ?_ | ((with_reducible first | apply AtM1.callp | apply AtQ.callp | apply At.callp); kernel_rfl; exact rfl; exact rfl; exact kF) | ((with_reducible first | apply AtM1.callp | apply AtQ.callp | apply At.callp); kernel_rfl; exact rfl; exact rfl; exact kL) | ((with_reducible apply At.box (d := 1)); exact rfl; exact rfl; exact rfl; intro b1) | ((with_reducible apply At.alloc (d := 3)); exact rfl; exact rfl; intro b3) | (refine zsp ?_ ?_ <;> (intro hc; (try simp only [zhcs, reduceCtorEq] at hc); (try (exfalso; first | (first | omega | exact absurd hc hz | exact hs (.inl ⟨by omega, by assumption, a3⟩) | exact hs (.inr ⟨by omega, a3, a4, by omega, by omega⟩)) | contradiction | omega | exact absurd rfl hc | exact absurd (by decide) hc))))))
            all_goals ((with_reducible apply At.retB1 (B := [])); exact rfl; exact rfl; exact zml; exact zkp; exact ⟨rfl, rfl, rfl⟩)
        · rw [show chk c = 2 from if_neg (fun h => h.elim hz (fun h => h5 ⟨h.le, by have := h.len; omega⟩))]
          refine Ct.enterV (by rfl) Tryz.func80 rfl Tryz.ntmps80 rfl (fun w0 Rest => ?_)
          (repeat' (first | refine zss ?_ | ((first | (with_reducible first | apply At.val | apply AtQ.val)); (exact pr_ceq (b := z) (by rfl) (by rfl)); exact rfl) | refine zs0 ?_ | ((with_reducible first | apply AtM1.callp | apply AtQ.callp | apply At.callp); kernel_rfl; exact rfl; exact rfl; exact kF) | ((with_reducible first | apply AtM1.callp | apply AtQ.callp | apply At.callp); kernel_rfl; exact rfl; exact rfl; exact kL) | ((with_reducible apply At.box (d := 1)); exact rfl; exact rfl; exact rfl; intro b1) | ((with_reducible apply At.alloc (d := 3)); exact rfl; exact rfl; intro b3) | (refine zsp ?_ ?_ <;> (intro hc; (try simp only [zhcs, reduceCtorEq] at hc); (try (exfalso; first | (first | omega | exact absurd hc hz) | contradiction | omega | exact absurd rfl hc | exact absurd (by decide) hc))))))
          all_goals ((with_reducible apply At.retB1 (B := [])); exact rfl; exact rfl; exact zml; exact zkp; exact ⟨rfl, rfl, rfl⟩)
      · rw [show c.L.chk = 2 from if_neg a4] at kL
        rw [show chk c = 2 from if_neg (fun h => h.elim hz (fun h => a4 h.L))]
        refine Ct.enterV (by rfl) Tryz.func80 rfl Tryz.ntmps80 rfl (fun w0 Rest => ?_)
        (repeat' (first | refine zss ?_ | ((first | (with_reducible first | apply At.val | apply AtQ.val)); (exact pr_ceq (b := z) (by rfl) (by rfl)); exact rfl) | refine zs0 ?_ | ((with_reducible first | apply AtM1.callp | apply AtQ.callp | apply At.callp); kernel_rfl; exact rfl; exact rfl; exact kF) | ((with_reducible first | apply AtM1.callp | apply AtQ.callp | apply At.callp); kernel_rfl; exact rfl; exact rfl; exact kL) | ((with_reducible apply At.box (d := 1)); exact rfl; exact rfl; exact rfl; intro b1) | ((with_reducible apply At.alloc (d := 3)); exact rfl; exact rfl; intro b3) | (refine zsp ?_ ?_ <;> (intro hc; (try simp only [zhcs, reduceCtorEq] at hc); (try (exfalso; first | (first | omega | exact absurd hc hz) | contradiction | omega | exact absurd rfl hc | exact absurd (by decide) hc))))))
        all_goals ((with_reducible apply At.retB1 (B := [])); exact rfl; exact rfl; exact zml; exact zkp; exact ⟨rfl, rfl, rfl⟩)
    · rw [show c.F.chk = 2 from if_neg a3] at kF
      rw [show chk c = 2 from if_neg (fun h => h.elim hz (fun h => a3 h.F))]
      refine Ct.enterV (by rfl) Tryz.func80 rfl Tryz.ntmps80 rfl (fun w0 Rest => ?_)
      (repeat' (first | refine zss ?_ | ((first | (with_reducible first | apply At.val | apply AtQ.val)); (exact pr_ceq (b := z) (by rfl) (by rfl)); exact rfl) | refine zs0 ?_ | ((with_reducible first | apply AtM1.callp | apply AtQ.callp | apply At.callp); kernel_rfl; exact rfl; exact rfl; exact kF) | ((with_reducible apply At.box (d := 1)); exact rfl; exact rfl; exact rfl; intro b1) | ((with_reducible apply At.alloc (d := 3)); exact rfl; exact rfl; intro b3) | (refine zsp ?_ ?_ <;> (intro hc; (try simp only [zhcs, reduceCtorEq] at hc); (try (exfalso; first | (first | omega | exact absurd hc hz) | contradiction | omega | exact absurd rfl hc | exact absurd (by decide) hc))))))
      all_goals ((with_reducible apply At.retB1 (B := [])); exact rfl; exact rfl; exact zml; exact zkp; exact ⟨rfl, rfl, rfl⟩)
  · rw [show chk c = 2 from if_neg (fun h => h.elim hz (fun h => h1 h.n))]
    refine Ct.enterV (by rfl) Tryz.func80 rfl Tryz.ntmps80 rfl (fun w0 Rest => ?_)
    (repeat' (first | refine zss ?_ | ((first | (with_reducible first | apply At.val | apply AtQ.val)); (exact pr_ceq (b := z) (by rfl) (by rfl)); exact rfl) | refine zs0 ?_ | ((with_reducible apply At.box (d := 1)); exact rfl; exact rfl; exact rfl; intro b1) | ((with_reducible apply At.alloc (d := 3)); exact rfl; exact rfl; intro b3) | (refine zsp ?_ ?_ <;> (intro hc; (try simp only [zhcs, reduceCtorEq] at hc); (try (exfalso; first | (first | omega | exact absurd hc hz) | contradiction | omega | exact absurd rfl hc | exact absurd (by decide) hc))))))
    all_goals ((with_reducible apply At.retB1 (B := [])); exact rfl; exact rfl; exact zml; exact zkp; exact ⟨rfl, rfl, rfl⟩)
end Cell
end Go.Proofs.YtecifniognbomaaGreat
/- The contracts of the package window and of its reference. -/
set_option linter.unusedSimpArgs false
set_option linter.unusedVariables false
set_option linter.unusedSectionVars false
set_option maxRecDepth 20000
set_option maxHeartbeats 4000000
namespace Go.Proofs.YtecifniognbomaaGreat
open Go Go.J
attribute [local irreducible] At AtQ PR Ct Pu

namespace Win
def ofOk (t w : Int) : Prop := 0 ≤ t ∧ t ≤ 35184372088831 ∧ 1 ≤ w ∧ w ≤ 1099511627776
instance (t w : Int) : Decidable (ofOk t w) := by unfold ofOk; infer_instance
def ofV (t w : Int) : Int := if ofOk t w then t / w else 0
def ofE (t w : Int) : Int := if ofOk t w then 0 else 1
def beginOk (i w : Int) : Prop := 1 ≤ w ∧ w ≤ 1099511627776 ∧ 0 ≤ i ∧ i ≤ 35184372088832 / w
instance (t w : Int) : Decidable (beginOk t w) := by unfold beginOk; infer_instance
def beginV (i w : Int) : Int := if beginOk i w then i * w else 0
def beginE (i w : Int) : Int := if beginOk i w then 0 else 1
def oldOk (t w n : Int) : Prop := ofOk t w ∧ 1 ≤ n ∧ n ≤ 4096
instance (t w n : Int) : Decidable (oldOk t w n) := by unfold oldOk; infer_instance
def oldV (t w n : Int) : Int := if oldOk t w n then (if 0 < t / w + 1 - n then t / w + 1 - n else 0) else 0
def oldE (t w n : Int) : Int := if oldOk t w n then 0 else 1
def slotV (i n : Int) : Int := if i < 0 ∨ n < 1 then 0 else i % n
def spanR (a b w : Int) : Bool := decide (1 ≤ w ∧ w ≤ 1099511627776 ∧ 0 ≤ a ∧ b ≤ 35184372088832 ∧ a < b)
def spanU (a b w : Int) : Bool := decide (a % w = 0 ∧ b % w = 0)
def spanE (a b w : Int) : Int := if spanR a b w then (if spanU a b w then 0 else 10) else 1
def spanA (a b w : Int) : Int := if spanR a b w && spanU a b w then a / w else 0
def spanB (a b w : Int) : Int := if spanR a b w && spanU a b w then b / w else 0
def goneV (t now w n : Int) : Bool := decide (ofE t w = 0 ∧ oldE now w n = 0 ∧ ofV t w < oldV now w n)
theorem ofE_cases (t w : Int) : (ofOk t w ∧ ofE t w = 0 ∧ ofV t w = t / w) ∨ (¬ ofOk t w ∧ ofE t w = 1 ∧ ofV t w = 0) := by
  unfold ofE ofV; by_cases h : ofOk t w <;> simp [h]
theorem ofV_bd (t w : Int) : 0 ≤ ofV t w ∧ ofV t w ≤ 35184372088831 := by
  unfold ofV; split
  · rename_i h; obtain ⟨h1, h2, h3, h4⟩ := h
    have := Int.ediv_nonneg h1 (by omega : 0 ≤ w)
    have := Int.ediv_le_self w h1
    omega
  · omega
theorem div_bd {t w : Int} (h1 : 0 ≤ t) (h3 : 1 ≤ w) : 0 ≤ t / w ∧ t / w ≤ t := ⟨Int.ediv_nonneg h1 (by omega), Int.ediv_le_self w h1⟩
theorem mod_bd {t w : Int} (h3 : 1 ≤ w) : 0 ≤ t % w ∧ t % w < w := ⟨Int.emod_nonneg t (by omega), Int.emod_lt_of_pos t (by omega)⟩
theorem mul_bd {i w : Int} (h1 : 1 ≤ w) (h2 : 0 ≤ i) (h3 : i ≤ 35184372088832 / w) : 0 ≤ i * w ∧ i * w ≤ 35184372088832 :=
  ⟨Int.mul_nonneg h2 (by omega), Int.mul_le_of_le_ediv (by omega) h3⟩
end Win
open Win

theorem win_in64 (n a b : Int) : Pu Tryz.prog 72 #[.int .i64 n, .int .i64 a, .int .i64 b] (.bool (decide (a ≤ n ∧ n ≤ b))) := Pu.intro fun m => by
  refine Ct.enterV (by rfl) Tryz.func72 rfl Tryz.ntmps72 rfl (fun w0 Rest => ?_)
  (repeat' (first | refine zss ?_ | refine zs0 ?_ | (refine zsp ?_ ?_ <;> (intro hc; (try simp only [zhcs, reduceCtorEq] at hc); (try (exfalso; first | contradiction | omega | exact absurd rfl hc | exact absurd (by decide) hc))))))
  all_goals (refine At.ret1 rfl (by rfl) (Mem.le_refl _) ⟨?_, rfl, rfl⟩ (Ent.refl _); simp [hc])
theorem win_in (n a b : Int) : Pu Tryz.prog 56 #[.int .i64 n, .int .i64 a, .int .i64 b] (.bool (decide (a ≤ n ∧ n ≤ b))) := Pu.intro fun m => by
  refine Ct.enterV (by rfl) Tryz.func56 rfl Tryz.ntmps56 rfl (fun w0 Rest => ?_)
  (repeat' (first | refine zss ?_ | refine zs0 ?_ | (refine zsp ?_ ?_ <;> (intro hc; (try simp only [zhcs, reduceCtorEq] at hc); (try (exfalso; first | contradiction | omega | exact absurd rfl hc | exact absurd (by decide) hc))))))
  all_goals (refine At.ret1 rfl (by rfl) (Mem.le_refl _) ⟨?_, rfl, rfl⟩ (Ent.refl _); simp [hc])
theorem win_width (w : Int) : Pu Tryz.prog 73 #[.int .i64 w] (.bool (decide (1 ≤ w ∧ w ≤ 1099511627776))) := Pu.intro fun m => by
  refine Ct.enterV (by rfl) Tryz.func73 rfl Tryz.ntmps73 rfl (fun w0 Rest => ?_)
  (repeat' (first | refine zss ?_ | refine zs0 ?_ | ((with_reducible first | apply AtM1.callp | apply AtQ.callp | apply At.callp); kernel_rfl; exact rfl; exact rfl; exact win_in64 _ _ _) | (refine zsp ?_ ?_ <;> (intro hc; (try simp only [zhcs, reduceCtorEq] at hc); (try (exfalso; first | contradiction | omega | exact absurd rfl hc | exact absurd (by decide) hc))))))
  all_goals (refine At.ret1 rfl (by rfl) (Mem.le_refl _) ⟨?_, rfl, rfl⟩ (Ent.refl _); rfl)
theorem win_of (t w : Int) : Pu Tryz.prog 55 #[.int .i64 t, .int .i64 w] (.tuple #[.int .i64 (ofV t w), .int .i64 (ofE t w)]) := Pu.intro fun m => by
  refine Ct.enterV (by rfl) Tryz.func55 rfl Tryz.ntmps55 rfl (fun w0 Rest => ?_)
  (repeat' (first | refine zss ?_ | refine zs0 ?_ | ((with_reducible first | apply AtM1.callp | apply AtQ.callp | apply At.callp); kernel_rfl; exact rfl; exact rfl; exact win_in64 _ _ _) | ((with_reducible first | apply AtM1.callp | apply AtQ.callp | apply At.callp); kernel_rfl; exact rfl; exact rfl; exact win_width _) | (refine zsp ?_ ?_ <;> (intro hc; (try simp only [zhcs, reduceCtorEq] at hc); (try (exfalso; first | contradiction | omega | exact absurd rfl hc | exact absurd (by decide) hc))))))
  all_goals (refine At.ret2 rfl (by rfl) (by rfl) (Mem.le_refl _) ⟨?_, rfl, rfl⟩ (Ent.refl _); (first | (have hif : ofOk t w := (by unfold ofOk; omega); simp only [ofV, ofE, if_pos hif]; done) | (have hif : ¬ ofOk t w := (by unfold ofOk; omega); simp only [ofV, ofE, if_neg hif]; done)))
theorem win_oldest (t w n : Int) : Pu Tryz.prog 37 #[.int .i64 t, .int .i64 w, .int .i64 n] (.tuple #[.int .i64 (oldV t w n), .int .i64 (oldE t w n)]) := Pu.intro fun m => by
  have hb := ofV_bd t w
  rcases ofE_cases t w with ⟨h1, h2, h3⟩ | ⟨h1, h2, h3⟩
  all_goals (refine Ct.enterV (by rfl) Tryz.func37 rfl Tryz.ntmps37 rfl (fun w0 Rest => ?_); (repeat' (first | refine zss ?_ | refine zs0 ?_ | ((with_reducible first | apply AtM1.callp | apply AtQ.callp | apply At.callp); kernel_rfl; exact rfl; exact rfl; exact win_of _ _) | ((with_reducible first | apply AtM1.callp | apply AtQ.callp | apply At.callp); kernel_rfl; exact rfl; exact rfl; exact win_in _ _ _) | (refine zsp ?_ ?_ <;> (intro hc; (try simp only [zhcs, reduceCtorEq] at hc); (try (exfalso; first | contradiction | omega | exact absurd rfl hc | exact absurd (by decide) hc)))))))
  all_goals (refine At.ret2 rfl (by rfl) (by rfl) (Mem.le_refl _) ⟨?_, rfl, rfl⟩ (Ent.refl _))
  all_goals first
    | (have hif : oldOk t w n := ⟨h1, by omega⟩; simp only [oldV, oldE, if_pos hif, h3]; done)
    | (have hif : ¬ oldOk t w n := (fun h => by first | exact h1 h.1 | (have := h.2; omega)); simp only [oldV, oldE, if_neg hif]; done)
theorem win_slot (i n : Int) (hi : -9223372036854775808 ≤ i ∧ i ≤ 9223372036854775807) (hn : -9223372036854775808 ≤ n ∧ n ≤ 9223372036854775807) : Pu Tryz.prog 120 #[.int .i64 i, .int .i64 n] (.int .i64 (slotV i n)) := Pu.intro fun m => by
  have hm := @mod_bd i n
  refine Ct.enterV (by rfl) Tryz.func120 rfl Tryz.ntmps120 rfl (fun w0 Rest => ?_)
  (repeat' (first | refine zss ?_ | refine zs0 ?_ | (refine zsp ?_ ?_ <;> (intro hc; (try simp only [zhcs, reduceCtorEq] at hc); (try (exfalso; first | contradiction | omega | exact absurd rfl hc | exact absurd (by decide) hc))))))
  all_goals (refine At.ret1 rfl (by rfl) (Mem.le_refl _) ⟨?_, rfl, rfl⟩ (Ent.refl _); (first | (have hif : (i < 0 ∨ n < 1) := (by omega); simp only [slotV, if_pos hif]; done) | (have hif : ¬ (i < 0 ∨ n < 1) := (by omega); simp only [slotV, if_neg hif]; done)))
theorem win_gone (t now w n : Int) : Pu Tryz.prog 105 #[.int .i64 t, .int .i64 now, .int .i64 w, .int .i64 n] (.bool (goneV t now w n)) := Pu.intro fun m => by
  refine Ct.enterV (by rfl) Tryz.func105 rfl Tryz.ntmps105 rfl (fun w0 Rest => ?_)
  (repeat' (first | refine zss ?_ | refine zs0 ?_ | ((with_reducible first | apply AtM1.callp | apply AtQ.callp | apply At.callp); kernel_rfl; exact rfl; exact rfl; exact win_of _ _) | ((with_reducible first | apply AtM1.callp | apply AtQ.callp | apply At.callp); kernel_rfl; exact rfl; exact rfl; exact win_oldest _ _ _) | (refine zsp ?_ ?_ <;> (intro hc; (try simp only [zhcs, reduceCtorEq] at hc); (try (exfalso; first | contradiction | omega | exact absurd rfl hc | exact absurd (by decide) hc))))))
  all_goals (refine At.ret1 rfl (by rfl) (Mem.le_refl _) ⟨?_, rfl, rfl⟩ (Ent.refl _); simp [goneV, *])
theorem rwin_width (w : Int) : Pu Tryz.prog 45 #[.int .i64 w] (.bool (decide (1 ≤ w ∧ w ≤ 1099511627776))) := Pu.intro fun m => by
  refine Ct.enterV (by rfl) Tryz.func45 rfl Tryz.ntmps45 rfl (fun w0 Rest => ?_)
  (repeat' (first | refine zss ?_ | refine zs0 ?_ | (refine zsp ?_ ?_ <;> (intro hc; (try simp only [zhcs, reduceCtorEq] at hc); (try (exfalso; first | contradiction | omega | exact absurd rfl hc | exact absurd (by decide) hc))))))
  all_goals (refine At.ret1 rfl (by rfl) (Mem.le_refl _) ⟨?_, rfl, rfl⟩ (Ent.refl _); simp [hc])
theorem back_div {t w : Int} (h : 1 ≤ w) : (t - t % w) / w = t / w := by
  have := Int.emod_add_mul_ediv t w
  rw [show t - t % w = w * (t / w) by omega, Int.mul_ediv_cancel_left _ (by omega)]
theorem rwin_of (t w : Int) : Pu Tryz.prog 27 #[.int .i64 t, .int .i64 w] (.tuple #[.int .i64 (ofV t w), .int .i64 (ofE t w)]) := Pu.intro fun m => by
  have hm := @mod_bd t w
  have hq : 0 ≤ t → 1 ≤ w → t % w ≤ t := fun h h1 => by
    have := Int.emod_add_mul_ediv t w
    have := Int.mul_nonneg (by omega : 0 ≤ w) (Int.ediv_nonneg h (by omega : 0 ≤ w))
    omega
  have hb := @back_div t w
  refine Ct.enterV (by rfl) Tryz.func27 rfl Tryz.ntmps27 rfl (fun w0 Rest => ?_)
  (repeat' (first | refine zss ?_ | refine zs0 ?_ | ((with_reducible first | apply AtM1.callp | apply AtQ.callp | apply At.callp); kernel_rfl; exact rfl; exact rfl; exact rwin_width _) | (refine zsp ?_ ?_ <;> (intro hc; (try simp only [zhcs, reduceCtorEq] at hc); (try (exfalso; first | contradiction | omega | exact absurd rfl hc | exact absurd (by decide) hc))))))
  all_goals (refine At.ret2 rfl (by rfl) (by rfl) (Mem.le_refl _) ⟨?_, rfl, rfl⟩ (Ent.refl _); try rw [hb (by omega)])
  all_goals (first | (have hif : ofOk t w := (by unfold ofOk; omega); simp only [ofV, ofE, if_pos hif]; done) | (have hif : ¬ ofOk t w := (by unfold ofOk; omega); simp only [ofV, ofE, if_neg hif]; done))
theorem rwin_oldest (t w n : Int) : Pu Tryz.prog 26 #[.int .i64 t, .int .i64 w, .int .i64 n] (.tuple #[.int .i64 (oldV t w n), .int .i64 (oldE t w n)]) := Pu.intro fun m => by
  have hb := ofV_bd t w
  rcases ofE_cases t w with ⟨h1, h2, h3⟩ | ⟨h1, h2, h3⟩
  all_goals (refine Ct.enterV (by rfl) Tryz.func26 rfl Tryz.ntmps26 rfl (fun w0 Rest => ?_); (repeat' (first | refine zss ?_ | refine zs0 ?_ | ((with_reducible first | apply AtM1.callp | apply AtQ.callp | apply At.callp); kernel_rfl; exact rfl; exact rfl; exact rwin_of _ _) | (refine zsp ?_ ?_ <;> (intro hc; (try simp only [zhcs, reduceCtorEq] at hc); (try (exfalso; first | contradiction | omega | exact absurd rfl hc | exact absurd (by decide) hc)))))))
  all_goals (refine At.ret2 rfl (by rfl) (by rfl) (Mem.le_refl _) ⟨?_, rfl, rfl⟩ (Ent.refl _))
  all_goals first
    | (have hif : oldOk t w n := ⟨h1, by omega⟩; simp only [oldV, oldE, if_pos hif, ← h3]; rw [show (if ofV t w - n + 1 < 0 then (0:Int) else ofV t w - n + 1) = (if 0 < ofV t w + 1 - n then ofV t w + 1 - n else 0) from by split <;> split <;> omega])
    | (have hif : ¬ oldOk t w n := (fun h => by first | exact h1 h.1 | (have := h.2; omega)); simp only [oldV, oldE, if_neg hif]; done)
theorem rwin_slot (i n : Int) (hi : -9223372036854775808 ≤ i ∧ i ≤ 9223372036854775807) (hn : -9223372036854775808 ≤ n ∧ n ≤ 9223372036854775807) : Pu Tryz.prog 94 #[.int .i64 i, .int .i64 n] (.int .i64 (slotV i n)) := Pu.intro fun m => by
  have hm := @mod_bd i n
  refine Ct.enterV (by rfl) Tryz.func94 rfl Tryz.ntmps94 rfl (fun w0 Rest => ?_)
  (repeat' (first | refine zss ?_ | refine zs0 ?_ | (refine zsp ?_ ?_ <;> (intro hc; (try simp only [zhcs, reduceCtorEq] at hc); (try (exfalso; first | contradiction | omega | exact absurd rfl hc | exact absurd (by decide) hc))))))
  all_goals (refine At.ret1 rfl (by rfl) (Mem.le_refl _) ⟨?_, rfl, rfl⟩ (Ent.refl _); (first | (have hif : (i < 0 ∨ n < 1) := (by omega); simp only [slotV, if_pos hif]; done) | (have hif : ¬ (i < 0 ∨ n < 1) := (by omega); simp only [slotV, if_neg hif]; done)))
theorem rwin_gone (t now w n : Int) : Pu Tryz.prog 81 #[.int .i64 t, .int .i64 now, .int .i64 w, .int .i64 n] (.bool (goneV t now w n)) := Pu.intro fun m => by
  refine Ct.enterV (by rfl) Tryz.func81 rfl Tryz.ntmps81 rfl (fun w0 Rest => ?_)
  (repeat' (first | refine zss ?_ | refine zs0 ?_ | ((with_reducible first | apply AtM1.callp | apply AtQ.callp | apply At.callp); kernel_rfl; exact rfl; exact rfl; exact rwin_of _ _) | ((with_reducible first | apply AtM1.callp | apply AtQ.callp | apply At.callp); kernel_rfl; exact rfl; exact rfl; exact rwin_oldest _ _ _) | (refine zsp ?_ ?_ <;> (intro hc; (try simp only [zhcs, reduceCtorEq] at hc); (try (exfalso; first | contradiction | omega | exact absurd rfl hc | exact absurd (by decide) hc))))))
  all_goals (refine At.ret1 rfl (by rfl) (Mem.le_refl _) ⟨?_, rfl, rfl⟩ (Ent.refl _); simp [goneV, *])
end Go.Proofs.YtecifniognbomaaGreat
/- An element of an array's value. -/
set_option linter.unusedSimpArgs false
set_option linter.unusedVariables false
set_option linter.unusedSectionVars false
set_option maxRecDepth 20000
namespace Go.J
open Go
theorem pr_index_agg {P : Program} {n : Nat} {F : Fr} {C : World → Prop} {x y : Operand} {t e : TypeId} {len k : Nat} {ki : IntKind} {cs : List Value} {v : Value} (hx : ev F x = some (.agg cs.toArray)) (hy : ev F y = some (.int ki (k : Int)))
    (ht : P.underlying t = some (.array len e)) (hs : sizeB P e = some 1) (hg : isAggB P e = some false) (hk : Nat.blt k len = true) (hv : nthl cs k = some v) : PR P n F C (.index t x y) v := fun _ _ _ _ _ a w ha _ => by
  have hk' : k < len := Nat.le_of_ble_eq_true hk
  have hr : ∀ w, (underlying t).run P w = .ok (.array len e) w := fun w => by simp only [underlying, program, bind, Sem.bind, Sem.run, ht]; rfl
  have hv' : cs[k]? = some v := by rw [nthl_eq] at hv; exact hv
  have : (Instr.index t (.agg cs.toArray) (.int ki (k : Int))).run P w = .ok v w := by
    unfold Instr.index
    have hb : (0 : Int) ≤ (k : Int) ∧ (k : Int) < (len : Int) := ⟨by omega, by omega⟩
    simp only [asIntOf, pure, Sem.run_bind, Sem.run, Result.andThen, hr, hb, and_self, if_true, run_sizeOf hs, Int.toNat_natCast, Nat.mul_one]
    unfold part
    simp only [Sem.run_bind, run_isAgg hg, Result.andThen]
    simp [hv', pure, Sem.run]
  simp only [execOp, ha.ev hx, ha.ev hy, Sem.run_bind]
  rw [this]
  rfl
def buildAL (P : Program) (t : TypeId) (ps : List (Nat × Value)) : Option (List Value) := match P.underlying t with
  | some (.array _ e) => match zeroL P t with
    | some z => match P.info? e with
      | some ie => match fillL (fun i => some (i * ie.size, ie.size)) z ps with
        | some r => flat r
        | none => none
      | none => none
    | none => none
  | _ => none
theorem buildAL_eq {P : Program} {t : TypeId} {ps : List (Nat × Value)} {r : List Value} (h : buildAL P t ps = some r) : P.built t ps = some r.toArray := by
  unfold buildAL at h
  unfold Program.built
  cases hu : P.underlying t with
  | none => rw [hu] at h; cases h
  | some d =>
    rw [hu] at h
    cases d <;> simp at h
    rename_i n e
    cases hz : zeroL P t with
    | none => rw [hz] at h; simp at h
    | some zs =>
      obtain ⟨i, z, hi, hzz, hzc⟩ := zeroL_spec hz
      rw [hz] at h
      simp only at h
      cases hie : P.info? e with
      | none => rw [hie] at h; simp at h
      | some ie =>
        rw [hie] at h
        simp only at h
        cases hf : fillL (fun i => some (i * ie.size, ie.size)) zs ps with
        | none => rw [hf] at h; cases h
        | some r' =>
          rw [hf] at h
          have := flat_eq _ _ h
          subst this
          simp only [hi, hzz, hie, hzc]
          exact fillL_eq _ _ _ _ hf
theorem pr_buildArr {P : Program} {n : Nat} {F : Fr} {C : World → Prop} {t : TypeId} {xs : List (Nat × Operand)} {ps : List (Nat × Value)} {r : List Value} (hx : evps F xs = some ps) (hb : buildAL P t ps = some r) : PR P n F C (.build t xs.toArray) (.agg r.toArray) := fun _ _ _ _ _ a w ha _ => by
  have e : (xs.toArray.map fun (i, x) => (i, a.eval x)) = ps.toArray := by simp [evps_map ha xs ps hx]
  simp only [execOp, e, Sem.run_bind]
  rw [run_build w t ps.toArray r.toArray (by simpa using buildAL_eq hb)]
  rfl
theorem nine {L : List Int} (h : L.length = 9) : ∃ r a b d x y w c g, L = [r, a, b, d, x, y, w, c, g] := by
  match L, h with
  | [r, a, b, d, x, y, w, c, g], _ => exact ⟨r, a, b, d, x, y, w, c, g, rfl⟩
end Go.J
/- A slice beside nil; what is cleared. -/
set_option linter.unusedSimpArgs false
set_option linter.unusedVariables false
set_option linter.unusedSectionVars false
set_option maxRecDepth 20000
namespace Go.J
open Go
section
variable {P : Program} {n : Nat} {F : Fr} {C : World → Prop}
theorem run_equal_slnil {t e : TypeId} {p : Option Addr} {l c l2 c2 : Nat} (ht : P.underlying t = some (.slice e)) (w : World) : (Op.equal t (.slice p l c) (.slice none l2 c2)).run P w = .ok p.isNone w := by
  simp [Op.equal, Op.maxDepth, Lib.run_equalIn_slice_nil w 9999 t e p l c l2 c2 ht]
theorem pr_sleql {x y : Operand} {p : Option Addr} {l c l2 c2 : Nat} {t u e : TypeId} (ht : P.underlying t = some (.slice e)) (hx : ev F x = some (.slice p l c)) (hy : ev F y = some (.slice none l2 c2)) : PR P n F C (.binOp .eql t x y u) (.bool p.isNone) :=
  pr_eql_of hx hy (fun _ => rfl) (by cases p <;> rfl) (fun w _ => run_equal_slnil ht w)
theorem pr_slneq {x y : Operand} {p : Option Addr} {l c l2 c2 : Nat} {t u e : TypeId} (ht : P.underlying t = some (.slice e)) (hx : ev F x = some (.slice p l c)) (hy : ev F y = some (.slice none l2 c2)) : PR P n F C (.binOp .neq t x y u) (.bool !p.isNone) :=
  pr_neq_of hx hy (fun _ => rfl) (by cases p <;> rfl) (fun w _ => run_equal_slnil ht w)
def zeroOneB (P : Program) (e : TypeId) : Bool := match P.info? e with
  | some i => match i.zero with
    | some z => z.cells.toList.all oneCell
    | none => false
  | none => false
end
section
variable {P : Program} {n : Nat} {w0 : World} {F : Fr} {m : Mem} {Rs : List Res} {Q : Exit → Act → World → Prop} {α : Type} [Inhabited α] {f : α → List Value} {sz : Nat} {E : TypeId} {p : Option Addr} {c : Nat} {l : List α} {Rs' : List Res}
theorem pr_slice_own {x z : Operand} {t : TypeId} {ln hi : Nat} {k : IntKind} (hx : ev F x = some (.slice p ln c)) (hz : ev F z = some (.int k (hi : Int))) (hp : Pick Rs (.own f sz E p c l) Rs') (hl : l.length = hi) (ht : P.underlying t = some (.slice E)) (hs : sizeB P E = some sz) :
    PR P n F (HW w0 m Rs) (.slice t x none (some z) none) (.slice (subp p c 0 sz) (hi - 0) (c - 0)) := by
  subst hl
  exact fun d ty pos aft g a w ha hC => pr_slice_h hx hz ht hs (own_le hp w hC) d ty pos aft g a w ha hC
theorem zeroCells_one {z : Array Value} (h : z.toList.all oneCell = true) (k : Nat) : ∀ v ∈ (Builtin.zeroCells z k).toList, v.oneCell' = true := fun v hv => by
  simp only [Builtin.zeroCells, Array.toList_map, Array.toList_range, List.mem_map, List.mem_range] at hv
  obtain ⟨i, hi, rfl⟩ := hv
  have hz : 0 < z.size := by
    rcases Nat.eq_zero_or_pos z.size with e | e
    · rw [e] at hi; simp at hi
    · exact e
  have hm := Nat.mod_lt i hz
  have := List.all_eq_true.1 h z[i % z.size]! (by
    rw [getElem!_pos z _ hm]
    exact Array.getElem_mem_toList hm)
  generalize z[i % z.size]! = u at this
  cases u <;> first | rfl | (simp [oneCell] at this)
/-- the end of what one owns is cleared: the rest stays -/
theorem At.clearW {ops : Array Oper} {rest : List Oper} {d : Option Nat} {x : Operand} {t : TypeId} {ty : TypeId} {pos : String} {aft : Array Edge} {ln c2 : Nat} {q : Option Addr}
    (lo : Nat) (hx : ev F x = some (.slice q ln c2)) (hp : Pick Rs (.own f sz E p c l) Rs') (hq : q = subp p c lo sz) (hf : Fl f sz) (ht : P.underlying t = some (.slice E)) (he : elemB P E sz = true) (hz1 : zeroOneB P E = true) (hlo : lo ≤ l.length) (hln : ln = l.length - lo) (hd : d = none)
    (h : At n w0 F m (.own f sz E p c (l.take lo) :: Rs') (wpList P ops Q rest)) :
    At n w0 F m Rs (wpList P ops Q (⟨d, .call ⟨.builtin .clear, #[x], #[t]⟩, ty, pos, aft, none⟩ :: rest)) := fun a w ha hw =>
  wpList_plain rfl fun K hK => by
    subst hln hd hq
    obtain ⟨i, z, hi, hz, hsz, hbt, hzs⟩ := elemB_spec he
    have hone : z.cells.toList.all oneCell = true := by
      unfold zeroOneB at hz1; rw [hi] at hz1; simp only [hz] at hz1; exact hz1
    have hrow : ∀ s, (Res.own f sz E p c l).p w s → ∃ w', (Builtin.clear_ #[t] ty #[.slice (subp p c lo sz) (l.length - lo) c2]).run P w = .ok (.tuple #[]) w' ∧ (Res.own f sz E p c (l.take lo)).p w' s ∧ w'.os = w.os ∧ w'.tape = w.tape ∧ w'.output = w.output ∧ w.heap.size ≤ w'.heap.size ∧ (∀ k, k < w.heap.size → ¬ s k → w'.heap[k]? = w.heap[k]?) := fun s hown => by
      by_cases hz0 : l.length - lo = 0
      · have hl : l.take lo = l := List.take_of_length_le (by omega)
        rw [hz0, hl]
        refine ⟨w, ?_, hown, rfl, rfl, rfl, Nat.le_refl _, fun _ _ _ => rfl⟩
        cases subp p c lo sz <;> simp [Builtin.clear_, run_underlying ht]
      · rcases hown with ⟨rfl, rfl, rfl, hno⟩ | ⟨g, o, cur, rfl, h4, h5, h6, h7, h8, hgs⟩
        · simp at hz0
        · have hne : c ≠ lo := by omega
          have hsub : subp (some ⟨g, o, none⟩) c lo sz = some ⟨g, o + lo * sz, none⟩ := by unfold subp; rw [if_neg hne]; simp [Addr.add_eq]
          rw [hsub]
          have hlen : (Builtin.zeroCells z.cells (l.length - lo)).toList.length = (l.length - lo) * sz := by rw [Array.length_toList, size_zeroCells, hzs]
          have hcs : l.length * sz ≤ c * sz := Nat.mul_le_mul_right _ h5
          have hsp : (l.length - lo) * sz + lo * sz = l.length * sz := by rw [← Nat.add_mul]; congr 1; omega
          have hst := run_storeCells_at P g (o + lo * sz) E (Builtin.zeroCells z.cells (l.length - lo)).toList 0 cur w h4 (by omega) (zeroCells_one hone _)
          simp only [Nat.add_zero] at hst
          refine ⟨w.setRow g (cur.toList.take (o + lo * sz) ++ (Builtin.zeroCells z.cells (l.length - lo)).toList ++ cur.toList.drop (o + lo * sz + (Builtin.zeroCells z.cells (l.length - lo)).toList.length)).toArray, ?_, .inr ⟨g, o, (cur.toList.take (o + lo * sz) ++ (Builtin.zeroCells z.cells (l.length - lo)).toList ++ cur.toList.drop (o + lo * sz + (Builtin.zeroCells z.cells (l.length - lo)).toList.length)).toArray, rfl, setRow_heap w g cur _ E _ h4, by simp only [List.length_take]; omega, h6, ?_, fun j hj => ?_, hgs⟩, rfl, rfl, rfl, by simp, fun i _ hi => setRow_other w g i _ (fun e => hi ((hgs i).2 e))⟩
          · obtain ⟨k, hk⟩ : ∃ k, l.length - lo = k + 1 := ⟨l.length - lo - 1, by omega⟩
            have hzv : ∀ w, (zeroValue E).run P w = .ok z w := fun w => by simp [zeroValue, typeInfo, hi, hz]
            rw [hk] at hst ⊢
            simp [Builtin.clear_, run_underlying ht, hzv, hst]
          · simp only [List.size_toArray, List.length_append, List.length_take, List.length_drop, Array.length_toList, size_zeroCells, hzs]
            omega
          · have hj2 : j < lo * sz := by rw [List.length_take] at hj; exact Nat.lt_of_lt_of_le hj (Nat.mul_le_mul_right _ (Nat.min_le_left _ _))
            have hll : lo * sz ≤ l.length * sz := Nat.mul_le_mul_right _ hlo
            rw [List.getElem?_toArray, List.append_assoc, List.getElem?_append_left (by simp only [List.length_take, Array.length_toList]; omega), List.getElem?_take, if_pos (by omega), Array.getElem?_toList, h8 j (by omega)]
            have e : l.flatMap f = (l.take lo).flatMap f ++ (l.drop lo).flatMap f := by rw [← List.flatMap_append, List.take_append_drop]
            rw [e, List.getElem?_append_left (by rw [flatMap_length hf.len]; exact hj)]
    obtain ⟨s0, hown⟩ := hw.get hp
    obtain ⟨w', hr', _⟩ := hrow s0 hown
    have hrun' : (execOp a.eval ⟨none, .call ⟨.builtin .clear, #[x], #[t]⟩, ty, pos, aft, none⟩).run P w = .ok (.value (.tuple #[])) w' := by
      rw [BigFrame.execOp_builtin]
      simp [BigFrame.builtin_clear, ha.ev hx, hr']
    unfold Oper.wp
    rw [hrun']
    refine hK _ _ (h _ _ ha (hw.turn hp fun s hs => ?_))
    obtain ⟨w2, hr2, h2, g1, g2, g3, g4, g5⟩ := hrow s hs
    rw [hr'] at hr2
    injection hr2 with _ e2
    subst e2
    exact ⟨s, h2, g1, g2, g3, g4, g5, fun k hk => .inl hk⟩
end
end Go.J
/- Lists of whole numbers, of texts, of bools, as cells; whether two are one. -/
set_option linter.unusedSimpArgs false
set_option linter.unusedVariables false
set_option linter.unusedSectionVars false
set_option maxRecDepth 20000
set_option maxHeartbeats 4000000
namespace Go.Proofs.YtecifniognbomaaGreat
open Go Go.J
attribute [local irreducible] At AtQ AtM AtM1 PR Ct Pu Rd Res.blk Res.own Res.ex RVs RV
namespace Ls
abbrev fI : Int → List Value := fun x => [.int .i64 x]
instance : Fl fI 1 := ⟨fun _ => rfl, fun _ v h => by simp at h; subst h; rfl, by decide⟩
abbrev fS : List UInt8 → List Value := fun x => [.string (str x)]
instance : Fl fS 1 := ⟨fun _ => rfl, fun _ v h => by simp at h; subst h; rfl, by decide⟩
abbrev fO : Bool → List Value := fun x => [.bool x]
instance : Fl fO 1 := ⟨fun _ => rfl, fun _ v h => by simp at h; subst h; rfl, by decide⟩
abbrev fH : Nat → List Value := fun x => [.int .u16 (x : Int)]
instance : Fl fH 1 := ⟨fun _ => rfl, fun _ v h => by simp at h; subst h; rfl, by decide⟩
/-- a slice that stands in a slice -/
structure SX (α : Type) where
  (l : List α) (p : Option Addr) (c : Nat)
instance {α : Type} : Inhabited (SX α) := ⟨⟨[], none, 0⟩⟩
abbrev fX {α : Type} : SX α → List Value := fun x => [.slice x.p x.l.length x.c]
instance {α : Type} : Fl (fX (α := α)) 1 := ⟨fun _ => rfl, fun _ v h => by simp at h; subst h; rfl, by decide⟩
theorem ext! {α : Type} [Inhabited α] {a b : List α} (hl : a.length = b.length) (h : ∀ i, i < a.length → a[i]! = b[i]!) : a = b :=
  List.ext_getElem hl fun i h1 h2 => by have := h i h1; rwa [getElem!_pos a i h1, getElem!_pos b i h2] at this
theorem take_snoc {α : Type} [Inhabited α] {l : List α} {i : Nat} (h : i < l.length) : l.take (i + 1) = l.take i ++ [l[i]!] := by
  rw [getElem!_pos l i h, List.take_succ_eq_append_getElem h]
theorem drop_cons {α : Type} [Inhabited α] {l : List α} {i : Nat} (h : i < l.length) : l.drop i = l[i]! :: l.drop (i + 1) := by
  rw [getElem!_pos l i h, List.drop_eq_getElem_cons h]
theorem mem! {α : Type} [Inhabited α] {l : List α} {i : Nat} (h : i < l.length) : l[i]! ∈ l := by
  rw [getElem!_pos l i h]; exact List.getElem_mem h
theorem clipSl {m : Mem} {α : Type} [Inhabited α] {f : α → List Value} {sz : Nat} {p : Option Addr} {c : Nat} {l : List α} (h : Sl m f sz p c l) : Sl m f sz p l.length l := by
  have hle := h.le
  refine ⟨h.fl, Nat.le_refl _, Nat.le_trans hle h.big, fun e => by have := h.nil e; omega, fun a ha h0 => ?_⟩
  obtain ⟨h1, E, cs, fz, h2, h3, h4⟩ := h.some a ha (by omega)
  exact ⟨h1, E, cs, fz, h2, Nat.le_trans (Nat.add_le_add_left (Nat.mul_le_mul_right _ hle) _) h3, h4⟩
end Ls
end Go.Proofs.YtecifniognbomaaGreat
/- Tiers: what a slot is, which are right; the program's answers. -/
set_option linter.unusedSimpArgs false
set_option linter.unusedVariables false
set_option linter.unusedSectionVars false
set_option maxRecDepth 20000
set_option maxHeartbeats 4000000
namespace Go.Proofs.YtecifniognbomaaGreat
open Go Go.J
attribute [local irreducible] At AtQ AtM AtM1 PR Ct Pu Rd Res.blk Res.own Res.ex RVs RV
structure Slot where
  (w : Int) (c : Cell)
namespace Slot
abbrev cells : Slot → List Value := fun s => .int .i64 s.w :: Cell.cells s.c
abbrev v (s : Slot) : Value := .agg (cells s).toArray
instance : Fl cells 15 := ⟨fun _ => rfl, fun x v h => by simp at h; rcases h with rfl | rfl | rfl | rfl | rfl | rfl | rfl | rfl | rfl | rfl | rfl | rfl | rfl | rfl | rfl <;> rfl, by decide⟩
abbrev z : Slot := ⟨0, Cell.z⟩
instance : Inhabited Slot := ⟨z⟩
theorem ext {a b : Slot} (h1 : a.w = b.w) (h2 : a.c = b.c) : a = b := by cases a; cases b; cases h1; cases h2; rfl
instance : DecidableEq Slot := fun a b => decidable_of_iff (a.w = b.w ∧ a.c = b.c) ⟨fun h => ext h.1 h.2, fun h => by subst h; exact ⟨rfl, rfl⟩⟩
def In (s : Slot) : Prop := (-9223372036854775808 ≤ s.w ∧ s.w ≤ 9223372036854775807) ∧ (-9223372036854775808 ≤ s.c.n ∧ s.c.n ≤ 9223372036854775807) ∧ s.c.F.V < 18446744073709551616 ∧ s.c.L.V < 18446744073709551616 ∧ s.c.I < 340282366920938463463374607431768211456
end Slot
namespace Ti
open Slot Win
theorem and_slot (a b : Slot) : andL [decide (a.w = b.w), decide (a.c.n = b.c.n), decide (a.c.F.T = b.c.F.T), decide ((a.c.F.V : Int) = (b.c.F.V : Int)), decide (a.c.F.C = b.c.F.C), a.c.F.S == b.c.F.S, decide (a.c.L.T = b.c.L.T), decide ((a.c.L.V : Int) = (b.c.L.V : Int)), decide (a.c.L.C = b.c.L.C), a.c.L.S == b.c.L.S,
    decide (((a.c.I / 18446744073709551616 : Nat) : Int) = ((b.c.I / 18446744073709551616 : Nat) : Int)), decide (((a.c.I % 18446744073709551616 : Nat) : Int) = ((b.c.I % 18446744073709551616 : Nat) : Int)), decide (a.c.R = b.c.R), decide (a.c.G = b.c.G), decide (a.c.X = b.c.X)] = decide (a = b) := by
  rw [andL_cons, Cell.and_cell, ← Bool.decide_and]
  exact decide_eq_decide.2 ⟨fun h => ext h.1 h.2, fun h => by subst h; exact ⟨rfl, rfl⟩⟩
theorem pr_sleq {n : Nat} {F : Fr} {C : World → Prop} {x y : Operand} {u : TypeId} {a b : Slot} (hx : ev F x = some a.v) (hy : ev F y = some b.v) : PR Tryz.prog n F C (.binOp .eql 51 x y u) (.bool (decide (a = b))) := by
  rw [← and_slot]
  exact pr_aggeq2 hx hy (by rfl) (by kernel_rfl) (by kernel_rfl) (by rfl)
theorem pr_slne {n : Nat} {F : Fr} {C : World → Prop} {x y : Operand} {u : TypeId} {a b : Slot} (hx : ev F x = some a.v) (hy : ev F y = some b.v) : PR Tryz.prog n F C (.binOp .neq 51 x y u) (.bool (!decide (a = b))) := by
  rw [← and_slot]
  exact pr_aggne2 hx hy (by rfl) (by kernel_rfl) (by kernel_rfl) (by rfl)
/-- a cell may be a window's -/
def fits (c : Cell) (w i : Int) : Prop := c.n ≠ 0 ∧ Cell.chk c = 0 ∧ (ofE c.F.T w = 0 ∧ ofV c.F.T w = i) ∧ ofE c.L.T w = 0 ∧ ofV c.L.T w = i
instance (c : Cell) (w i : Int) : Decidable (fits c w i) := by unfold fits; infer_instance
theorem none_ (s : Slot) : Pu Tryz.prog 119 #[s.v] (.bool (decide (s = z))) := Pu.intro fun m => by
  refine Ct.enterV (by rfl) Tryz.func119 rfl Tryz.ntmps119 rfl (fun w0 Rest => ?_)
  (repeat' (first | refine zss ?_ | ((first | (with_reducible first | apply At.val | apply AtQ.val)); (exact pr_sleq (b := z) (by rfl) (by rfl)); exact rfl) | refine zs0 ?_ | ((with_reducible apply At.box (d := 1)); exact rfl; exact rfl; exact rfl; intro b1) | (refine zsp ?_ ?_ <;> (intro hc; (try simp only [zhcs, reduceCtorEq] at hc); (try (exfalso; first | contradiction | omega | exact absurd rfl hc | exact absurd (by decide) hc))))))
  all_goals ((with_reducible apply At.retB1 (B := [])); exact rfl; exact rfl; exact zml; exact zkp; exact ⟨rfl, rfl, rfl⟩)
theorem fitsT (c : Cell) (w i : Int) (hn : -9223372036854775808 ≤ c.n ∧ c.n ≤ 9223372036854775807) : Pu Tryz.prog 104 #[c.v, .int .i64 w, .int .i64 i] (.bool (decide (fits c w i))) := Pu.intro fun m => by
  have k1 := Cell.check c hn
  have k2 := win_of c.F.T w
  have k3 := win_of c.L.T w
  by_cases h0 : c.n = 0
  · rw [decide_eq_false (fun h : fits c w i => h.1 h0)]
    refine Ct.enterV (by rfl) Tryz.func104 rfl Tryz.ntmps104 rfl (fun w0 Rest => ?_)
    (repeat' (first | refine zss ?_ | refine zs0 ?_ | ((with_reducible apply At.box (d := 3)); exact rfl; exact rfl; exact rfl; intro b3) | (refine zsp ?_ ?_ <;> (intro hc; (try simp only [zhcs, reduceCtorEq] at hc); (try (exfalso; first | (first | omega | exact absurd h0 hc) | contradiction | omega | exact absurd rfl hc | exact absurd (by decide) hc))))))
    all_goals ((with_reducible apply At.retB1 (B := [])); exact rfl; exact rfl; exact zml; exact zkp; exact ⟨rfl, rfl, rfl⟩)
  by_cases h1 : Cell.chk c = 0
  rotate_left
  · rw [decide_eq_false (fun h : fits c w i => h1 h.2.1)]
    generalize Cell.chk c = e at k1 h1
    refine Ct.enterV (by rfl) Tryz.func104 rfl Tryz.ntmps104 rfl (fun w0 Rest => ?_)
    (repeat' (first | refine zss ?_ | refine zs0 ?_ | ((with_reducible first | apply AtM1.callp | apply AtQ.callp | apply At.callp); kernel_rfl; exact rfl; exact rfl; exact k1) | ((with_reducible apply At.box (d := 3)); exact rfl; exact rfl; exact rfl; intro b3) | (refine zsp ?_ ?_ <;> (intro hc; (try simp only [zhcs, reduceCtorEq] at hc); (try (exfalso; first | (first | omega | exact absurd hc h0 | exact absurd hc h1) | contradiction | omega | exact absurd rfl hc | exact absurd (by decide) hc))))))
    all_goals ((with_reducible apply At.retB1 (B := [])); exact rfl; exact rfl; exact zml; exact zkp; exact ⟨rfl, rfl, rfl⟩)
  rw [h1] at k1
  refine Ct.enterV (by rfl) Tryz.func104 rfl Tryz.ntmps104 rfl (fun w0 Rest => ?_)
  (repeat' (first | refine zss ?_ | ((first | (with_reducible first | apply At.val | apply AtQ.val)); (exact pr_buildArr (by rfl) (by rfl)); exact rfl) | refine zs0 ?_ | ((with_reducible first | apply AtM1.callp | apply AtQ.callp | apply At.callp); kernel_rfl; exact rfl; exact rfl; exact k1) | ((with_reducible apply At.box (d := 3)); exact rfl; exact rfl; exact rfl; intro b3) | (refine zsp ?_ ?_ <;> (intro hc; (try simp only [zhcs, reduceCtorEq] at hc); (try (exfalso; first | (first | omega | exact absurd hc h0) | contradiction | omega | exact absurd rfl hc | exact absurd (by decide) hc))))))
  (refine At.loopk (σ := Nat) [1, 2, 25] (fun s F0 => (26, .int .i64 (s : Int)) :: F0) (fun s => m) (fun s => Rest) (fun s => s ≤ 2 ∧ (0 < s → ofE c.F.T w = 0 ∧ ofV c.F.T w = i) ∧ (1 < s → ofE c.L.T w = 0 ∧ ofV c.L.T w = i)) (fun s => 2 - s) 0 (by rfl) ?_ zsubs zml zente ?_)
  · exact ⟨Nat.zero_le _, fun h => absurd h (by decide), fun h => absurd h (by decide)⟩
  rintro s ⟨hs, g1, g2⟩
  rcases (show s = 0 ∨ s = 1 ∨ s = 2 by omega) with rfl | rfl | rfl
  · by_cases e : ofE c.F.T w = 0 ∧ ofV c.F.T w = i
    · obtain ⟨e1, e2⟩ := e
      (repeat' (first | refine zss ?_ | ((first | (with_reducible first | apply At.val | apply AtQ.val)); (exact pr_index_agg (k := 0) (by rfl) (by rfl) (by rfl) (by rfl) (by rfl) (by rfl) (by rfl)); exact rfl) | refine zs0 ?_ | ((with_reducible first | apply AtM1.callp | apply AtQ.callp | apply At.callp); kernel_rfl; exact rfl; exact rfl; exact k2) | ((with_reducible apply At.box (d := 3)); exact rfl; exact rfl; exact rfl; intro b3) | (refine zsp ?_ ?_ <;> (intro hc; (try simp only [zhcs, reduceCtorEq] at hc); (try (exfalso; first | (first | omega | exact absurd e1 hc | exact absurd e2 hc) | contradiction | omega | exact absurd rfl hc | exact absurd (by decide) hc))))))
      all_goals ((with_reducible refine At.reachk (1) ?_ ?_ ?_ ?_); exact zsubs; exact zml; exact zente; exact ⟨⟨by decide, fun _ => ⟨e1, e2⟩, fun h => absurd h (by decide)⟩, by decide⟩)
    · rw [decide_eq_false (fun h : fits c w i => e h.2.2.1)]
      by_cases e1 : ofE c.F.T w = 0
      · have e2 : ¬ ofV c.F.T w = i := fun h => e ⟨e1, h⟩
        (repeat' (first | refine zss ?_ | ((first | (with_reducible first | apply At.val | apply AtQ.val)); (exact pr_index_agg (k := 0) (by rfl) (by rfl) (by rfl) (by rfl) (by rfl) (by rfl) (by rfl)); exact rfl) | refine zs0 ?_ | ((with_reducible first | apply AtM1.callp | apply AtQ.callp | apply At.callp); kernel_rfl; exact rfl; exact rfl; exact k2) | ((with_reducible apply At.box (d := 3)); exact rfl; exact rfl; exact rfl; intro b3) | (refine zsp ?_ ?_ <;> (intro hc; (try simp only [zhcs, reduceCtorEq] at hc); (try (exfalso; first | (first | omega | exact absurd e1 hc | exact absurd hc e2) | contradiction | omega | exact absurd rfl hc | exact absurd (by decide) hc))))))
        all_goals ((with_reducible apply At.retB1 (B := [])); exact rfl; exact rfl; exact zml; exact zkp; exact ⟨rfl, rfl, rfl⟩)
      · (repeat' (first | refine zss ?_ | ((first | (with_reducible first | apply At.val | apply AtQ.val)); (exact pr_index_agg (k := 0) (by rfl) (by rfl) (by rfl) (by rfl) (by rfl) (by rfl) (by rfl)); exact rfl) | refine zs0 ?_ | ((with_reducible first | apply AtM1.callp | apply AtQ.callp | apply At.callp); kernel_rfl; exact rfl; exact rfl; exact k2) | ((with_reducible apply At.box (d := 3)); exact rfl; exact rfl; exact rfl; intro b3) | (refine zsp ?_ ?_ <;> (intro hc; (try simp only [zhcs, reduceCtorEq] at hc); (try (exfalso; first | (first | omega | exact absurd hc e1) | contradiction | omega | exact absurd rfl hc | exact absurd (by decide) hc))))))
        all_goals ((with_reducible apply At.retB1 (B := [])); exact rfl; exact rfl; exact zml; exact zkp; exact ⟨rfl, rfl, rfl⟩)
  · by_cases e : ofE c.L.T w = 0 ∧ ofV c.L.T w = i
    · obtain ⟨e1, e2⟩ := e
      (repeat' (first | refine zss ?_ | ((first | (with_reducible first | apply At.val | apply AtQ.val)); (exact pr_index_agg (k := 1) (by rfl) (by rfl) (by rfl) (by rfl) (by rfl) (by rfl) (by rfl)); exact rfl) | refine zs0 ?_ | ((with_reducible first | apply AtM1.callp | apply AtQ.callp | apply At.callp); kernel_rfl; exact rfl; exact rfl; exact k3) | ((with_reducible apply At.box (d := 3)); exact rfl; exact rfl; exact rfl; intro b3) | (refine zsp ?_ ?_ <;> (intro hc; (try simp only [zhcs, reduceCtorEq] at hc); (try (exfalso; first | (first | omega | exact absurd e1 hc | exact absurd e2 hc) | contradiction | omega | exact absurd rfl hc | exact absurd (by decide) hc))))))
      all_goals ((with_reducible refine At.reachk (2) ?_ ?_ ?_ ?_); exact zsubs; exact zml; exact zente; exact ⟨⟨by decide, fun _ => g1 (by decide), fun _ => ⟨e1, e2⟩⟩, by decide⟩)
    · rw [decide_eq_false (fun h : fits c w i => e h.2.2.2)]
      by_cases e1 : ofE c.L.T w = 0
      · have e2 : ¬ ofV c.L.T w = i := fun h => e ⟨e1, h⟩
        (repeat' (first | refine zss ?_ | ((first | (with_reducible first | apply At.val | apply AtQ.val)); (exact pr_index_agg (k := 1) (by rfl) (by rfl) (by rfl) (by rfl) (by rfl) (by rfl) (by rfl)); exact rfl) | refine zs0 ?_ | ((with_reducible first | apply AtM1.callp | apply AtQ.callp | apply At.callp); kernel_rfl; exact rfl; exact rfl; exact k3) | ((with_reducible apply At.box (d := 3)); exact rfl; exact rfl; exact rfl; intro b3) | (refine zsp ?_ ?_ <;> (intro hc; (try simp only [zhcs, reduceCtorEq] at hc); (try (exfalso; first | (first | omega | exact absurd e1 hc | exact absurd hc e2) | contradiction | omega | exact absurd rfl hc | exact absurd (by decide) hc))))))
        all_goals ((with_reducible apply At.retB1 (B := [])); exact rfl; exact rfl; exact zml; exact zkp; exact ⟨rfl, rfl, rfl⟩)
      · (repeat' (first | refine zss ?_ | ((first | (with_reducible first | apply At.val | apply AtQ.val)); (exact pr_index_agg (k := 1) (by rfl) (by rfl) (by rfl) (by rfl) (by rfl) (by rfl) (by rfl)); exact rfl) | refine zs0 ?_ | ((with_reducible first | apply AtM1.callp | apply AtQ.callp | apply At.callp); kernel_rfl; exact rfl; exact rfl; exact k3) | ((with_reducible apply At.box (d := 3)); exact rfl; exact rfl; exact rfl; intro b3) | (refine zsp ?_ ?_ <;> (intro hc; (try simp only [zhcs, reduceCtorEq] at hc); (try (exfalso; first | (first | omega | exact absurd hc e1) | contradiction | omega | exact absurd rfl hc | exact absurd (by decide) hc))))))
        all_goals ((with_reducible apply At.retB1 (B := [])); exact rfl; exact rfl; exact zml; exact zkp; exact ⟨rfl, rfl, rfl⟩)
  · rw [decide_eq_true (show fits c w i from ⟨h0, h1, g1 (by decide), g2 (by decide)⟩)]
    (repeat' (first | refine zss ?_ | refine zs0 ?_ | ((with_reducible apply At.box (d := 3)); exact rfl; exact rfl; exact rfl; intro b3) | (refine zsp ?_ ?_ <;> (intro hc; (try simp only [zhcs, reduceCtorEq] at hc); (try (exfalso; first | omega | contradiction | omega | exact absurd rfl hc | exact absurd (by decide) hc))))))
    all_goals ((with_reducible apply At.retB1 (B := [])); exact rfl; exact rfl; exact zml; exact zkp; exact ⟨rfl, rfl, rfl⟩)
/-- a slot may stand where it does -/
def okS (l : List Slot) (w : Int) (k : Nat) : Prop := l[k]! = z ∨ (slotV l[k]!.w (l.length : Int) = (k : Int) ∧ fits l[k]!.c w l[k]!.w)
instance (l : List Slot) (w : Int) (k : Nat) : Decidable (okS l w k) := by unfold okS; infer_instance
def okT (l : List Slot) (w : Int) : Prop := (1 ≤ l.length ∧ l.length ≤ 4096) ∧ (1 ≤ w ∧ w ≤ 1099511627776) ∧ ∀ k, k < l.length → okS l w k
instance (l : List Slot) (w : Int) : Decidable (okT l w) := by unfold okT; infer_instance
def chk (l : List Slot) (w : Int) : Int := if okT l w then 0 else 2
theorem check {m : Mem} (p : Option Addr) (c : Nat) (l : List Slot) (w : Int) (hI : ∀ s ∈ l, Slot.In s) (sl0 : Sl m cells 15 p c l) :
    Rd Tryz.prog 108 #[.slice p l.length c, .int .i64 w] m [] (.int .i64 (chk l w)) := by
  unfold Rd
  by_cases h0 : (1 ≤ l.length ∧ l.length ≤ 4096) ∧ (1 ≤ w ∧ w ≤ 1099511627776)
  rotate_left
  · rw [show chk l w = 2 from if_neg (fun h => h0 ⟨h.1, h.2.1⟩)]
    refine Ct.enterV (by rfl) Tryz.func108 rfl Tryz.ntmps108 rfl (fun w0 Rest => ?_)
    (repeat' (first | refine zss ?_ | refine zsM ?_ | ((with_reducible apply At.alloc (d := 6)); exact rfl; exact rfl; intro b6) | (refine zsp ?_ ?_ <;> (intro hc; (try simp only [zhcs, reduceCtorEq] at hc); (try (exfalso; first | omega | contradiction | omega | exact absurd rfl hc | exact absurd (by decide) hc))))))
    all_goals ((with_reducible apply At.retB1 (B := [])); exact rfl; exact rfl; exact zml; exact zkp; exact ⟨rfl, rfl, rfl⟩)
  obtain ⟨h1, h2⟩ := h0
  refine Ct.enterV (by rfl) Tryz.func108 rfl Tryz.ntmps108 rfl (fun w0 Rest => ?_)
  (repeat' (first | refine zss ?_ | refine zsM ?_ | ((with_reducible apply At.alloc (d := 6)); exact rfl; exact rfl; intro b6) | (refine zsp ?_ ?_ <;> (intro hc; (try simp only [zhcs, reduceCtorEq] at hc); (try (exfalso; first | omega | contradiction | omega | exact absurd rfl hc | exact absurd (by decide) hc))))))
  (refine At.loopk (σ := Nat) [0, 1, 23, 24] (fun s F0 => (25, .int .i64 (s : Int)) :: F0) (fun s => m) (fun s => Rest) (fun s => s ≤ l.length ∧ ∀ k, k < s → okS l w k) (fun s => l.length - s) 0 (by rfl) ?_ zsubs zml zente ?_)
  · exact ⟨Nat.zero_le _, fun k h => absurd h (Nat.not_lt_zero k)⟩
  rintro s ⟨hs, hn⟩
  by_cases h : s < l.length
  · have hi := hI l[s]! (by rw [getElem!_pos l s h]; exact List.getElem_mem h)
    have k1 := none_ l[s]!
    have k2 := win_slot l[s]!.w (l.length : Int) hi.1 (by omega)
    have k3 := fitsT l[s]!.c w l[s]!.w hi.2.1
    have hstep : okS l w s → ∀ k, k < s + 1 → okS l w k := fun ho k hk => by
      by_cases e : k = s
      · subst e; exact ho
      · exact hn k (by omega)
    have hbad : ¬ okS l w s → chk l w = 2 := fun ho => if_neg fun hh => ho (hh.2.2 s h)
    unfold okS at hstep hbad
    clear hI hi hn
    by_cases hz : l[s]! = z
    · rw [decide_eq_true hz] at k1
      (repeat' (first | refine zss ?_ | refine zsM ?_ | ((with_reducible first | apply AtM1.callp | apply AtQ.callp | apply At.callp); kernel_rfl; exact rfl; exact rfl; exact k1) | ((with_reducible apply At.alloc (d := 6)); exact rfl; exact rfl; intro b6) | (refine zsp ?_ ?_ <;> (intro hc; (try simp only [zhcs, reduceCtorEq] at hc); (try (exfalso; first | omega | contradiction | omega | exact absurd rfl hc | exact absurd (by decide) hc))))))
      all_goals ((with_reducible refine At.reachk ((s + 1)) ?_ ?_ ?_ ?_); exact zsubs; exact zml; exact zente; exact ⟨⟨h, hstep (.inl hz)⟩, by omega⟩)
    rw [decide_eq_false hz] at k1
    by_cases e1 : slotV l[s]!.w (l.length : Int) = (s : Int)
    rotate_left
    · rw [hbad (fun ho => ho.elim hz (fun ho => e1 ho.1))]
      generalize slotV l[s]!.w (l.length : Int) = q at k2 e1
      (repeat' (first | refine zss ?_ | refine zsM ?_ | ((with_reducible first | apply AtM1.callp | apply AtQ.callp | apply At.callp); kernel_rfl; exact rfl; exact rfl; exact k1) | ((with_reducible first | apply AtM1.callp | apply AtQ.callp | apply At.callp); kernel_rfl; exact rfl; exact rfl; exact k2) | ((with_reducible apply At.alloc (d := 6)); exact rfl; exact rfl; intro b6) | (refine zsp ?_ ?_ <;> (intro hc; (try simp only [zhcs, reduceCtorEq] at hc); (try (exfalso; first | (first | omega | exact absurd hc e1) | contradiction | omega | exact absurd rfl hc | exact absurd (by decide) hc))))))
      all_goals ((with_reducible apply At.retB1 (B := [])); exact rfl; exact rfl; exact zml; exact zkp; exact ⟨rfl, rfl, rfl⟩)
    by_cases e2 : fits l[s]!.c w l[s]!.w
    · rw [decide_eq_true e2] at k3
      have hst := hstep (.inr ⟨e1, e2⟩)
      rw [e1] at k2
      clear hstep hbad e1
      (repeat' (first | refine zss ?_ | refine zsM ?_ | ((with_reducible first | apply AtM1.callp | apply AtQ.callp | apply At.callp); kernel_rfl; exact rfl; exact rfl; exact k1) | ((with_reducible first | apply AtM1.callp | apply AtQ.callp | apply At.callp); kernel_rfl; exact rfl; exact rfl; exact k2) | ((with_reducible first | apply AtM1.callp | apply AtQ.callp | apply At.callp); kernel_rfl; exact rfl; exact rfl; exact k3) | ((with_reducible apply At.alloc (d := 6)); exact rfl; exact rfl; intro b6) | (refine zsp ?_ ?_ <;> (intro hc; (try simp only [zhcs, reduceCtorEq] at hc); (try (exfalso; first | (first | omega | exact absurd rfl hc) | contradiction | omega | exact absurd rfl hc | exact absurd (by decide) hc))))))
      all_goals ((with_reducible refine At.reachk ((s + 1)) ?_ ?_ ?_ ?_); exact zsubs; exact zml; exact zente; exact ⟨⟨h, hst⟩, by omega⟩)
    · rw [hbad (fun ho => ho.elim hz (fun ho => e2 ho.2))]
      rw [decide_eq_false e2] at k3
      rw [e1] at k2
      clear hstep hbad e1
      (repeat' (first | refine zss ?_ | refine zsM ?_ | ((with_reducible first | apply AtM1.callp | apply AtQ.callp | apply At.callp); kernel_rfl; exact rfl; exact rfl; exact k1) | ((with_reducible first | apply AtM1.callp | apply AtQ.callp | apply At.callp); kernel_rfl; exact rfl; exact rfl; exact k2) | ((with_reducible first | apply AtM1.callp | apply AtQ.callp | apply At.callp); kernel_rfl; exact rfl; exact rfl; exact k3) | ((with_reducible apply At.alloc (d := 6)); exact rfl; exact rfl; intro b6) | (refine zsp ?_ ?_ <;> (intro hc; (try simp only [zhcs, reduceCtorEq] at hc); (try (exfalso; first | (first | omega | exact absurd rfl hc) | contradiction | omega | exact absurd rfl hc | exact absurd (by decide) hc))))))
      all_goals ((with_reducible apply At.retB1 (B := [])); exact rfl; exact rfl; exact zml; exact zkp; exact ⟨rfl, rfl, rfl⟩)
  · rw [show chk l w = 0 from if_pos ⟨h1, h2, fun k hk => hn k (by omega)⟩]
    (repeat' (first | refine zss ?_ | refine zsM ?_ | ((with_reducible apply At.alloc (d := 6)); exact rfl; exact rfl; intro b6) | (refine zsp ?_ ?_ <;> (intro hc; (try simp only [zhcs, reduceCtorEq] at hc); (try (exfalso; first | omega | contradiction | omega | exact absurd rfl hc | exact absurd (by decide) hc))))))
    all_goals ((with_reducible apply At.retB1 (B := [])); exact rfl; exact rfl; exact zml; exact zkp; exact ⟨rfl, rfl, rfl⟩)
end Ti
end Go.Proofs.YtecifniognbomaaGreat
