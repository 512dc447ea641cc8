/- A resource that says only that there is one: for a value's inner form. -/
import Derived.Test.YtjncahmbllmllaaJ8
import Derived.Laws.Strings
import Derived.WideShapes
set_option linter.unusedSimpArgs false
set_option linter.unusedVariables false
set_option linter.unusedSectionVars false
set_option maxRecDepth 20000
namespace Go.J
open Go

/-- the first is part of the second, in whatever order -/
inductive Low : List Res → List Res → Prop
  | base {R : List Res} : Low R R
  | cons {X : Res} {A R R1 : List Res} : Pick R X R1 → Low A R1 → Low (X :: A) R
  | skip {X : Res} {A R : List Res} : Low A R → Low A (X :: R)
theorem Low.ent {A R : List Res} (h : Low A R) : Ent R A := by
  induction h with
  | base => exact Ent.refl _
  | cons hp _ ih => exact (Ent.of_pick hp).trans (Ent.cons _ ih)
  | skip _ ih => exact (Ent.drop _ _).trans ih

def Res.ex {σ : Type} (I : σ → Prop) (A : σ → List Res) : Res where
  p w s := ∃ x, I x ∧ Sat (A x) w s
  loc := fun ⟨x, h1, h2⟩ he => ⟨x, h1, Sat.loc h2 he⟩
  dom := fun ⟨_, _, h2⟩ hk => Sat.dom h2 hk

theorem Ent.openx {σ : Type} {I : σ → Prop} {A : σ → List Res} {Rs : List Res} {w : World} {s : Nat → Prop} (h : Sat (.ex I A :: Rs) w s) : ∃ x, I x ∧ Sat (A x ++ Rs) w s := by
  obtain ⟨s1, s2, ⟨x, hI, h1⟩, h2, hd, he⟩ := h
  exact ⟨x, hI, Sat_append.2 ⟨s1, s2, h1, h2, hd, he⟩⟩
theorem Ent.closex {σ : Type} {I : σ → Prop} {A : σ → List Res} {Rs : List Res} (x : σ) (hI : I x) : Ent (A x ++ Rs) (.ex I A :: Rs) := fun w s h => by
  obtain ⟨s1, s2, h1, h2, hd, he⟩ := Sat_append.1 h
  exact ⟨s, ⟨s1, s2, ⟨x, hI, h1⟩, h2, hd, he⟩, fun _ x => x⟩

section
variable {P : Program} {n : Nat} {w0 : World} {F : Fr} {m : Mem} {Rs : List Res} {K : Act → World → Prop} {σ : Type} {I : σ → Prop} {A : σ → List Res}

theorem HW.openx {w : World} (h : HW w0 m (.ex I A :: Rs) w) : ∃ x, I x ∧ HW w0 m (A x ++ Rs) w := by
  obtain ⟨s, hs, hm⟩ := h.res
  obtain ⟨x, hI, hs'⟩ := Ent.openx hs
  exact ⟨x, hI, h.os, h.tape, h.output, h.size, h.mem, s, hs', hm⟩
theorem At.openx {Rs0 : List Res} (hp : Pick Rs0 (.ex I A) Rs) (h : ∀ x, I x → At n w0 F m (A x ++ Rs) K) : At n w0 F m Rs0 K := fun a w ha hw => by
  obtain ⟨x, hI, hw'⟩ := (hw.ent (Ent.of_pick hp)).openx
  exact h x hI a w ha hw'
theorem Ct.openx {f : FuncId} {args : Array Value} {A0 : List Res} {R : Value → Mem → List Res → Prop} (h : ∀ x, I x → Ct P f args m (A x ++ A0) R) : Ct P f args m (.ex I A :: A0) R := fun w0 Rest w hw => by
  obtain ⟨x, hI, hw'⟩ := HW.openx (Rs := A0 ++ Rest) hw
  exact h x hI w0 Rest w (by rw [List.append_assoc]; exact hw')
theorem Ct.conv {f : FuncId} {args : Array Value} {A0 : List Res} {R R' : Value → Mem → List Res → Prop} (h : Ct P f args m A0 R) (hr : ∀ v m' B, m.le m' → R v m' B → ∃ B', R' v m' B' ∧ ∀ Rest, Ent (B ++ Rest) (B' ++ Rest)) : Ct P f args m A0 R' :=
  fun w0 Rest w hw => (h w0 Rest w hw).mono fun _ _ ⟨v, m', B, he, hm, hR, hw'⟩ => let ⟨B', h1, h2⟩ := hr v m' B hm hR; ⟨v, m', B', he, hm, h1, hw'.ent (h2 Rest)⟩
theorem Rd.openx {f : FuncId} {args : Array Value} {A0 : List Res} {V : Value} (h : ∀ x, I x → Rd P f args m (A x ++ A0) V) : Rd P f args m (.ex I A :: A0) V :=
  Ct.openx fun x hI => Ct.conv (h x hI) fun v m' B _ ⟨h1, h2, h3⟩ => ⟨_, ⟨h1, h2, rfl⟩, fun Rest => by subst h3; rw [List.append_assoc]; exact Ent.closex x hI⟩
theorem Rd.frame {f : FuncId} {args : Array Value} {A0 A1 Y : List Res} {V : Value} (h : Rd P f args m A0 V) (ht : Take A0 A1 Y) : Rd P f args m A1 V := fun w0 Rest w hw => by
  have e : Eqv (A1 ++ Rest) (A0 ++ (Y ++ Rest)) := (Eqv.append ht.eqv (Eqv.refl Rest)).trans (by rw [List.append_assoc]; exact Eqv.refl _)
  exact (h w0 (Y ++ Rest) w (hw.ent e.ent)).mono fun _ _ ⟨v, m', B, he, hm, ⟨h1, h2, h3⟩, hw'⟩ => ⟨v, m', A1, he, hm, ⟨h1, h2, rfl⟩, by subst h3; exact hw'.ent e.symm.ent⟩

theorem At.callt1 {Q : Exit → Act → World → Prop} {F : Fr} {ops : Array Oper} {rest : List Oper} {d : Nat} {g : FuncId} {xs : List Operand} {ts : Array TypeId} {ty : TypeId} {pos : String} {aft : Array Edge} {vs : List Value} {A Rest : List Res} {R : Value → Mem → List Res → Prop}
    (hg : goFn P g = true) (hx : evs F xs = some vs) (hd : Nat.blt d n = true) (hc : Ct P g vs.toArray m A R) (hA : Take A Rs Rest)
    (h : ∀ v m' B, m.le m' → R v m' B → At n w0 ((d, v) :: F) m' (B ++ Rest) (wpList P ops Q rest)) :
    At n w0 F m Rs (wpList P ops Q (⟨some d, .call ⟨.value (.func g), xs.toArray, ts⟩, ty, pos, aft, none⟩ :: rest)) := At.call (d := some d) hg hx (by simpa using hd) hc hA.eqv.ent h
theorem At.callt0 {Q : Exit → Act → World → Prop} {F : Fr} {ops : Array Oper} {rest : List Oper} {g : FuncId} {xs : List Operand} {ts : Array TypeId} {ty : TypeId} {pos : String} {aft : Array Edge} {vs : List Value} {A Rest : List Res} {R : Value → Mem → List Res → Prop}
    (hg : goFn P g = true) (hx : evs F xs = some vs) (hc : Ct P g vs.toArray m A R) (hA : Take A Rs Rest)
    (h : ∀ v m' B, m.le m' → R v m' B → At n w0 F m' (B ++ Rest) (wpList P ops Q rest)) :
    At n w0 F m Rs (wpList P ops Q (⟨none, .call ⟨.value (.func g), xs.toArray, ts⟩, ty, pos, aft, none⟩ :: rest)) := At.call (d := none) hg hx rfl hc hA.eqv.ent h

/-! whole numbers that are not told as natural ones -/
section
variable {α : Type} [Inhabited α] {f : α → List Value} {sz : Nat} {E : TypeId} {p : Option Addr} {c : Nat} {l : List α} {Rs' : List Res} {F : Fr} {C : World → Prop}
/-- so long, at most, and of elements of so many cells -/
def LeSz (C : World → Prop) (_sz c ln : Nat) : Prop := ∀ w, C w → ln ≤ c
theorem own_le (hp : Pick Rs (.own f sz E p c l) Rs') : LeSz (HW w0 m Rs) sz c l.length := fun w hw => by
  obtain ⟨_, ⟨_, _, rfl, _⟩ | ⟨g, o, cur, rfl, _, h3, _⟩⟩ := hw.get hp
  · exact Nat.zero_le _
  · exact h3
theorem mem_le (h : Sl m f sz p c l) : LeSz (HW w0 m Rs) sz c l.length := fun _ _ => h.le
theorem pr_slice_gl {x y : Operand} {t E : TypeId} {ln lo sz : Nat} {k : IntKind} (hx : ev F x = some (.slice p ln c)) (hy : ev F y = some (.int k (lo : Int))) (hle : LeSz C sz c ln) (ht : P.underlying t = some (.slice E)) (hs : sizeB P E = some sz) (h1 : lo ≤ ln) :
    PR P n F C (.slice t x (some y) none none) (.slice (subp p c lo sz) (ln - lo) (c - lo)) := fun d ty pos aft g a w ha hC => pr_slice_l hx hy ht hs h1 (hle w hC) d ty pos aft g a w ha hC
theorem pr_slice_gh {x z : Operand} {t E : TypeId} {ln hi sz : Nat} {k : IntKind} (hx : ev F x = some (.slice p ln c)) (hz : ev F z = some (.int k (hi : Int))) (hle : LeSz C sz c ln) (ht : P.underlying t = some (.slice E)) (hs : sizeB P E = some sz) (h2 : hi ≤ ln) :
    PR P n F C (.slice t x none (some z) none) (.slice (subp p c 0 sz) (hi - 0) (c - 0)) := fun d ty pos aft g a w ha hC => pr_slice_h hx hz ht hs (Nat.le_trans h2 (hle w hC)) d ty pos aft g a w ha hC
theorem pr_slice_glh {x y z : Operand} {t E : TypeId} {ln lo hi sz : Nat} {k k' : IntKind} (hx : ev F x = some (.slice p ln c)) (hy : ev F y = some (.int k (lo : Int))) (hz : ev F z = some (.int k' (hi : Int))) (hle : LeSz C sz c ln) (ht : P.underlying t = some (.slice E)) (hs : sizeB P E = some sz) (h1 : lo ≤ hi) (h2 : hi ≤ ln) :
    PR P n F C (.slice t x (some y) (some z) none) (.slice (subp p c lo sz) (hi - lo) (c - lo)) := fun d ty pos aft g a w ha hC => pr_slice_lh hx hy hz ht hs h1 (Nat.le_trans h2 (hle w hC)) d ty pos aft g a w ha hC
theorem pr_slice_gli {x y : Operand} {t E : TypeId} {ln sz : Nat} {q : Int} {k : IntKind} (hx : ev F x = some (.slice p ln c)) (hy : ev F y = some (.int k q)) (hle : LeSz C sz c ln) (ht : P.underlying t = some (.slice E)) (hs : sizeB P E = some sz) (h0 : 0 ≤ q) (h1 : q ≤ ln) :
    PR P n F C (.slice t x (some y) none none) (.slice (subp p c q.toNat sz) (ln - q.toNat) (c - q.toNat)) := pr_slice_gl hx (lo := q.toNat) (by rw [hy, Int.toNat_of_nonneg h0]) hle ht hs (by omega)
theorem pr_slice_ghi {x z : Operand} {t E : TypeId} {ln sz : Nat} {q : Int} {k : IntKind} (hx : ev F x = some (.slice p ln c)) (hz : ev F z = some (.int k q)) (hle : LeSz C sz c ln) (ht : P.underlying t = some (.slice E)) (hs : sizeB P E = some sz) (h0 : 0 ≤ q) (h2 : q ≤ ln) :
    PR P n F C (.slice t x none (some z) none) (.slice (subp p c 0 sz) (q.toNat - 0) (c - 0)) := pr_slice_gh hx (hi := q.toNat) (by rw [hz, Int.toNat_of_nonneg h0]) hle ht hs (by omega)
theorem pr_slice_glhi {x y z : Operand} {t E : TypeId} {ln sz : Nat} {q r : Int} {k k' : IntKind} (hx : ev F x = some (.slice p ln c)) (hy : ev F y = some (.int k q)) (hz : ev F z = some (.int k' r)) (hle : LeSz C sz c ln) (ht : P.underlying t = some (.slice E)) (hs : sizeB P E = some sz) (h0 : 0 ≤ q) (h1 : q ≤ r) (h2 : r ≤ ln) :
    PR P n F C (.slice t x (some y) (some z) none) (.slice (subp p c q.toNat sz) (r.toNat - q.toNat) (c - q.toNat)) := pr_slice_glh hx (lo := q.toNat) (hi := r.toNat) (by rw [hy, Int.toNat_of_nonneg h0]) (by rw [hz, Int.toNat_of_nonneg (by omega)]) hle ht hs (by omega) (by omega)
theorem pr_minI {x y : Operand} {k : IntKind} {p q : Int} {ts : Array TypeId} (hx : ev F x = some (.int k p)) (hy : ev F y = some (.int k q)) : PR P n F C (.call ⟨.builtin .min, #[x, y], ts⟩) (.int k (min p q)) := by
  rw [show min p q = (if q < p then q else p) by split <;> omega]; exact pr_min hx hy
theorem pr_maxI {x y : Operand} {k : IntKind} {p q : Int} {ts : Array TypeId} (hx : ev F x = some (.int k p)) (hy : ev F y = some (.int k q)) : PR P n F C (.call ⟨.builtin .max, #[x, y], ts⟩) (.int k (max p q)) := by
  rw [show max p q = (if p < q then q else p) by split <;> omega]; exact pr_max hx hy
theorem pr_index_owni {x y : Operand} {t : TypeId} {ln : Nat} {q : Int} {ki : IntKind} (hx : ev F x = some (.slice p ln c)) (hy : ev F y = some (.int ki q)) (hp : Pick Rs (.own f sz E p c l) Rs') (hf : Fl f sz)
    (ht : P.underlying t = some (.slice E)) (hs : sizeB P E = some sz) (hl : ln = l.length) (h0 : 0 ≤ q) (hk : q < l.length) : PR P n F (HW w0 m Rs) (.indexAddr t x y) (.pointer (some (at_ p (q.toNat * sz)))) :=
  pr_index_own hx (k := q.toNat) (by rw [hy, Int.toNat_of_nonneg h0]) hp hf ht hs hl (by omega)
theorem pr_index_memi {x y : Operand} {t E : TypeId} {ln : Nat} {q : Int} {ki : IntKind} (hx : ev F x = some (.slice p ln c)) (hy : ev F y = some (.int ki q)) (h : Sl m f sz p c l)
    (ht : P.underlying t = some (.slice E)) (hs : sizeB P E = some sz) (hl : ln = l.length) (h0 : 0 ≤ q) (hk : q < l.length) : PR P n F (HW w0 m Rs) (.indexAddr t x y) (.pointer (some (at_ p (q.toNat * sz)))) :=
  pr_index_mem hx (k := q.toNat) (by rw [hy, Int.toNat_of_nonneg h0]) h ht hs hl (by omega)
theorem pr_slice_li {x y : Operand} {t E : TypeId} {ln sz : Nat} {q : Int} {k : IntKind} (hx : ev F x = some (.slice p ln c)) (hy : ev F y = some (.int k q)) (ht : P.underlying t = some (.slice E)) (hs : sizeB P E = some sz) (h0 : 0 ≤ q) (h1 : q ≤ ln) (h2 : ln ≤ c) :
    PR P n F C (.slice t x (some y) none none) (.slice (subp p c q.toNat sz) (ln - q.toNat) (c - q.toNat)) := pr_slice_l hx (lo := q.toNat) (by rw [hy, Int.toNat_of_nonneg h0]) ht hs (by omega) h2
theorem pr_slice_hi {x z : Operand} {t E : TypeId} {ln sz : Nat} {q : Int} {k : IntKind} (hx : ev F x = some (.slice p ln c)) (hz : ev F z = some (.int k q)) (ht : P.underlying t = some (.slice E)) (hs : sizeB P E = some sz) (h0 : 0 ≤ q) (h2 : q ≤ c) :
    PR P n F C (.slice t x none (some z) none) (.slice (subp p c 0 sz) (q.toNat - 0) (c - 0)) := pr_slice_h hx (hi := q.toNat) (by rw [hz, Int.toNat_of_nonneg h0]) ht hs (by omega)
theorem pr_slice_lhi {x y z : Operand} {t E : TypeId} {ln sz : Nat} {q r : Int} {k k' : IntKind} (hx : ev F x = some (.slice p ln c)) (hy : ev F y = some (.int k q)) (hz : ev F z = some (.int k' r)) (ht : P.underlying t = some (.slice E)) (hs : sizeB P E = some sz) (h0 : 0 ≤ q) (h1 : q ≤ r) (h2 : r ≤ c) :
    PR P n F C (.slice t x (some y) (some z) none) (.slice (subp p c q.toNat sz) (r.toNat - q.toNat) (c - q.toNat)) := pr_slice_lh hx (lo := q.toNat) (hi := r.toNat) (by rw [hy, Int.toNat_of_nonneg h0]) (by rw [hz, Int.toNat_of_nonneg (by omega)]) ht hs (by omega) (by omega)
end

/-! texts -/
theorem str_eq (a b : ByteArray) : (a.toList == b.toList) = decide (a = b) := by
  rw [ByteArray.toList_eq, ByteArray.toList_eq]
  by_cases h : a = b
  · subst h; simp
  · have : ¬ a.data.toList = b.data.toList := fun e => h (by cases a; cases b; simp at e; subst e; rfl)
    rw [decide_eq_false h]
    exact beq_eq_false_iff_ne.2 this
theorem pr_seql {F : Fr} {C : World → Prop} {x y : Operand} {p q : ByteArray} {t u : TypeId} (hx : ev F x = some (.string p)) (hy : ev F y = some (.string q)) : PR P n F C (.binOp .eql t x y u) (.bool (decide (p = q))) := fun _ _ _ _ _ a w ha hC => by
  have hb : binOp .eql t (.string p) (.string q) = pure (.bool (p.toList == q.toList)) := rfl
  have hg : ∀ w, (eqGuard .eql t x y (.string p) (.string q)).run P w = .ok () w := fun _ => rfl
  simp only [execOp, ha.ev hx, ha.ev hy, hb, str_eq]
  simp [hg]
theorem pr_sneq {F : Fr} {C : World → Prop} {x y : Operand} {p q : ByteArray} {t u : TypeId} (hx : ev F x = some (.string p)) (hy : ev F y = some (.string q)) : PR P n F C (.binOp .neq t x y u) (.bool (!decide (p = q))) := fun _ _ _ _ _ a w ha hC => by
  have hb : binOp .neq t (.string p) (.string q) = pure (.bool !(p.toList == q.toList)) := rfl
  have hg : ∀ w, (eqGuard .neq t x y (.string p) (.string q)).run P w = .ok () w := fun _ => rfl
  simp only [execOp, ha.ev hx, ha.ev hy, hb, str_eq]
  simp [hg]
end
end Go.J
