/- Rows of cells: what one owns, opened; copy, append and clear in place; append of zeros; capacity; whether two slices overlap. -/
import Derived.Test.YtjncahmbllmllaaJG
import Derived.Laws.IdiomCopy
import Derived.Lib.Overlaps
set_option linter.unusedSimpArgs false
set_option linter.unusedVariables false
set_option linter.unusedSectionVars false
set_option maxRecDepth 20000
namespace Go.J
open Go
def Hld (cs : List Value) (o : Nat) (vs : List Value) : Prop := ∀ j, j < vs.length → cs[o + j]? = vs[j]?
def put (cs : List Value) (a : Nat) (vs : List Value) : List Value := cs.take a ++ vs ++ cs.drop (a + vs.length)
theorem put_len {cs vs : List Value} {a : Nat} (h : a + vs.length ≤ cs.length) : (put cs a vs).length = cs.length := by
  unfold put; simp only [List.length_append, List.length_take, List.length_drop]; omega
theorem put_get {cs vs : List Value} {a : Nat} (h : a + vs.length ≤ cs.length) (k : Nat) : (put cs a vs)[k]? = if a ≤ k ∧ k < a + vs.length then vs[k - a]? else cs[k]? := by
  unfold put
  have e1 : (cs.take a).length = a := by rw [List.length_take]; omega
  by_cases h1 : k < a
  · rw [if_neg (by omega), List.append_assoc, List.getElem?_append_left (by omega), List.getElem?_take, if_pos h1]
  · by_cases h2 : k < a + vs.length
    · rw [if_pos ⟨by omega, h2⟩, List.append_assoc, List.getElem?_append_right (by omega), e1, List.getElem?_append_left (by omega)]
    · rw [if_neg (by omega), List.getElem?_append_right (by rw [List.length_append, e1]; omega), List.length_append, e1, List.getElem?_drop]
      congr 1; omega
theorem Hld.put_in {cs vs : List Value} {a : Nat} (h : a + vs.length ≤ cs.length) : Hld (put cs a vs) a vs := fun j hj => by
  rw [put_get h, if_pos ⟨by omega, by omega⟩]; congr 1; omega
theorem Hld.put_out {cs vs us : List Value} {a o : Nat} (h : a + vs.length ≤ cs.length) (hh : Hld cs o us) (hd : o + us.length ≤ a ∨ a + vs.length ≤ o) : Hld (put cs a vs) o us := fun j hj => by
  rw [put_get h, if_neg (by omega)]; exact hh j hj
theorem Hld.app {cs us vs : List Value} {o : Nat} (h1 : Hld cs o us) (h2 : Hld cs (o + us.length) vs) : Hld cs o (us ++ vs) := fun j hj => by
  rw [List.length_append] at hj
  by_cases h : j < us.length
  · rw [List.getElem?_append_left h]; exact h1 j h
  · rw [List.getElem?_append_right (by omega), ← h2 (j - us.length) (by omega)]; congr 1; omega
theorem Hld.left {cs us vs : List Value} {o : Nat} (h : Hld cs o (us ++ vs)) : Hld cs o us := fun j hj => by
  rw [h j (by rw [List.length_append]; omega), List.getElem?_append_left hj]
theorem Hld.right {cs us vs : List Value} {o : Nat} (h : Hld cs o (us ++ vs)) : Hld cs (o + us.length) vs := fun j hj => by
  rw [Nat.add_assoc, h (us.length + j) (by rw [List.length_append]; omega), List.getElem?_append_right (by omega)]; congr 1; omega
section
variable {P : Program} {n : Nat} {w0 : World} {F : Fr} {m : Mem} {Rs Rs' R1 R2 : List Res} {Q : Exit → Act → World → Prop} {K : Act → World → Prop} {C : World → Prop} {α : Type} [Inhabited α] {f : α → List Value} {sz : Nat}
variable {E E2 : TypeId} {p : Option Addr} {c : Nat} {l : List α} {g g2 a o dl dc sl sc : Nat} {cs cs2 : List Value}
theorem At.own_row (hp : Pick Rs (.own f sz E p c l) Rs') (h0 : p = none → c = 0 → l = [] → At n w0 F m Rs K)
    (h1 : ∀ g o cs, p = some ⟨g, o, none⟩ → l.length ≤ c → c ≤ maxLen → o + c * sz ≤ cs.length → Hld cs o (l.flatMap f) → At n w0 F m (.blk g E cs :: Rs') K) (hf : Fl f sz) : At n w0 F m Rs K := fun a w ha hw => by
  obtain ⟨s, ⟨e1, e2, e3, _⟩ | ⟨g, o, cur, rfl, h2, h3, h4, h5, h6, h7⟩⟩ := hw.get hp
  · exact h0 e1 e2 e3 a w ha hw
  · refine h1 g o cur.toList rfl h3 h4 (by rw [Array.length_toList]; exact h5) (fun j hj => ?_) a w ha (hw.turn hp fun s' hs' => ?_)
    · rw [Array.getElem?_toList]; exact h6 j (by rw [flatMap_length hf.len] at hj; exact hj)
    · rcases hs' with ⟨e1, _⟩ | ⟨g', o', cur', e1, _, _, _, _, _, g7⟩
      · cases e1
      · injection e1 with e1; injection e1 with e1 _ _; subst e1
        refine ⟨fun k => k = g, ⟨?_, fun _ => Iff.rfl⟩, rfl, rfl, rfl, Nat.le_refl _, fun _ _ _ => rfl, fun k hk => .inl ((g7 k).2 hk)⟩
        rw [Array.toArray_toList]; exact h2
theorem own_close (hf : Fl f sz) (h1 : l.length ≤ c) (h2 : c ≤ maxLen) (h3 : o + c * sz ≤ cs.length) (h4 : Hld cs o (l.flatMap f)) : Ent (.blk g E cs :: Rs) (.own f sz E (some ⟨g, o, none⟩) c l :: Rs) := fun w s ⟨s1, s2, ⟨e1, e2⟩, g2, g3, g4⟩ =>
  ⟨s, ⟨s1, s2, .inr ⟨g, o, cs.toArray, rfl, e1, h1, h2, by rw [List.size_toArray]; exact h3, fun j hj => by rw [List.getElem?_toArray]; exact h4 j (by rw [flatMap_length hf.len]; exact hj), e2⟩, g2, g3, g4⟩, fun _ x => x⟩
theorem At.own_end (hf : Fl f sz) (h1 : l.length ≤ c) (h2 : c ≤ maxLen) (h3 : o + c * sz ≤ cs.length) (h4 : Hld cs o (l.flatMap f)) (hp : Pick Rs (.blk g E cs) Rs') (h : At n w0 F m (.own f sz E (some ⟨g, o, none⟩) c l :: Rs') K) : At n w0 F m Rs K :=
  At.ent ((Ent.of_pick hp).trans (own_close hf h1 h2 h3 h4)) h
theorem blk_cells (hp : Pick Rs (.blk g E cs) Rs') {vs : List Value} (hh : Hld cs a vs) (w : World) (hw : HW w0 m Rs w) (j : Nat) (hj : j < vs.length) : w.cell? ⟨g, a + j, none⟩ = vs[j]? := by
  rw [World.cell_of (hw.blk hp), List.getElem?_toArray]; exact hh j hj
theorem rdb_cellsV {q : Option Addr} {l2 : List α} {c2 g2 a2 : Nat} (h : Rdb C f sz q c2 l2) (hq : q = some ⟨g2, a2, none⟩) {vs : List Value} (hv : vs = l2.flatMap f) (w : World) (hw : C w) (j : Nat) (hj : j < vs.length) : w.cell? ⟨g2, a2 + j, none⟩ = vs[j]? := by
  subst hv
  exact rdb_cells h hw g2 a2 hq j (by rw [flatMap_length h.fl.len] at hj; exact hj)
/-- cells are written in place -/
theorem HW.putB {w : World} (hw : HW w0 m Rs w) (hp : Pick Rs (.blk g E cs) Rs') {vs : List Value} (hfit : a + vs.length ≤ cs.length) (h1 : ∀ v ∈ vs, v.oneCell' = true) :
    ∃ w', (storeCells ⟨g, a, none⟩ vs 0).run P w = .ok () w' ∧ HW w0 m (.blk g E (put cs a vs) :: Rs') w' := by
  have hb := hw.blk hp
  have hst := run_storeCells_at P g a E vs 0 cs.toArray w hb (by simpa using hfit) h1
  simp only [Nat.add_zero] at hst
  refine ⟨_, hst, hw.turn hp fun s hs => ⟨s, ⟨setRow_heap w g cs.toArray _ E _ hb, hs.2⟩, rfl, rfl, rfl, by simp, fun k _ hk => setRow_other w g k _ (fun e => hk ((hs.2 k).2 e)), fun k hk => .inl hk⟩⟩
theorem At.copyB {ops : Array Oper} {rest : List Oper} {d : Nat} {x y : Operand} {t tx ty : TypeId} {pos : String} {aft : Array Edge} {a2 k : Nat} (vs : List Value)
    (hx : ev F x = some (.slice (some ⟨g, a, none⟩) dl dc)) (hy : ev F y = some (.slice (some ⟨g2, a2, none⟩) sl sc)) (ht : P.underlying t = some (.slice E2)) (hs : sizeB P E2 = some sz)
    (hk : Nat.min sl dl = k) (hv : k * sz = vs.length) (hr : ∀ w, HW w0 m Rs w → ∀ j, j < vs.length → w.cell? ⟨g2, a2 + j, none⟩ = vs[j]?) (h1 : ∀ v ∈ vs, v.oneCell' = true)
    (hp : Pick Rs (.blk g E cs) Rs') (hfit : a + vs.length ≤ cs.length) (hd : Nat.blt d n = true)
    (h : At n w0 ((d, .int .i64 (k : Int)) :: F) m (.blk g E (put cs a vs) :: Rs') (wpList P ops Q rest)) :
    At n w0 F m Rs (wpList P ops Q (⟨some d, .call ⟨.builtin .copy, #[x, y], #[t, tx]⟩, ty, pos, aft, none⟩ :: rest)) := fun ac w ha hw =>
  wpList_plain rfl fun K hK => by
    obtain ⟨w', hst, hw'⟩ := hw.putB (P := P) hp hfit h1
    have hl := run_loadCells (P := P) w g2 a2 vs (hr w hw)
    have hrun : (execOp ac.eval ⟨some d, .call ⟨.builtin .copy, #[x, y], #[t, tx]⟩, ty, pos, aft, none⟩).run P w = .ok (.value (.int .i64 (k : Int))) w' := by
      rw [BigFrame.execOp_builtin]
      have hu : ∀ w, (underlying t).run P w = .ok (.slice E2) w := fun w => by simp only [underlying, program, bind, Sem.bind, Sem.run, ht]; rfl
      have h0 : (Builtin.copy_ #[t, tx] ty #[.slice (some ⟨g, a, none⟩) dl dc, .slice (some ⟨g2, a2, none⟩) sl sc]).run P w = .ok (goInt k) w' := by
        unfold Builtin.copy_
        simp only [Sem.run_bind, hu, Result.andThen, Builtin.lenOf, Builtin.firstCells, List.getElem?_toArray, List.getElem?_cons_zero, List.getElem?_cons_succ, Sem.run_pure, run_sizeOf hs, hk, hv, hl, hst]
      simp [BigFrame.builtin_copy, ha.ev hx, ha.ev hy, h0, goInt]
    unfold Oper.wp
    rw [hrun]
    exact hK _ _ (h _ _ (ha.put hd) hw')
/-- append where there is room, at cells -/
theorem At.appendB {ops : Array Oper} {rest : List Oper} {d : Nat} {x y : Operand} {t tx ty : TypeId} {pos : String} {aft : Array Edge} {i k : Nat} {q : Option Addr} (vs : List Value)
    (hx : ev F x = some (.slice (some ⟨g, o, none⟩) i c)) (hy : ev F y = some (.slice q k sc)) (ht : P.underlying t = some (.slice E2)) (htx : P.underlying tx = some (.slice E2)) (hs : sizeB P E2 = some sz)
    (hv : k * sz = vs.length) (hr : 0 < k → ∃ g2 a2, q = some ⟨g2, a2, none⟩ ∧ ∀ w, HW w0 m Rs w → ∀ j, j < vs.length → w.cell? ⟨g2, a2 + j, none⟩ = vs[j]?) (h1 : ∀ v ∈ vs, v.oneCell' = true) (hroom : i + k ≤ c)
    (hp : Pick Rs (.blk g E cs) Rs') (hfit : o + i * sz + vs.length ≤ cs.length) (hd : Nat.blt d n = true)
    (h : At n w0 ((d, .slice (some ⟨g, o, none⟩) (i + k) c) :: F) m (.blk g E (put cs (o + i * sz) vs) :: Rs') (wpList P ops Q rest)) :
    At n w0 F m Rs (wpList P ops Q (⟨some d, .call ⟨.builtin .append, #[x, y], #[t, tx]⟩, ty, pos, aft, none⟩ :: rest)) := fun ac w ha hw =>
  wpList_plain rfl fun K hK => by
    obtain ⟨w', hst, hw'⟩ := hw.putB (P := P) hp hfit h1
    have hu : ∀ w, (underlying t).run P w = .ok (.slice E2) w := fun w => by simp only [underlying, program, bind, Sem.bind, Sem.run, ht]; rfl
    have hux : ∀ w, (underlying tx).run P w = .ok (.slice E2) w := fun w => by simp only [underlying, program, bind, Sem.bind, Sem.run, htx]; rfl
    have hc : (Builtin.firstCells sz k (.slice q k sc)).run P w = .ok vs.toArray w := by
      rcases Nat.eq_zero_or_pos k with hk | hk
      · have hvs : vs = [] := List.eq_nil_of_length_eq_zero (by rw [← hv, hk, Nat.zero_mul])
        subst hvs hk
        cases q with
        | none => rfl
        | some b =>
          show (loadCells b (0 * sz)).run P w = _
          rw [Nat.zero_mul]
          exact run_loadCells_list w b [] (fun j v h => by cases h)
      · obtain ⟨g2, a2, rfl, hr2⟩ := hr hk
        show (loadCells ⟨g2, a2, none⟩ (k * sz)).run P w = _
        rw [hv]
        exact run_loadCells w g2 a2 vs (hr2 w hw)
    have hrun : (execOp ac.eval ⟨some d, .call ⟨.builtin .append, #[x, y], #[t, tx]⟩, ty, pos, aft, none⟩).run P w = .ok (.value (.slice (some ⟨g, o, none⟩) (i + k) c)) w' := by
      rw [BigFrame.execOp_builtin]
      have h0 : (Builtin.append_ #[t, tx] ty #[.slice (some ⟨g, o, none⟩) i c, .slice q k sc]).run P w = .ok (.slice (some ⟨g, o, none⟩) (i + k) c) w' := by
        simp [Builtin.append_, hu, hux, run_sizeOf hs, Builtin.lenOf, hroom, hc, Addr.add_eq, hst]
      simp [BigFrame.builtin_append, ha.ev hx, ha.ev hy, h0]
    unfold Oper.wp
    rw [hrun]
    exact hK _ _ (h _ _ (ha.put hd) hw')
/-- clear, at cells -/
theorem At.clearB {ops : Array Oper} {rest : List Oper} {d : Option Nat} {x : Operand} {t ty : TypeId} {pos : String} {aft : Array Edge} {k : Nat}
    (hx : ev F x = some (.slice (some ⟨g, a, none⟩) k c)) (ht : P.underlying t = some (.slice E2)) (he : elemB P E2 sz = true) (hz1 : zeroOneB P E2 = true)
    (hp : Pick Rs (.blk g E cs) Rs') (hfit : a + k * sz ≤ cs.length) (hd : d = none)
    (h : ∀ vs, vs.length = k * sz → At n w0 F m (.blk g E (put cs a vs) :: Rs') (wpList P ops Q rest)) :
    At n w0 F m Rs (wpList P ops Q (⟨d, .call ⟨.builtin .clear, #[x], #[t]⟩, ty, pos, aft, none⟩ :: rest)) := fun ac w ha hw =>
  wpList_plain rfl fun K hK => by
    subst hd
    obtain ⟨i, z, hi, hz, hsz, hbt, hzs⟩ := elemB_spec he
    have hone : z.cells.toList.all oneCell = true := by
      unfold zeroOneB at hz1; rw [hi] at hz1; simp only [hz] at hz1; exact hz1
    have hlen : (Builtin.zeroCells z.cells k).toList.length = k * sz := by rw [Array.length_toList, size_zeroCells, hzs]
    obtain ⟨w', hst, hw'⟩ := hw.putB (P := P) (vs := (Builtin.zeroCells z.cells k).toList) hp (by rw [hlen]; exact hfit) (zeroCells_one hone _)
    have hzv : ∀ w, (zeroValue E2).run P w = .ok z w := fun w => by simp [zeroValue, typeInfo, hi, hz]
    have hu : ∀ w, (underlying t).run P w = .ok (.slice E2) w := fun w => by simp only [underlying, program, bind, Sem.bind, Sem.run, ht]; rfl
    have hrun : (execOp ac.eval ⟨none, .call ⟨.builtin .clear, #[x], #[t]⟩, ty, pos, aft, none⟩).run P w = .ok (.value (.tuple #[])) w' := by
      rw [BigFrame.execOp_builtin]
      have h0 : (Builtin.clear_ #[t] ty #[.slice (some ⟨g, a, none⟩) k c]).run P w = .ok (.tuple #[]) w' := by
        cases k with
        | zero =>
          have : (Builtin.zeroCells z.cells 0).toList = [] := List.eq_nil_of_length_eq_zero (by rw [hlen, Nat.zero_mul])
          rw [this] at hst
          simp only [storeCells, pure, Sem.run] at hst
          cases hst
          simp [Builtin.clear_, hu]
        | succ k => simp [Builtin.clear_, hu, hzv, hst]
      simp [BigFrame.builtin_clear, ha.ev hx, h0]
    unfold Oper.wp
    rw [hrun]
    exact hK _ _ (h _ hlen _ _ ha hw')
/-- append of so many zeros, where there is no room -/
theorem At.appendZ {ops : Array Oper} {rest : List Oper} {d : Nat} {x y : Operand} {t tn ty : TypeId} {pos : String} {aft : Array Edge} {i k : Nat} {kn : IntKind} (z : α)
    (hx : ev F x = some (.slice p i c)) (hy : ev F y = some (.int .i64 (k : Int))) (h1 : Rdb (HW w0 m Rs) f sz p c l) (hi : i = l.length) (ht : P.underlying t = some (.slice E)) (htn : P.underlying tn = some (.int kn)) (he : elemB P E sz = true) (hz : zeroL P E = some (f z))
    (hgrow : c < l.length + k) (h0 : 0 < k) (hsm : l.length + k ≤ 34359738368) (hd : Nat.blt d n = true)
    (h : ∀ p' c', At n w0 ((d, .slice p' (l ++ List.replicate k z).length c') :: F) m (.own f sz E p' c' (l ++ List.replicate k z) :: Rs) (wpList P ops Q rest)) :
    At n w0 F m Rs (wpList P ops Q (⟨some d, .call ⟨.builtin .append, #[x, y], #[t, tn]⟩, ty, pos, aft, none⟩ :: rest)) := fun ac w ha hw =>
  wpList_plain rfl fun K hK => by
    subst hi
    have hf := h1.fl
    obtain ⟨i, zv, hi, hzv, hsz, hbt, hzs⟩ := elemB_spec he
    obtain ⟨i', z', hi', hz', hzc⟩ := zeroL_spec hz
    rw [hi] at hi'; cases hi'
    rw [hzv] at hz'; cases hz'
    have hby : (l.length + k) * i.bytes ≤ 140737488355328 := Nat.le_trans (Nat.mul_le_mul hsm hbt) (by omega)
    have h63 : l.length + k ≤ maxLen := by simp only [maxLen]; omega
    have s1 := rdb_src (P := P) h1 hw ht
    have hl1 := flatMap_length hf.len l
    have hold : (Builtin.firstCells i.size l.length (.slice p l.length c)).run P w.drew = .ok (l.flatMap f).toArray w.drew := by rw [hsz]; exact s1.cellsD
    have hge := grownCap_ge w (l.length + k) c E
    have hcm : grownCap w (l.length + k) c E ≤ maxLen := grownCap_le_maxLen w (l.length + k) c E h63
    have hlz : (f z).length = sz := hf.len z
    have hcp : Builtin.zeroCells zv.cells k = (copies k (f z)).toArray := by
      have := copies_arr zv.cells (f z) hzc k
      rw [hlz] at this
      unfold Builtin.zeroCells
      rw [← this, hzs]
    have hfm : (l ++ List.replicate k z).flatMap f = l.flatMap f ++ copies k (f z) := by rw [List.flatMap_append, flatMap_replicate]
    have hr : (Builtin.append_ #[t, tn] ty #[.slice p l.length c, .int .i64 (k : Int)]).run P w = .ok (.slice (some ⟨w.heap.size, 0, none⟩) (l.length + k) (grownCap w (l.length + k) c E))
        (w.drew.alloc (.cells ((l.flatMap f ++ copies k (f z)).toArray ++ Builtin.zeroCells zv.cells (grownCap w (l.length + k) c E - (l.length + k))) E)) := by
      have hwk : IntKind.i64.wrap (k : Int) = k := by rw [IntKind.wrap_i64]; omega
      have hneg : ¬ ((k : Int) < 0) := by omega
      have hkb : k * i.bytes ≤ 281474976710656 := Nat.le_trans (Nat.mul_le_mul (show k ≤ 34359738368 by omega) hbt) (by omega)
      have h48 : ¬ (281474976710656 < (k : Int) * (i.bytes : Int)) := by rw [← Int.natCast_mul]; omega
      have hn : ¬ (l.length + k ≤ c) := by omega
      have h63' : ¬ (9223372036854775807 < (l.length : Int) + (k : Int)) := by omega
      have hb63 : ¬ (281474976710656 < Builtin.nextslicecap (l.length + k) c * i.bytes) := by have := growslice_fits hgrow hby; omega
      have hk0 : ¬ k = 0 := by omega
      have hs0 : ¬ (k * i.size = 0) := Nat.mul_ne_zero hk0 (by have := hf.pos; omega)
      rw [show (l.flatMap f ++ copies k (f z)).toArray = (l.flatMap f).toArray ++ (copies k (f z)).toArray by simp, ← hcp]
      simp [Builtin.append_, run_underlying ht, run_underlying htn, sizeOf, typeInfo, zeroValue, hi, hzv, asInt, asIntOf, hwk, hneg, h48, hn, h63', hb63, hk0, hs0, Question.forced, hold, newRow, grownCap]
    unfold Oper.wp
    have hrun : ∀ v w', (Builtin.append_ #[t, tn] ty #[.slice p l.length c, .int .i64 (k : Int)]).run P w = .ok v w' → (execOp ac.eval ⟨some d, .call ⟨.builtin .append, #[x, y], #[t, tn]⟩, ty, pos, aft, none⟩).run P w = .ok (.value v) w' := fun v w' hr => by
      rw [BigFrame.execOp_builtin]
      simp [BigFrame.builtin_append, ha.ev hx, ha.ev hy, hr]
    rw [hrun _ _ hr]
    have hll : (l ++ List.replicate k z).length = l.length + k := by simp
    rw [← hll] at hge hcm ⊢
    refine hK _ _ (h _ _ _ _ (ha.put hd) (hw.add rfl rfl rfl (by simp) (fun j hj => heap_alloc_old w.drew _ hj) ⟨fun j => j = w.heap.size, .inr ⟨w.heap.size, 0, _, rfl, heap_alloc_new w.drew _, hge, hcm, ?_, fun j hj => ?_, fun _ => Iff.rfl⟩, fun j hj => by omega⟩))
    · rw [← hfm]
      simp only [Array.size_append, List.size_toArray, size_zeroCells, hzs, flatMap_length hf.len, ← Nat.add_mul]
      rw [Nat.add_sub_cancel' hge, Nat.zero_add]
      exact Nat.le_refl _
    · rw [Nat.zero_add, ← hfm, Array.getElem?_append_left (by simp only [List.size_toArray, flatMap_length hf.len]; exact hj)]
      simp
theorem pr_cap_sl {x : Operand} {t e : TypeId} {ln : Nat} (ht : P.underlying t = some (.slice e)) (hx : ev F x = some (.slice p ln c)) : PR P n F C (.call ⟨.builtin .cap, #[x], #[t]⟩) (.int .i64 (c : Int)) := fun _ _ _ _ _ a w ha _ => by
  simp [execOp, resolve, invoke, builtin, ha.ev hx, Builtin.cap_, underlying, program, ht, Sem.run, goInt]
/-- a part whose end is told with its room -/
theorem run_slice4 {t e : TypeId} (ht : P.underlying t = some (.slice e)) (hs : sizeB P e = some sz) (p : Option Addr) (l c lo hi mx : Nat) (h1 : lo ≤ hi) (h2 : hi ≤ mx) (h3 : mx ≤ c) (k k' k2 : IntKind) (w : World) :
    (Instr.sliceAt t (.slice p l c) (some (.int k (lo : Int))) (some (.int k' (hi : Int))) (some (.int k2 (mx : Int)))).run P w = .ok (.slice (subp p mx lo sz) (hi - lo) (mx - lo)) w := by
  have hr : ∀ w, (underlying t).run P w = .ok (.slice e) w := fun w => by simp only [underlying, program, bind, Sem.bind, Sem.run, ht]; rfl
  unfold Instr.sliceAt
  simp only [Sem.run_bind, hr, Result.andThen]
  unfold Instr.slice
  simp only [Sem.run_bind, hr, Result.andThen]
  have hb : (Instr.sliceBounds true l c (some (.int k (lo : Int))) (some (.int k' (hi : Int))) (some (.int k2 (mx : Int)))).run P w = .ok (lo, hi, mx) w := by
    unfold Instr.sliceBounds Instr.sliceBound
    simp [asIntOf, pure, Sem.run, bind, Sem.bind, h1, h2, h3]
  rw [hb]
  simp only [run_sizeOf hs, pure, Sem.run, subp]
theorem pr_slice4 {x y z u : Operand} {t e : TypeId} {ln lo hi mx : Nat} {k k' k2 : IntKind} (hx : ev F x = some (.slice p ln c)) (hy : ev F y = some (.int k (lo : Int))) (hz : ev F z = some (.int k' (hi : Int))) (hu : ev F u = some (.int k2 (mx : Int))) (ht : P.underlying t = some (.slice e)) (hs : sizeB P e = some sz) (h1 : lo ≤ hi) (h2 : hi ≤ mx) (h3 : mx ≤ c) :
    PR P n F C (.slice t x (some y) (some z) (some u)) (.slice (subp p mx lo sz) (hi - lo) (mx - lo)) := fun _ _ _ _ _ a w ha hC => by
  simp only [execOp, ha.ev hx, Sem.run_bind, Option.map_some, ha.ev hy, ha.ev hz, ha.ev hu]
  rw [run_slice4 ht hs p ln c lo hi mx h1 h2 h3]
  rfl
/-- parts of a row that is there -/
theorem pr_slice_bl {x y : Operand} {t e : TypeId} {ln lo : Nat} {k : IntKind} (hx : ev F x = some (.slice (some ⟨g, o, none⟩) ln c)) (hy : ev F y = some (.int k (lo : Int))) (ht : P.underlying t = some (.slice e)) (hs : sizeB P e = some sz) (h1 : lo ≤ ln) (h2 : ln ≤ c) (hlt : lo < c) :
    PR P n F C (.slice t x (some y) none none) (.slice (some ⟨g, o + lo * sz, none⟩) (ln - lo) (c - lo)) := by
  have := pr_slice_l (P := P) (n := n) (C := C) hx hy ht hs h1 h2
  rwa [show subp (some ⟨g, o, none⟩) c lo sz = some ⟨g, o + lo * sz, none⟩ by unfold subp; rw [if_neg (by omega)]; simp [Addr.add_eq]] at this
theorem pr_slice_bh {x y : Operand} {t e : TypeId} {ln hi : Nat} {k : IntKind} (hx : ev F x = some (.slice p ln c)) (hy : ev F y = some (.int k (hi : Int))) (ht : P.underlying t = some (.slice e)) (hs : sizeB P e = some sz) (h2 : hi ≤ c) :
    PR P n F C (.slice t x none (some y) none) (.slice p hi c) := by
  have := pr_slice_h (P := P) (n := n) (C := C) hx hy ht hs h2
  rwa [subp0, Nat.sub_zero, Nat.sub_zero] at this
theorem pr_slice_blh {x y z : Operand} {t e : TypeId} {ln lo hi : Nat} {k k' : IntKind} (hx : ev F x = some (.slice (some ⟨g, o, none⟩) ln c)) (hy : ev F y = some (.int k (lo : Int))) (hz : ev F z = some (.int k' (hi : Int))) (ht : P.underlying t = some (.slice e)) (hs : sizeB P e = some sz) (h1 : lo ≤ hi) (h2 : hi ≤ c) (hlt : lo < c) :
    PR P n F C (.slice t x (some y) (some z) none) (.slice (some ⟨g, o + lo * sz, none⟩) (hi - lo) (c - lo)) := by
  have := pr_slice_lh (P := P) (n := n) (C := C) hx hy hz ht hs h1 h2
  rwa [show subp (some ⟨g, o, none⟩) c lo sz = some ⟨g, o + lo * sz, none⟩ by unfold subp; rw [if_neg (by omega)]; simp [Addr.add_eq]] at this
theorem subp_lt {lo : Nat} (h : lo < c) : subp (some ⟨g, o, none⟩) c lo sz = some ⟨g, o + lo * sz, none⟩ := by unfold subp; rw [if_neg (by omega)]; simp [Addr.add_eq]
/-- a row that is there, read as a slice -/
theorem blk_rdbF (hp : Pick Rs (.blk g E cs) Rs') (hf : Fl f sz) (hh : Hld cs o (l.flatMap f)) (hc : l.length ≤ c) : Rdb (HW w0 m Rs) f sz (some ⟨g, o, none⟩) c l :=
  ⟨hf, fun _ _ _ => ⟨_, _, rfl⟩, fun _ _ => hc, fun w hw i j hi hj => by
    show w.cell? ⟨g, o + (i * sz + j), none⟩ = _
    have hb : (i + 1) * sz ≤ l.length * sz := Nat.mul_le_mul_right _ hi
    rw [Nat.add_mul] at hb
    rw [World.cell_of (hw.blk hp), List.getElem?_toArray, hh _ (by rw [flatMap_length hf.len]; omega), flatMap_get hf.len l i j hi hj]⟩
theorem Hld.split {i : Nat} (hf : Fl f sz) (hh : Hld cs o (l.flatMap f)) (hi : i ≤ l.length) : Hld cs o ((l.take i).flatMap f) ∧ Hld cs (o + i * sz) ((l.drop i).flatMap f) := by
  have e : l.flatMap f = (l.take i).flatMap f ++ (l.drop i).flatMap f := by rw [← List.flatMap_append, List.take_append_drop]
  rw [e] at hh
  refine ⟨hh.left, ?_⟩
  have := hh.right
  rwa [flatMap_length hf.len, List.length_take, Nat.min_eq_left hi] at this
/-- .. whose cells are known at once -/
theorem At.appendZB {ops : Array Oper} {rest : List Oper} {d : Nat} {x y : Operand} {t tn ty : TypeId} {pos : String} {aft : Array Edge} {i k : Nat} {kn : IntKind} (z : α)
    (hx : ev F x = some (.slice p i c)) (hy : ev F y = some (.int .i64 (k : Int))) (h1 : Rdb (HW w0 m Rs) f sz p c l) (hi : i = l.length) (ht : P.underlying t = some (.slice E)) (htn : P.underlying tn = some (.int kn)) (he : elemB P E sz = true) (hz : zeroL P E = some (f z))
    (hgrow : c < l.length + k) (h0 : 0 < k) (hsm : l.length + k ≤ 34359738368) (hd : Nat.blt d n = true)
    (h : ∀ g o c' cs, l.length + k ≤ c' → c' ≤ maxLen → o + c' * sz ≤ cs.length → Hld cs o ((l ++ List.replicate k z).flatMap f) → At n w0 ((d, .slice (some ⟨g, o, none⟩) (l.length + k) c') :: F) m (.blk g E cs :: Rs) (wpList P ops Q rest)) :
    At n w0 F m Rs (wpList P ops Q (⟨some d, .call ⟨.builtin .append, #[x, y], #[t, tn]⟩, ty, pos, aft, none⟩ :: rest)) := by
  refine At.appendZ z hx hy h1 hi ht htn he hz hgrow h0 hsm hd fun p' c' => ?_
  have hll : (l ++ List.replicate k z).length = l.length + k := by simp
  refine At.own_row pk0 (fun _ _ e => absurd (congrArg List.length e) (by rw [hll]; simp; omega)) (fun g o cs e h2 h3 h4 h5 => ?_) h1.fl
  subst e
  rw [hll] at h2 ⊢
  exact h g o c' cs h2 h3 h4 h5
theorem Pick.skip {X Y : Res} {A B T : List Res} (hp : Pick A X B) (hp2 : Pick B Y T) : ∃ T', Pick A Y T' := by
  induction hp generalizing T with
  | here => exact ⟨_, .there hp2⟩
  | @there X' R A B _ ih =>
    cases hp2 with
    | here => exact ⟨_, .here⟩
    | there h => obtain ⟨T', hT⟩ := ih h; exact ⟨_, .there hT⟩
theorem At.blk_ne (hp : Pick Rs (.blk g E cs) R1) (hp2 : Pick R1 (.blk g2 E2 cs2) R2) (h : g ≠ g2 → At n w0 F m Rs K) : At n w0 F m Rs K := fun a w ha hw => by
  refine h (fun e => ?_) a w ha hw
  obtain ⟨s, ⟨s1, s2, h1, h2, hd, he⟩, _⟩ := (hw.ent (Ent.of_pick hp)).res
  obtain ⟨s3, s4, h3, _, _, he2⟩ := (Sat.pick hp2).1 h2
  exact hd g ⟨(h1.2 g).2 rfl, (he2 g).2 (.inl ((h3.2 g).2 e))⟩
theorem pr_overlaps {id : FuncId} {fn : Func} {x y : Operand} {t r : TypeId} {ts : Array TypeId} {b : Nat} (hf : P.funcs[id]? = some fn) (hname : (fn.name == "runtime.NumGoroutine") = false) (hb : fn.body.isNone = true) (hn : Extern.findNext fn = none) (he : Extern.find fn = some (Extern.SlicesOverlaps.overlaps #[t, t] #[r]))
    (hx : ev F x = some (.slice (some ⟨g, a, none⟩) sl sc)) (hy : ev F y = some (.slice (some ⟨g2, b, none⟩) dl dc)) (ht : P.underlying t = some (.slice E)) (hs : sizeB P E = some sz) (hp : Pick Rs (.blk g E cs) R1) (hp2 : Pick R1 (.blk g2 E2 cs2) R2) (hne : g ≠ g2) (h0 : 0 < cs2.length) :
    PR P n F (HW w0 m Rs) (.call ⟨.value (.func id), #[x, y], ts⟩) (.bool false) := fun _ _ _ _ _ ac w ha hw => by
  rw [execOp_call_go]
  have h1 := hw.blk hp
  obtain ⟨R3, hp3⟩ := hp.skip hp2
  have h2 := hw.blk hp3
  have : (#[] ++ (#[x, y] : Array Operand).map ac.eval ++ #[] : Array Value) = #[.slice (some ⟨g, a, none⟩) sl sc, .slice (some ⟨g2, b, none⟩) dl dc] := by simp [ha.ev hx, ha.ev hy]
  rw [this, run_callFunc_extern hf hname hb hn he]
  have hfz : ∀ o', w.frozen? ⟨g, o', none⟩ = false := fun o' => by simp [World.frozen?, h1]
  rw [Lib.run_overlaps_apart w t r E ht sz (fun w => run_sizeOf hs w) ⟨g, a, none⟩ ⟨g2, b, none⟩ sl sc dl dc hne E E2 cs.length cs2.length (by simp [World.shape?, h1]) (by simp [World.shape?, h2]) (by omega) (hfz _) (hfz _)]
  rfl
end
end Go.J
