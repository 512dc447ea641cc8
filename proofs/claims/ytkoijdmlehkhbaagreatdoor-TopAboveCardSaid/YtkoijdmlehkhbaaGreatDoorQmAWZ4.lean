/- Part 4 of what the law's proof needs: rules of the walk, contracts of functions, plain laws. No condition. -/
import Derived.Test.YtkoijdmlehkhbaaGreatDoorQmAWZ3
import Derived.Laws.Externs
import Derived.Lib.SliceRun
import Derived.Test.YtkoijdmlehkhbaaGreatDoorRows
import Derived.Laws.MathBits
set_option linter.unusedSimpArgs false
set_option linter.unusedVariables false
set_option linter.unusedSectionVars false
set_option maxRecDepth 20000
namespace Go.J
open Go
section
variable {P : Program} {n : Nat} {w0 : World} {F : Fr} {m : Mem} {Rs : List Res} {Q : Exit → Act → World → Prop} {K : Act → World → Prop} {C : World → Prop}
/-! ### arrays -/
theorem run_indexArr {t e : TypeId} {sz len : Nat} (ht : P.underlying t = some (.array len e)) (hs : sizeB P e = some sz) (b o k : Nat) (ki : IntKind) (hk : k < len) (w : World) :
    (Instr.indexAt t (.pointer (some ⟨b, o, none⟩)) (.int ki (k : Int))).run P w = .ok (.pointer (some ⟨b, o + k * sz, none⟩)) w := by
  have hr : ∀ w, (underlying t).run P w = .ok (.array len e) w := run_underlying ht
  have h1 : (0 : Int) ≤ (k : Int) ∧ (k : Int) < (len : Int) := ⟨by omega, by omega⟩
  unfold Instr.indexAt
  simp only [asIntOf, pure, Sem.run_bind, Sem.run, Result.andThen, hr, Instr.sureAddr, h1, and_self, if_true, run_sizeOf hs, Int.toNat_natCast, Addr.add_eq]
theorem pr_indexArr {x y : Operand} {t e : TypeId} {len b o k sz : Nat} {ki : IntKind} (hx : ev F x = some (.pointer (some ⟨b, o, none⟩))) (hy : ev F y = some (.int ki (k : Int))) (ht : P.underlying t = some (.array len e)) (hs : sizeB P e = some sz) (hk : k < len) :
    PR P n F C (.indexAddr t x y) (.pointer (some ⟨b, o + k * sz, none⟩)) := fun _ _ _ _ _ a w ha _ => by
  simp only [execOp, ha.ev hx, ha.ev hy, Sem.run_bind, run_indexArr ht hs b o k ki hk]
  rfl
/-- the elements are of one cell, the array is the whole block -/
theorem pr_indexArr1 {x y : Operand} {t e : TypeId} {len b k : Nat} {ki : IntKind} (hx : ev F x = some (.pointer (some ⟨b, 0, none⟩))) (hy : ev F y = some (.int ki (k : Int))) (ht : P.underlying t = some (.array len e)) (hs : sizeB P e = some 1) (hk : k < len) :
    PR P n F C (.indexAddr t x y) (.pointer (some ⟨b, k, none⟩)) := by
  have := pr_indexArr (n := n) (C := C) hx hy ht hs hk
  rwa [Nat.zero_add, Nat.mul_one] at this
theorem pr_indexArr1i {x y : Operand} {t e : TypeId} {len b : Nat} {q : Int} {ki : IntKind} (hx : ev F x = some (.pointer (some ⟨b, 0, none⟩))) (hy : ev F y = some (.int ki q)) (ht : P.underlying t = some (.array len e)) (hs : sizeB P e = some 1) (h0 : 0 ≤ q) (hk : q < len) :
    PR P n F C (.indexAddr t x y) (.pointer (some ⟨b, q.toNat, none⟩)) := pr_indexArr1 hx (k := q.toNat) (by rw [hy, Int.toNat_of_nonneg h0]) ht hs (by omega)
theorem pr_load_arr {α : Type} [Inhabited α] {g : α → Value} {l : List α} {x : Operand} {t : TypeId} {b k : Nat} {E : TypeId} {Rs' : List Res} (hx : ev F x = some (.pointer (some ⟨b, k, none⟩))) (hp : Pick Rs (.blk b E (l.map g)) Rs') (ht : isAggB P t = some false) (hk : k < l.length) :
    PR P n F (HW w0 m Rs) (.load t x) (g l[k]!) := pr_load1 ht hx fun w hw => by
  rw [World.cell_of (hw.blk hp)]
  simp [hk]
theorem pr_loadA {x : Operand} {t : TypeId} {b k : Nat} {L : List Value} {E : TypeId} {Rs' : List Res} (hx : ev F x = some (.pointer (some ⟨b, 0, none⟩))) (hp : Pick Rs (.blk b E L) Rs') (ht : isAggB P t = some true) (hs : sizeB P t = some k) (hk : L.length = k) :
    PR P n F (HW w0 m Rs) (.load t x) (.agg L.toArray) := pr_loadN ht hx (by rw [hk]; exact hs) fun w hw j _ => by
  rw [World.cell_of (hw.blk hp)]
  simp
theorem rv_cellA {x b k : Nat} {t E : TypeId} {L : List Value} {Rs' : List Res} (hx : look x F = some (.pointer (some ⟨b, 0, none⟩))) (hp : Pick Rs (.blk b E L) Rs') (ht : isAggB P t = some true) (hs : sizeB P t = some k) (hk : L.length = k) : RV P n F (HW w0 m Rs) (.cell x t) (.agg L.toArray) := fun a w ha hC => by
  show ((do loadVar t (← asAddr (a.tmps.getD x undef))) : Sem Value).run P w = _
  rw [ha.val x _ hx]
  have e0 : (asAddr (.pointer (some ⟨b, 0, none⟩)) : Sem Addr).run P w = .ok ⟨b, 0, none⟩ w := rfl
  simp only [Sem.run_bind, e0, Result.andThen]
  exact run_loadVarN ht (by rw [hk]; exact hs) (fun j _ => by
    rw [World.cell_of (hC.blk hp)]
    simp)
/-! ### the model's own functions -/
theorem pr_extern {f : FuncId} {fn : Func} {e : Array Value → Sem Value} {xs : List Operand} {ts : Array TypeId} {vs : List Value} {v : Value} (hf : P.funcs[f]? = some fn) (hname : (fn.name == "runtime.NumGoroutine") = false) (hb : fn.body.isNone = true) (hn : Extern.findNext fn = none) (he : Extern.find fn = some e)
    (hx : evs F xs = some vs) (hv : ∀ w, (e vs.toArray).run P w = .ok v w) : PR P n F C (.call ⟨.value (.func f), xs.toArray, ts⟩) v := fun _ _ _ _ _ a w ha _ => by
  rw [execOp_call_go]
  have : (#[] ++ xs.toArray.map a.eval ++ #[] : Array Value) = vs.toArray := by simp [evs_map ha xs vs hx]
  rw [this, run_callFunc_extern hf hname hb hn he, hv w]
  rfl
/-! ### two structs are compared -/
def eqG (P : Program) (eqT : TypeId → List Value → List Value → Option (List Bool)) (xs ys : List Value) : List Field → Option (List Bool)
  | [] => some []
  | f :: fs => match f.name == "_" with
    | true => none
    | false => match P.info? f.type with
      | some i => match subl xs f.offset i.size with
        | some a => match subl ys f.offset i.size with
          | some b => match eqT f.type a b with
            | some r => match eqG P eqT xs ys fs with
              | some q => some (r ++ q)
              | none => none
            | none => none
          | none => none
        | none => none
      | none => none
def eqS (P : Program) : Nat → TypeId → List Value → List Value → Option (List Bool)
  | 0, _, _, _ => none
  | d + 1, t, xs, ys => match P.underlying t with
    | some (.struct fs) => eqG P (eqS P d) xs ys fs.toList
    | some .bool => match xs, ys with
      | [.bool a], [.bool b] => some [a == b]
      | _, _ => none
    | some .string => match xs, ys with
      | [.string a], [.string b] => some [decide (a = b)]
      | _, _ => none
    | some (.int _) => match xs, ys with
      | [.int k a], [.int k' b] => match decide (k = k') with
        | true => some [decide (a = b)]
        | false => none
      | _, _ => none
    | _ => none
def eqM (P : Program) (t : TypeId) (xs ys : List Value) : Option (List Bool) := match eqS P 6 t xs ys with
  | some l => flat l
  | none => none
/-- no struct of it is laid out by another's hand -/
def freeF (rec : TypeId → Bool) : List Field → Bool
  | [] => true
  | f :: fs => rec f.type && freeF rec fs
def freeB (P : Program) : Nat → TypeId → Bool
  | 0, _ => false
  | d + 1, t => match P.underlying t with
    | some (.struct fs) => !P.stoodInHeld t && freeF (freeB P d) fs.toList
    | _ => true
theorem eqS_run : ∀ (d e : Nat) (t : TypeId) (xs ys : List Value) (r : List Bool) (w : World), freeB P d t = true → eqS P d t xs ys = some r →
    (isAggB P t = some true ∧ (Op.equalIn (d + e) t (.agg xs.toArray) (.agg ys.toArray)).run P w = .ok (andL r) w) ∨
    (isAggB P t = some false ∧ ∃ x y, xs = [x] ∧ ys = [y] ∧ (Op.equalIn (d + e) t x y).run P w = .ok (andL r) w)
  | 0, _, _, _, _, _, _, h, _ => by cases h
  | d + 1, e, t, xs, ys, r, w, hfree, h => by
    have ih := eqS_run d e
    rw [show d + 1 + e = (d + e) + 1 by omega]
    unfold eqS at h
    unfold freeB at hfree
    cases hu : P.underlying t with
    | none => rw [hu] at h; cases h
    | some u =>
      rw [hu] at h hfree
      cases u <;> simp only at h hfree <;> try (cases h; done)
      case bool =>
        split at h
        · rename_i a b
          cases h
          refine .inr ⟨by simp [isAggB, hu], _, _, rfl, rfl, ?_⟩
          simp [Op.equalIn, run_underlying hu, andL]
        · cases h
      case string =>
        split at h
        · rename_i a b
          cases h
          refine .inr ⟨by simp [isAggB, hu], _, _, rfl, rfl, ?_⟩
          have : (a == b) = decide (a = b) := by rw [beq_toListBytes, str_eq]
          simp [Op.equalIn, run_underlying hu, andL, this]
        · cases h
      case int kk =>
        split at h
        · rename_i k a k' b
          by_cases hk : k = k'
          · subst hk
            simp only [decide_true] at h
            cases h
            refine .inr ⟨by simp [isAggB, hu], _, _, rfl, rfl, ?_⟩
            have : (a == b) = decide (a = b) := rfl
            simp [Op.equalIn, run_underlying hu, andL, this]
          · simp only [decide_eq_false hk] at h
            cases h
        · cases h
      case struct fs =>
        rw [Bool.and_eq_true] at hfree
        obtain ⟨hp0, hfr⟩ := hfree
        cases hp : P.stoodInHeld t with
        | true => rw [hp] at hp0; cases hp0
        | false =>
          refine .inl ⟨by simp [isAggB, hu], ?_⟩
          have hfo : P.fieldsOf t = fs := by simp [Program.fieldsOf, hu]
          rw [run_equalIn_struct w (d + e) t _ _ (by rw [hfo]; exact hu) hp, hfo]
          generalize fs.toList = l at h hfr
          clear hfo hu
          induction l generalizing r with
          | nil => cases h; rfl
          | cons f l ihl =>
            unfold eqG at h
            unfold freeF at hfr
            rw [Bool.and_eq_true] at hfr
            cases hn : f.name == "_" with
            | true => rw [hn] at h; cases h
            | false =>
              rw [hn] at h
              simp only at h
              have hn' : f.name ≠ "_" := by simpa using hn
              cases hi : P.info? f.type with
              | none => rw [hi] at h; cases h
              | some i =>
                rw [hi] at h
                simp only at h
                cases h1 : subl xs f.offset i.size with
                | none => rw [h1] at h; cases h
                | some a =>
                  cases h2 : subl ys f.offset i.size with
                  | none => rw [h1, h2] at h; cases h
                  | some b =>
                    rw [h1, h2] at h
                    simp only at h
                    cases h3 : eqS P d f.type a b with
                    | none => rw [h3] at h; cases h
                    | some q =>
                      rw [h3] at h
                      simp only at h
                      cases h4 : eqG P (eqS P d) xs ys l with
                      | none => rw [h4] at h; cases h
                      | some q2 =>
                        rw [h4] at h
                        cases h
                        have hr := ihl q2 h4 hfr.2
                        unfold Op.eqFields
                        rw [if_pos hn', andL_append]
                        rcases ih f.type a b q w hfr.1 h3 with ⟨hb, hq⟩ | ⟨hb, x, y, rfl, rfl, hq⟩
                        · have p1 := run_part hb hi h1 undef (fun e => by cases e) w
                          have p2 := run_part hb hi h2 undef (fun e => by cases e) w
                          simp only [if_true] at p1 p2
                          simp only [Sem.run_bind, p1, p2, hq, Result.andThen]
                          cases andL q with
                          | true => simpa using hr
                          | false => simp
                        · have p1 := run_part hb hi h1 x (fun _ => rfl) w
                          have p2 := run_part hb hi h2 y (fun _ => rfl) w
                          simp only [Bool.false_eq_true, if_false] at p1 p2
                          simp only [Sem.run_bind, p1, p2, hq, Result.andThen]
                          cases andL q with
                          | true => simpa using hr
                          | false => simp
theorem run_agg_equal2 {t : TypeId} {xs ys : List Value} {bs : List Bool} (hb : isAggB P t = some true) (hn : freeB P 6 t = true) (h : eqM P t xs ys = some bs) (w : World) : (Op.equal t (.agg xs.toArray) (.agg ys.toArray)).run P w = .ok (andL bs) w := by
  unfold eqM at h
  cases h1 : eqS P 6 t xs ys with
  | none => rw [h1] at h; cases h
  | some l =>
    rw [h1] at h
    have := flat_eq _ _ h
    subst this
    unfold Op.equal
    rcases eqS_run 6 9994 t xs ys bs w hn h1 with ⟨_, h2⟩ | ⟨h2, _⟩
    · exact h2
    · rw [hb] at h2; cases h2
theorem pr_aggeq2 {x y : Operand} {t u : TypeId} {xs ys : List Value} {bs : List Bool} (hx : ev F x = some (.agg xs.toArray)) (hy : ev F y = some (.agg ys.toArray)) (hb : isAggB P t = some true) (hg : P.eqGuardType P.depth t = false) (hn : freeB P 6 t = true) (h : eqM P t xs ys = some bs) : PR P n F C (.binOp .eql t x y u) (.bool (andL bs)) :=
  pr_eql_of hx hy (run_agg_guard hg .eql (.inl rfl)) rfl (fun w _ => run_agg_equal2 hb hn h w)
theorem pr_aggne2 {x y : Operand} {t u : TypeId} {xs ys : List Value} {bs : List Bool} (hx : ev F x = some (.agg xs.toArray)) (hy : ev F y = some (.agg ys.toArray)) (hb : isAggB P t = some true) (hg : P.eqGuardType P.depth t = false) (hn : freeB P 6 t = true) (h : eqM P t xs ys = some bs) : PR P n F C (.binOp .neq t x y u) (.bool (!andL bs)) :=
  pr_neq_of hx hy (run_agg_guard hg .neq (.inr rfl)) rfl (fun w _ => run_agg_equal2 hb hn h w)
end
end Go.J
namespace Go.J
open Go
section
variable {P : Program} {n : Nat} {w0 : World} {F : Fr} {m : Mem} {Rs : List Res} {Q : Exit → Act → World → Prop} {α : Type} [Inhabited α] {f : α → List Value} {sz : Nat}
theorem addr_add0 (a : Addr) : a.add 0 = a := by cases a; simp [Addr.add]
theorem subp0 (p : Option Addr) (c sz : Nat) : subp p c 0 sz = p := by
  unfold subp
  split
  · rfl
  · rw [Nat.zero_mul]; cases p <;> simp [addr_add0]
end
end Go.J
namespace Go.J
open Go
section
variable {P : Program} {m : Mem} {Rs : List Res} {α : Type} [Inhabited α] {f : α → List Value} {sz : Nat}
theorem HW.freeze {w0 w : World} {E : TypeId} {p : Option Addr} {c : Nat} {l : List α} (hf : Fl f sz) (hw : HW w0 m (.own f sz E p c l :: Rs) w) : ∃ m', m.le m' ∧ Sl m' f sz p c l ∧ HW w0 m' Rs w := by
  have k := At.own_freeze (n := 0) (w0 := w0) (F := []) (m := m) (Rs := .own f sz E p c l :: Rs) (K := fun _ w => ∃ m', m.le m' ∧ Sl m' f sz p c l ∧ HW w0 m' Rs w) hf pk0
    (fun m' hm' sl => by
      unfold At
      intro a w1 _ hw1
      exact ⟨m', hm', sl, hw1⟩)
  unfold At at k
  exact k ⟨#[], []⟩ w ⟨rfl, rfl, fun _ _ h => by cases h⟩ hw
theorem Ct.freezeG {g : FuncId} {args : Array Value} {E : TypeId} {p : Option Addr} {c : Nat} {l : List α} {R : Value → Mem → List Res → Prop} (hf : Fl f sz) (h : ∀ m', m.le m' → Sl m' f sz p c l → Ct P g args m' Rs R) :
    Ct P g args m (.own f sz E p c l :: Rs) R := by
  unfold Ct at h ⊢
  intro w0 Rest w hw
  obtain ⟨m', hm', sl, hw'⟩ := HW.freeze hf hw
  exact (h m' hm' sl w0 Rest w hw').mono fun _ _ ⟨v, m2, B, h1, h2, h3, h4⟩ => ⟨v, m2, B, h1, Mem.le_trans hm' h2, h3, h4⟩
theorem Ct.slice {g : FuncId} {args : Array Value} {A B0 : List Res} {E : TypeId} {l : List α} {R : Value → Option Addr → Nat → Prop} (hf : Fl f sz) (h : Ct P g args m A (fun v m' B => ∃ p c, R v p c ∧ B = .own f sz E p c l :: B0)) :
    Ct P g args m A (fun v m' B => B = B0 ∧ ∃ p c, R v p c ∧ Sl m' f sz p c l) := by
  unfold Ct at h ⊢
  intro w0 Rest w hw
  refine (h w0 Rest w hw).mono fun _ _ ⟨v, m2, B, h1, h2, ⟨p, c, h3, hB⟩, h4⟩ => ?_
  subst hB
  obtain ⟨m3, hm3, sl, hw3⟩ := HW.freeze hf h4
  exact ⟨v, m3, B0, h1, Mem.le_trans h2 hm3, ⟨rfl, p, c, h3, sl⟩, hw3⟩
/-- a slice's literal, that stays -/
theorem At.litF {n : Nat} {w0 : World} {F : Fr} {Q : Exit → Act → World → Prop} {ops : Array Oper} {rest : List Oper} {d : Nat} {t E : TypeId} {len : Nat} {xs : List (Nat × Operand)} {ps : List (Nat × Value)} {ty : TypeId} {pos : String} {aft : Array Edge}
    (f : α → List Value) (l : List α) (hf : Fl f sz) (ht : P.underlying t = some (.slice E)) (he : elemB P E sz = true) (hx : evps F xs = some ps) (hsm : Nat.ble (len * sz) 16777216 = true) (hl : l.length = len)
    (hb : litL P E sz len ps = flat (l.flatMap f)) (hd : Nat.blt d n = true)
    (h : ∀ b m', m.le m' → Sl m' f sz (some ⟨b, 0, none⟩) len l → At n w0 ((d, .slice (some ⟨b, 0, none⟩) len len) :: F) m' Rs (wpList P ops Q rest)) :
    At n w0 F m Rs (wpList P ops Q (⟨some d, .buildSlice t len xs.toArray, ty, pos, aft, none⟩ :: rest)) :=
  At.lit f l hf ht he hx hsm hl hb hd (fun b => At.own_freeze hf pk0 fun m' hm' sl => h b m' hm' sl)
end
end Go.J
namespace Go.J
open Go
section
variable {P : Program} {n : Nat} {F : Fr} {C : World → Prop}
theorem run_equal_slnil {t e : TypeId} {p : Option Addr} {l c l2 c2 : Nat} (ht : P.underlying t = some (.slice e)) (w : World) : (Op.equal t (.slice p l c) (.slice none l2 c2)).run P w = .ok p.isNone w := by
  simp [Op.equal, Op.maxDepth, Lib.run_equalIn_slice_nil w 9999 t e p l c l2 c2 ht]
theorem pr_sleql {x y : Operand} {p : Option Addr} {l c l2 c2 : Nat} {t u e : TypeId} (ht : P.underlying t = some (.slice e)) (hx : ev F x = some (.slice p l c)) (hy : ev F y = some (.slice none l2 c2)) : PR P n F C (.binOp .eql t x y u) (.bool p.isNone) :=
  pr_eql_of hx hy (fun _ => rfl) (by cases p <;> rfl) (fun w _ => run_equal_slnil ht w)
def zeroOneB (P : Program) (e : TypeId) : Bool := match P.info? e with
  | some i => match i.zero with
    | some z => z.cells.toList.all oneCell
    | none => false
  | none => false
end
section
variable {P : Program} {n : Nat} {w0 : World} {F : Fr} {m : Mem} {Rs : List Res} {Q : Exit → Act → World → Prop} {α : Type} [Inhabited α] {f : α → List Value} {sz : Nat} {E : TypeId} {p : Option Addr} {c : Nat} {l : List α} {Rs' : List Res}
theorem pr_slice_own {x z : Operand} {t : TypeId} {ln hi : Nat} {k : IntKind} (hx : ev F x = some (.slice p ln c)) (hz : ev F z = some (.int k (hi : Int))) (hp : Pick Rs (.own f sz E p c l) Rs') (hl : l.length = hi) (ht : P.underlying t = some (.slice E)) (hs : sizeB P E = some sz) :
    PR P n F (HW w0 m Rs) (.slice t x none (some z) none) (.slice (subp p c 0 sz) (hi - 0) (c - 0)) := by
  subst hl
  exact fun d ty pos aft g a w ha hC => pr_slice_h hx hz ht hs (own_le hp w hC) d ty pos aft g a w ha hC
theorem zeroCells_one {z : Array Value} (h : z.toList.all oneCell = true) (k : Nat) : ∀ v ∈ (Builtin.zeroCells z k).toList, v.oneCell' = true := fun v hv => by
  simp only [Builtin.zeroCells, Array.toList_map, Array.toList_range, List.mem_map, List.mem_range] at hv
  obtain ⟨i, hi, rfl⟩ := hv
  have hz : 0 < z.size := by
    rcases Nat.eq_zero_or_pos z.size with e | e
    · rw [e] at hi; simp at hi
    · exact e
  have hm := Nat.mod_lt i hz
  have := List.all_eq_true.1 h z[i % z.size]! (by
    rw [getElem!_pos z _ hm]
    exact Array.getElem_mem_toList hm)
  generalize z[i % z.size]! = u at this
  cases u <;> first | rfl | (simp [oneCell] at this)
/-- the end of what one owns is cleared: the rest stays -/
theorem At.clearW {ops : Array Oper} {rest : List Oper} {d : Option Nat} {x : Operand} {t : TypeId} {ty : TypeId} {pos : String} {aft : Array Edge} {ln c2 : Nat} {q : Option Addr}
    (lo : Nat) (hx : ev F x = some (.slice q ln c2)) (hp : Pick Rs (.own f sz E p c l) Rs') (hq : q = subp p c lo sz) (hf : Fl f sz) (ht : P.underlying t = some (.slice E)) (he : elemB P E sz = true) (hz1 : zeroOneB P E = true) (hlo : lo ≤ l.length) (hln : ln = l.length - lo) (hd : d = none)
    (h : At n w0 F m (.own f sz E p c (l.take lo) :: Rs') (wpList P ops Q rest)) :
    At n w0 F m Rs (wpList P ops Q (⟨d, .call ⟨.builtin .clear, #[x], #[t]⟩, ty, pos, aft, none⟩ :: rest)) := fun a w ha hw =>
  wpList_plain rfl fun K hK => by
    subst hln hd hq
    obtain ⟨i, z, hi, hz, hsz, hbt, hzs⟩ := elemB_spec he
    have hone : z.cells.toList.all oneCell = true := by
      unfold zeroOneB at hz1; rw [hi] at hz1; simp only [hz] at hz1; exact hz1
    have hrow : ∀ s, (Res.own f sz E p c l).p w s → ∃ w', (Builtin.clear_ #[t] ty #[.slice (subp p c lo sz) (l.length - lo) c2]).run P w = .ok (.tuple #[]) w' ∧ (Res.own f sz E p c (l.take lo)).p w' s ∧ w'.os = w.os ∧ w'.tape = w.tape ∧ w'.output = w.output ∧ w.heap.size ≤ w'.heap.size ∧ (∀ k, k < w.heap.size → ¬ s k → w'.heap[k]? = w.heap[k]?) := fun s hown => by
      by_cases hz0 : l.length - lo = 0
      · have hl : l.take lo = l := List.take_of_length_le (by omega)
        rw [hz0, hl]
        refine ⟨w, ?_, hown, rfl, rfl, rfl, Nat.le_refl _, fun _ _ _ => rfl⟩
        cases subp p c lo sz <;> simp [Builtin.clear_, run_underlying ht]
      · rcases hown with ⟨rfl, rfl, rfl, hno⟩ | ⟨g, o, cur, rfl, h4, h5, h6, h7, h8, hgs⟩
        · simp at hz0
        · have hne : c ≠ lo := by omega
          have hsub : subp (some ⟨g, o, none⟩) c lo sz = some ⟨g, o + lo * sz, none⟩ := by unfold subp; rw [if_neg hne]; simp [Addr.add_eq]
          rw [hsub]
          have hlen : (Builtin.zeroCells z.cells (l.length - lo)).toList.length = (l.length - lo) * sz := by rw [Array.length_toList, size_zeroCells, hzs]
          have hcs : l.length * sz ≤ c * sz := Nat.mul_le_mul_right _ h5
          have hsp : (l.length - lo) * sz + lo * sz = l.length * sz := by rw [← Nat.add_mul]; congr 1; omega
          have hst := run_storeCells_at P g (o + lo * sz) E (Builtin.zeroCells z.cells (l.length - lo)).toList 0 cur w h4 (by omega) (zeroCells_one hone _)
          simp only [Nat.add_zero] at hst
          refine ⟨w.setRow g (cur.toList.take (o + lo * sz) ++ (Builtin.zeroCells z.cells (l.length - lo)).toList ++ cur.toList.drop (o + lo * sz + (Builtin.zeroCells z.cells (l.length - lo)).toList.length)).toArray, ?_, .inr ⟨g, o, (cur.toList.take (o + lo * sz) ++ (Builtin.zeroCells z.cells (l.length - lo)).toList ++ cur.toList.drop (o + lo * sz + (Builtin.zeroCells z.cells (l.length - lo)).toList.length)).toArray, rfl, setRow_heap w g cur _ E _ h4, by simp only [List.length_take]; omega, h6, ?_, fun j hj => ?_, hgs⟩, rfl, rfl, rfl, by simp, fun i _ hi => setRow_other w g i _ (fun e => hi ((hgs i).2 e))⟩
          · obtain ⟨k, hk⟩ : ∃ k, l.length - lo = k + 1 := ⟨l.length - lo - 1, by omega⟩
            have hzv : ∀ w, (zeroValue E).run P w = .ok z w := fun w => by simp [zeroValue, typeInfo, hi, hz]
            rw [hk] at hst ⊢
            simp [Builtin.clear_, run_underlying ht, hzv, hst]
          · simp only [List.size_toArray, List.length_append, List.length_take, List.length_drop, Array.length_toList, size_zeroCells, hzs]
            omega
          · have hj2 : j < lo * sz := by rw [List.length_take] at hj; exact Nat.lt_of_lt_of_le hj (Nat.mul_le_mul_right _ (Nat.min_le_left _ _))
            have hll : lo * sz ≤ l.length * sz := Nat.mul_le_mul_right _ hlo
            rw [List.getElem?_toArray, List.append_assoc, List.getElem?_append_left (by simp only [List.length_take, Array.length_toList]; omega), List.getElem?_take, if_pos (by omega), Array.getElem?_toList, h8 j (by omega)]
            have e : l.flatMap f = (l.take lo).flatMap f ++ (l.drop lo).flatMap f := by rw [← List.flatMap_append, List.take_append_drop]
            rw [e, List.getElem?_append_left (by rw [flatMap_length hf.len]; exact hj)]
    obtain ⟨s0, hown⟩ := hw.get hp
    obtain ⟨w', hr', _⟩ := hrow s0 hown
    have hrun' : (execOp a.eval ⟨none, .call ⟨.builtin .clear, #[x], #[t]⟩, ty, pos, aft, none⟩).run P w = .ok (.value (.tuple #[])) w' := by
      rw [BigFrame.execOp_builtin]
      simp [BigFrame.builtin_clear, ha.ev hx, hr']
    unfold Oper.wp
    rw [hrun']
    refine hK _ _ (h _ _ ha (hw.turn hp fun s hs => ?_))
    obtain ⟨w2, hr2, h2, g1, g2, g3, g4, g5⟩ := hrow s hs
    rw [hr'] at hr2
    injection hr2 with _ e2
    subst e2
    exact ⟨s, h2, g1, g2, g3, g4, g5, fun k hk => .inl hk⟩
end
end Go.J
namespace Go.J
open Go
/-- a region's end alone -/
def Fin (K : Act → World → Prop) : Exit → Act → World → Prop := fun e a w => e = .normal ∧ K a w
/-- a condition's value is known, and nothing else of the way to it -/
def JoinB (n : Nat) (w0 : World) (p : Prop) (t : Nat) (F0 : Fr) (m : Mem) (Rs : List Res) : Act → World → Prop := fun a w => ∃ b : Bool, (b = true ↔ p) ∧ HF n ((t, .bool b) :: F0) a ∧ HW w0 m Rs w
section
variable {P : Program} {n : Nat} {w0 : World} {F : Fr} {m : Mem} {Rs : List Res} {Q : Exit → Act → World → Prop} {K : Act → World → Prop}
theorem At.fin_n (h : At n w0 F m Rs K) : At n w0 F m Rs (Fin K .normal) := fun a w ha hw => ⟨rfl, h a w ha hw⟩
theorem At.cutp {id : Nat} {ops : Array Oper} {dr : Bool} {F0 : Fr} (p : Prop) [Decidable p] (t : Nat) (L : List Nat) (e0 : keepL L F = some F0)
    (hx : At n w0 F m Rs ((Code.region id ops dr).wp P (Fin (JoinB n w0 p t F0 m Rs))))
    (hy : At n w0 ((t, .bool (decide p)) :: F0) m Rs K) : At n w0 F m Rs ((Code.region id ops dr).wp P (Exit.then K Q)) := by
  have _ := e0
  refine fun a w ha hw => Code.wp_mono (fun e a' w' q => ?_) (hx a w ha hw)
  obtain ⟨rfl, b, hb, h1, h2⟩ := q
  have : b = decide p := by
    by_cases h : p
    · rw [decide_eq_true h]; exact hb.2 h
    · rw [decide_eq_false h]; cases b
      · rfl
      · exact absurd (hb.1 rfl) h
  subst this
  exact hy a' w' h1 h2
theorem At.endp {p : Prop} {t : Nat} {F0 : Fr} {m0 : Mem} {Rs0 : List Res} {b : Bool} (ht : look t F = some (.bool b)) (hs : Subs F0 F) (hm : m0.le m) (hR : Ent Rs Rs0) (hp : b = true ↔ p) : At n w0 F m Rs (JoinB n w0 p t F0 m0 Rs0) :=
  fun a w ha hw => ⟨b, hp, (ha.weaken (F' := (t, .bool b) :: F0) ⟨ht, hs⟩), (hw.ent hR).weak hm⟩
end
end Go.J
namespace Go.J
open Go
theorem zhcs : (∀ (p : Prop) [Decidable p], (decide p = true) = p) ∧ (∀ (p : Prop) [Decidable p], (decide p = false) = ¬ p) ∧ (∀ b : Bool, ((!b) = true) = (b = false)) ∧ (∀ b : Bool, ((!b) = false) = (b = true)) ∧
    (∀ a b : Bool, ((a && b) = true) = (a = true ∧ b = true)) ∧ (∀ a b : Bool, ((a || b) = true) = (a = true ∨ b = true)) ∧ (∀ a b : Bool, ((a && b) = false) = (a = false ∨ b = false)) ∧ (∀ a b : Bool, ((a || b) = false) = (a = false ∧ b = false)) ∧
    (∀ a b : Bool, ((a != b) = true) = (a ≠ b)) ∧ (∀ a b : Bool, ((a == b) = true) = (a = b)) ∧ (∀ a b : Bool, ((a == b) = false) = (a ≠ b)) ∧ (∀ a b : Bool, ((a != b) = false) = (a = b)) ∧
    ((!true) = false) ∧ ((!false) = true) ∧ (∀ p : Prop, (¬ ¬ p) = p) ∧ ((¬ True) = False) ∧ ((¬ False) = True) ∧ ((false = true) = False) ∧ ((true = false) = False) ∧
    ((none : Option Addr).isNone = true) ∧ (∀ x : Addr, (some x).isNone = false) ∧ (∀ b : Bool, (b && true) = b) ∧ (∀ p : Prop, (p ∧ True) = p) ∧ (∀ (a : Bool) (l : List Bool), andL (a :: l) = (a && andL l)) ∧ (andL [] = true) :=
  ⟨fun _ _ => decide_eq_true_eq, fun _ _ => by simp, by decide, by decide, by decide, by decide, by decide, by decide, by decide, by decide, by decide, by decide, rfl, rfl, fun p => by rw [Classical.not_not], by simp, by simp, by simp, by simp, rfl, fun _ => rfl, by decide, fun p => by simp, fun _ _ => andL_cons .., andL_nil⟩
theorem zrf {α : Type} {a b : α} (h : a = b := by first | rfl | fail) : a = b := h
theorem zom {p : Prop} (h : p := by first | omega | (simp only [lns] <;> omega) | fail) : p := h
theorem zlq {p : Prop} (h : p := by first | exact rfl | omega | (simp only [lns] <;> omega) | fail) : p := h
theorem ztk {A R Y : List Res} (h : Take A R Y := by (repeat' (first | exact Take.nil | ((with_reducible apply Take.cons); (focus ((repeat constructor); done)))))) : Take A R Y := h
theorem zkp {A R Y : List Res} (h : Keep A R Y := by (repeat' (first | exact Keep.nil | ((with_reducible apply Keep.cons); exact (by repeat constructor)) | (with_reducible apply Keep.skip)))) : Keep A R Y := h
theorem zlw {A R : List Res} (h : Low A R := by (repeat' (first | exact Low.base | ((with_reducible apply Low.cons); exact (by repeat constructor)) | (with_reducible apply Low.skip)))) : Low A R := h
theorem zlf {A R Y : List Res} (h : Left A R Y := by (repeat' (first | exact Left.base | ((with_reducible apply Left.cons); exact (by repeat constructor)) | (with_reducible apply Left.extra)))) : Left A R Y := h
theorem zml {m m' : Mem} (h : m.le m' := by first | exact Mem.le_refl _ | assumption | exact Mem.le_trans (by assumption) (by assumption) | (focus ((iterate 16 (first | done | assumption | refine Mem.le_trans ?_ (by assumption))); done)) | fail) : m.le m' := h
theorem zsubs {A B : Fr} (h : Subs A B := by first | exact trivial | (repeat' (first | exact trivial | refine ⟨rfl, ?_⟩ | refine ⟨look_int (by rfl) (by first | omega | (dsimp only; omega)), ?_⟩))) : Subs A B := h
theorem zente {A B : List Res} (h : Ent A B := by first | exact Ent.refl _ | (refine Low.ent ?_; exact zlw) | fail) : Ent A B := h
section
variable {α : Type} [Inhabited α] {f : α → List Value} {sz : Nat} {p : Option Addr} {c : Nat} {l : List α} {P : Program} {n : Nat} {F : Fr} {C : World → Prop} {op : Op} {v : Value} {m : Mem}
theorem zsla (h : Sl m f sz p c l := by first | assumption | exact Sl.mono (by assumption) (by assumption) | fail) : Sl m f sz p c l := h
theorem zrdb (h : Rdb C f sz p c l := by first | exact own_rdb inferInstance (by repeat constructor) | exact Sl.rdb zsla | fail) : Rdb C f sz p c l := h
theorem zpr0 (h : PR P n F C op v := by first | ((with_reducible first | apply pr_move | apply pr_assign | apply pr_extract | apply pr_nilCheck | apply pr_lss | apply pr_leq | apply pr_gtr | apply pr_geq | apply pr_eql | apply pr_neq | apply pr_not | apply pr_pick_t | apply pr_len_sl | apply pr_fieldAddr0 | apply pr_build | apply pr_field1 | apply pr_makeFunc | apply pr_and | apply pr_or | apply pr_xor | apply pr_andnot | apply pr_min | apply pr_max) <;> exact rfl) | ((with_reducible first | apply pr_pick_f | apply pr_beql | apply pr_bneq | apply pr_len_str | apply pr_fieldAddrL | apply pr_fieldN) <;> exact rfl) | ((with_reducible first | apply pr_peql | apply pr_pneq | apply pr_fieldAddr_at2) <;> exact rfl) | ((with_reducible first | apply pr_streq | apply pr_strne | apply pr_fieldAddr_at) <;> exact rfl) | ((with_reducible first | apply pr_add | apply pr_sub | apply pr_mul); exact rfl; exact rfl; (first | exact IntWalk.i64_in _ (by omega) | exact IntWalk.u64_in _ (by omega) | exact IntWalk.u8_in _ (by omega) | exact IntWalk.u32_in _ (by omega) | exact IntKind.wrap_u64 _ | exact IntKind.wrap_i64 _ | exact IntKind.wrap_u32 _ | exact IntKind.wrap_u8 _)) | ((with_reducible apply pr_quo); exact rfl; exact rfl; omega; (first | exact IntWalk.i64_quo _ _ (by omega) | exact IntWalk.u64_quo _ _ (by omega))) | ((with_reducible apply pr_rem); exact rfl; exact rfl; omega; exact IntWalk.rem_in _ _ (by omega)) | ((with_reducible apply pr_conv); exact ⟨_, rfl⟩; exact rfl; exact rfl; (first | exact IntWalk.i64_in _ (by omega) | exact IntWalk.u64_in _ (by omega) | exact IntWalk.u8_in _ (by omega) | exact IntWalk.u32_in _ (by omega) | exact IntKind.wrap_u64 _ | exact IntKind.wrap_i64 _ | exact IntKind.wrap_u32 _ | exact IntKind.wrap_u8 _)) | ((with_reducible apply pr_load_blk1); exact rfl; exact rfl; exact (by repeat constructor); exact rfl) | ((with_reducible apply pr_load_blkN); exact rfl; exact rfl; exact rfl; exact (by repeat constructor); exact rfl) | ((with_reducible first | apply pr_aggeq2 | apply pr_aggne2); exact rfl; exact rfl; exact rfl; kernel_rfl; kernel_rfl; exact rfl) | ((with_reducible first | apply pr_strindexn | apply pr_str_ln | apply pr_str_hn); exact rfl; exact rfl; exact rfl; (first | omega | (simp only [lns] <;> omega))) | ((with_reducible apply pr_str_lhn); exact rfl; exact rfl; exact rfl; exact rfl; (first | omega | (simp only [lns] <;> omega)); (first | omega | (simp only [lns] <;> omega))) | ((with_reducible first | apply pr_strindex | apply pr_str_l | apply pr_str_h); exact rfl; exact rfl; exact rfl; (first | omega | (simp only [lns] <;> omega)); (first | omega | (simp only [lns] <;> omega))) | ((with_reducible apply pr_str_lh); exact rfl; exact rfl; exact rfl; exact rfl; (first | omega | (simp only [lns] <;> omega)); (first | omega | (simp only [lns] <;> omega)); (first | omega | (simp only [lns] <;> omega))) | ((with_reducible apply pr_stradd); exact rfl; exact rfl; (first | omega | (simp only [lns] <;> omega))) | ((with_reducible apply pr_neg); exact rfl; (first | exact IntWalk.i64_in _ (by omega) | exact IntWalk.u64_in _ (by omega) | exact IntWalk.u8_in _ (by omega) | exact IntWalk.u32_in _ (by omega) | exact IntKind.wrap_u64 _ | exact IntKind.wrap_i64 _ | exact IntKind.wrap_u32 _ | exact IntKind.wrap_u8 _)) | ((with_reducible apply pr_shrv); exact rfl; exact rfl; (first | omega | (simp only [IntKind.bits] <;> omega)); (first | omega | (simp only [IntKind.bits] <;> omega)); ((try simp only [Int.reduceToNat, Int.reducePow, Nat.reducePow]); exact rfl)) | ((with_reducible apply pr_shlv); exact rfl; exact rfl; (first | omega | (simp only [IntKind.bits] <;> omega)); (first | omega | (simp only [IntKind.bits] <;> omega)); ((try simp only [Int.reduceToNat, Int.reducePow]); (first | exact IntWalk.i64_in _ (by omega) | exact IntWalk.u64_in _ (by omega) | exact IntWalk.u8_in _ (by omega) | exact IntWalk.u32_in _ (by omega) | exact IntKind.wrap_u64 _ | exact IntKind.wrap_i64 _ | exact IntKind.wrap_u32 _ | exact IntKind.wrap_u8 _))) | fail) : PR P n F C op v := h
theorem zprO (h : PR P n F C op v := by first | ((with_reducible first | apply pr_move | apply pr_assign | apply pr_extract | apply pr_nilCheck | apply pr_lss | apply pr_leq | apply pr_gtr | apply pr_geq | apply pr_eql | apply pr_neq | apply pr_not | apply pr_pick_t | apply pr_len_sl | apply pr_fieldAddr0 | apply pr_build | apply pr_field1 | apply pr_makeFunc | apply pr_and | apply pr_or | apply pr_xor | apply pr_andnot | apply pr_minI | apply pr_maxI) <;> exact rfl) | ((with_reducible first | apply pr_pick_f | apply pr_beql | apply pr_bneq | apply pr_len_str | apply pr_fieldAddrL | apply pr_fieldN) <;> exact rfl) | ((with_reducible first | apply pr_peql | apply pr_pneq | apply pr_fieldAddr_at2) <;> exact rfl) | ((with_reducible first | apply pr_streq | apply pr_strne | apply pr_fieldAddr_at) <;> exact rfl) | ((with_reducible first | apply pr_add | apply pr_sub | apply pr_mul); exact rfl; exact rfl; (first | exact IntWalk.i64_in _ (by omega) | exact IntWalk.u64_in _ (by omega) | exact IntWalk.u8_in _ (by omega) | exact IntWalk.u32_in _ (by omega) | exact IntKind.wrap_u64 _ | exact IntKind.wrap_i64 _ | exact IntKind.wrap_u32 _ | exact IntKind.wrap_u8 _)) | ((with_reducible apply pr_quo); exact rfl; exact rfl; omega; (first | exact IntWalk.i64_quo _ _ (by omega) | exact IntWalk.u64_quo _ _ (by omega))) | ((with_reducible apply pr_rem); exact rfl; exact rfl; omega; exact IntWalk.rem_in _ _ (by omega)) | ((with_reducible apply pr_conv); exact ⟨_, rfl⟩; exact rfl; exact rfl; (first | exact IntWalk.i64_in _ (by omega) | exact IntWalk.u64_in _ (by omega) | exact IntWalk.u8_in _ (by omega) | exact IntWalk.u32_in _ (by omega) | exact IntKind.wrap_u64 _ | exact IntKind.wrap_i64 _ | exact IntKind.wrap_u32 _ | exact IntKind.wrap_u8 _)) | ((with_reducible apply pr_load_blk1); exact rfl; exact rfl; exact (by repeat constructor); exact rfl) | ((with_reducible apply pr_load_blkN); exact rfl; exact rfl; exact rfl; exact (by repeat constructor); exact rfl) | exact pr_index_own zrf zrf (by repeat constructor) inferInstance zrf zrf zlq zom | exact pr_load_own1 zrf (by repeat constructor) inferInstance zom zrf zrf | exact pr_load_ownN zrf (by repeat constructor) inferInstance zom zrf zrf zrf | exact pr_load_ownf zrf (by repeat constructor) inferInstance zom zrf zrf zrf | exact pr_load_ownfN zrf (by repeat constructor) inferInstance zom zrf zrf zrf zrf | exact pr_index_owni zrf zrf (by repeat constructor) inferInstance zrf zrf zlq zom zom | exact pr_slice_gl zrf zrf (own_le (by repeat constructor)) zrf zrf zom | exact pr_slice_gh zrf zrf (own_le (by repeat constructor)) zrf zrf zom | exact pr_slice_glh zrf zrf zrf (own_le (by repeat constructor)) zrf zrf zom zom | exact pr_slice_gli zrf zrf (own_le (by repeat constructor)) zrf zrf zom zom | exact pr_slice_ghi zrf zrf (own_le (by repeat constructor)) zrf zrf zom zom | exact pr_slice_glhi zrf zrf zrf (own_le (by repeat constructor)) zrf zrf zom zom zom | ((with_reducible first | apply pr_aggeq2 | apply pr_aggne2); exact rfl; exact rfl; exact rfl; kernel_rfl; kernel_rfl; exact rfl) | ((with_reducible first | apply pr_strindexn | apply pr_str_ln | apply pr_str_hn); exact rfl; exact rfl; exact rfl; (first | omega | (simp only [lns] <;> omega))) | ((with_reducible apply pr_str_lhn); exact rfl; exact rfl; exact rfl; exact rfl; (first | omega | (simp only [lns] <;> omega)); (first | omega | (simp only [lns] <;> omega))) | ((with_reducible first | apply pr_strindex | apply pr_str_l | apply pr_str_h); exact rfl; exact rfl; exact rfl; (first | omega | (simp only [lns] <;> omega)); (first | omega | (simp only [lns] <;> omega))) | ((with_reducible apply pr_str_lh); exact rfl; exact rfl; exact rfl; exact rfl; (first | omega | (simp only [lns] <;> omega)); (first | omega | (simp only [lns] <;> omega)); (first | omega | (simp only [lns] <;> omega))) | ((with_reducible apply pr_stradd); exact rfl; exact rfl; (first | omega | (simp only [lns] <;> omega))) | ((with_reducible apply pr_neg); exact rfl; (first | exact IntWalk.i64_in _ (by omega) | exact IntWalk.u64_in _ (by omega) | exact IntWalk.u8_in _ (by omega) | exact IntWalk.u32_in _ (by omega) | exact IntKind.wrap_u64 _ | exact IntKind.wrap_i64 _ | exact IntKind.wrap_u32 _ | exact IntKind.wrap_u8 _)) | ((with_reducible apply pr_shrv); exact rfl; exact rfl; (first | omega | (simp only [IntKind.bits] <;> omega)); (first | omega | (simp only [IntKind.bits] <;> omega)); ((try simp only [Int.reduceToNat, Int.reducePow, Nat.reducePow]); exact rfl)) | ((with_reducible apply pr_shlv); exact rfl; exact rfl; (first | omega | (simp only [IntKind.bits] <;> omega)); (first | omega | (simp only [IntKind.bits] <;> omega)); ((try simp only [Int.reduceToNat, Int.reducePow]); (first | exact IntWalk.i64_in _ (by omega) | exact IntWalk.u64_in _ (by omega) | exact IntWalk.u8_in _ (by omega) | exact IntWalk.u32_in _ (by omega) | exact IntKind.wrap_u64 _ | exact IntKind.wrap_i64 _ | exact IntKind.wrap_u32 _ | exact IntKind.wrap_u8 _))) | exact pr_bytes_str zrf zrf zrf zrf zrdb zlq | fail) : PR P n F C op v := h
theorem zprM (h : PR P n F C op v := by first | ((with_reducible first | apply pr_move | apply pr_assign | apply pr_extract | apply pr_nilCheck | apply pr_lss | apply pr_leq | apply pr_gtr | apply pr_geq | apply pr_eql | apply pr_neq | apply pr_not | apply pr_pick_t | apply pr_len_sl | apply pr_fieldAddr0 | apply pr_build | apply pr_field1 | apply pr_makeFunc | apply pr_and | apply pr_or | apply pr_xor | apply pr_andnot | apply pr_minI | apply pr_maxI) <;> exact rfl) | ((with_reducible first | apply pr_pick_f | apply pr_beql | apply pr_bneq | apply pr_len_str | apply pr_fieldAddrL | apply pr_fieldN) <;> exact rfl) | ((with_reducible first | apply pr_peql | apply pr_pneq | apply pr_fieldAddr_at2) <;> exact rfl) | ((with_reducible first | apply pr_streq | apply pr_strne | apply pr_fieldAddr_at) <;> exact rfl) | ((with_reducible first | apply pr_add | apply pr_sub | apply pr_mul); exact rfl; exact rfl; (first | exact IntWalk.i64_in _ (by omega) | exact IntWalk.u64_in _ (by omega) | exact IntWalk.u8_in _ (by omega) | exact IntWalk.u32_in _ (by omega) | exact IntKind.wrap_u64 _ | exact IntKind.wrap_i64 _ | exact IntKind.wrap_u32 _ | exact IntKind.wrap_u8 _)) | ((with_reducible apply pr_quo); exact rfl; exact rfl; omega; (first | exact IntWalk.i64_quo _ _ (by omega) | exact IntWalk.u64_quo _ _ (by omega))) | ((with_reducible apply pr_rem); exact rfl; exact rfl; omega; exact IntWalk.rem_in _ _ (by omega)) | ((with_reducible apply pr_conv); exact ⟨_, rfl⟩; exact rfl; exact rfl; (first | exact IntWalk.i64_in _ (by omega) | exact IntWalk.u64_in _ (by omega) | exact IntWalk.u8_in _ (by omega) | exact IntWalk.u32_in _ (by omega) | exact IntKind.wrap_u64 _ | exact IntKind.wrap_i64 _ | exact IntKind.wrap_u32 _ | exact IntKind.wrap_u8 _)) | ((with_reducible apply pr_load_blk1); exact rfl; exact rfl; exact (by repeat constructor); exact rfl) | ((with_reducible apply pr_load_blkN); exact rfl; exact rfl; exact rfl; exact (by repeat constructor); exact rfl) | exact pr_index_mem zrf zrf zsla zrf zrf zlq zom | exact pr_index_memi zrf zrf zsla zrf zrf zlq zom zom | exact pr_load_meme1 zrf zsla zom zrf zrf | exact pr_load_memeN zrf zsla zom zrf zrf zrf | exact pr_load_memef zrf zsla zom zrf zrf zrf | exact pr_load_memefN zrf zsla zom zrf zrf zrf zrf | exact pr_slice_gl zrf zrf (mem_le zsla) zrf zrf zom | exact pr_slice_gh zrf zrf (mem_le zsla) zrf zrf zom | exact pr_slice_glh zrf zrf zrf (mem_le zsla) zrf zrf zom zom | exact pr_slice_gli zrf zrf (mem_le zsla) zrf zrf zom zom | exact pr_slice_ghi zrf zrf (mem_le zsla) zrf zrf zom zom | exact pr_slice_glhi zrf zrf zrf (mem_le zsla) zrf zrf zom zom zom | ((with_reducible first | apply pr_aggeq2 | apply pr_aggne2); exact rfl; exact rfl; exact rfl; kernel_rfl; kernel_rfl; exact rfl) | ((with_reducible first | apply pr_strindexn | apply pr_str_ln | apply pr_str_hn); exact rfl; exact rfl; exact rfl; (first | omega | (simp only [lns] <;> omega))) | ((with_reducible apply pr_str_lhn); exact rfl; exact rfl; exact rfl; exact rfl; (first | omega | (simp only [lns] <;> omega)); (first | omega | (simp only [lns] <;> omega))) | ((with_reducible first | apply pr_strindex | apply pr_str_l | apply pr_str_h); exact rfl; exact rfl; exact rfl; (first | omega | (simp only [lns] <;> omega)); (first | omega | (simp only [lns] <;> omega))) | ((with_reducible apply pr_str_lh); exact rfl; exact rfl; exact rfl; exact rfl; (first | omega | (simp only [lns] <;> omega)); (first | omega | (simp only [lns] <;> omega)); (first | omega | (simp only [lns] <;> omega))) | ((with_reducible apply pr_stradd); exact rfl; exact rfl; (first | omega | (simp only [lns] <;> omega))) | ((with_reducible apply pr_neg); exact rfl; (first | exact IntWalk.i64_in _ (by omega) | exact IntWalk.u64_in _ (by omega) | exact IntWalk.u8_in _ (by omega) | exact IntWalk.u32_in _ (by omega) | exact IntKind.wrap_u64 _ | exact IntKind.wrap_i64 _ | exact IntKind.wrap_u32 _ | exact IntKind.wrap_u8 _)) | ((with_reducible apply pr_shrv); exact rfl; exact rfl; (first | omega | (simp only [IntKind.bits] <;> omega)); (first | omega | (simp only [IntKind.bits] <;> omega)); ((try simp only [Int.reduceToNat, Int.reducePow, Nat.reducePow]); exact rfl)) | ((with_reducible apply pr_shlv); exact rfl; exact rfl; (first | omega | (simp only [IntKind.bits] <;> omega)); (first | omega | (simp only [IntKind.bits] <;> omega)); ((try simp only [Int.reduceToNat, Int.reducePow]); (first | exact IntWalk.i64_in _ (by omega) | exact IntWalk.u64_in _ (by omega) | exact IntWalk.u8_in _ (by omega) | exact IntWalk.u32_in _ (by omega) | exact IntKind.wrap_u64 _ | exact IntKind.wrap_i64 _ | exact IntKind.wrap_u32 _ | exact IntKind.wrap_u8 _))) | exact pr_bytes_str zrf zrf zrf zrf zrdb zlq | fail) : PR P n F C op v := h
theorem zprOM (h : PR P n F C op v := by first | ((with_reducible first | apply pr_move | apply pr_assign | apply pr_extract | apply pr_nilCheck | apply pr_lss | apply pr_leq | apply pr_gtr | apply pr_geq | apply pr_eql | apply pr_neq | apply pr_not | apply pr_pick_t | apply pr_len_sl | apply pr_fieldAddr0 | apply pr_build | apply pr_field1 | apply pr_makeFunc | apply pr_and | apply pr_or | apply pr_xor | apply pr_andnot | apply pr_minI | apply pr_maxI) <;> exact rfl) | ((with_reducible first | apply pr_pick_f | apply pr_beql | apply pr_bneq | apply pr_len_str | apply pr_fieldAddrL | apply pr_fieldN) <;> exact rfl) | ((with_reducible first | apply pr_peql | apply pr_pneq | apply pr_fieldAddr_at2) <;> exact rfl) | ((with_reducible first | apply pr_streq | apply pr_strne | apply pr_fieldAddr_at) <;> exact rfl) | ((with_reducible first | apply pr_add | apply pr_sub | apply pr_mul); exact rfl; exact rfl; (first | exact IntWalk.i64_in _ (by omega) | exact IntWalk.u64_in _ (by omega) | exact IntWalk.u8_in _ (by omega) | exact IntWalk.u32_in _ (by omega) | exact IntKind.wrap_u64 _ | exact IntKind.wrap_i64 _ | exact IntKind.wrap_u32 _ | exact IntKind.wrap_u8 _)) | ((with_reducible apply pr_quo); exact rfl; exact rfl; omega; (first | exact IntWalk.i64_quo _ _ (by omega) | exact IntWalk.u64_quo _ _ (by omega))) | ((with_reducible apply pr_rem); exact rfl; exact rfl; omega; exact IntWalk.rem_in _ _ (by omega)) | ((with_reducible apply pr_conv); exact ⟨_, rfl⟩; exact rfl; exact rfl; (first | exact IntWalk.i64_in _ (by omega) | exact IntWalk.u64_in _ (by omega) | exact IntWalk.u8_in _ (by omega) | exact IntWalk.u32_in _ (by omega) | exact IntKind.wrap_u64 _ | exact IntKind.wrap_i64 _ | exact IntKind.wrap_u32 _ | exact IntKind.wrap_u8 _)) | ((with_reducible apply pr_load_blk1); exact rfl; exact rfl; exact (by repeat constructor); exact rfl) | ((with_reducible apply pr_load_blkN); exact rfl; exact rfl; exact rfl; exact (by repeat constructor); exact rfl) | exact pr_index_own zrf zrf (by repeat constructor) inferInstance zrf zrf zlq zom | exact pr_load_own1 zrf (by repeat constructor) inferInstance zom zrf zrf | exact pr_load_ownN zrf (by repeat constructor) inferInstance zom zrf zrf zrf | exact pr_load_ownf zrf (by repeat constructor) inferInstance zom zrf zrf zrf | exact pr_load_ownfN zrf (by repeat constructor) inferInstance zom zrf zrf zrf zrf | exact pr_index_owni zrf zrf (by repeat constructor) inferInstance zrf zrf zlq zom zom | exact pr_slice_gl zrf zrf (own_le (by repeat constructor)) zrf zrf zom | exact pr_slice_gh zrf zrf (own_le (by repeat constructor)) zrf zrf zom | exact pr_slice_glh zrf zrf zrf (own_le (by repeat constructor)) zrf zrf zom zom | exact pr_slice_gli zrf zrf (own_le (by repeat constructor)) zrf zrf zom zom | exact pr_slice_ghi zrf zrf (own_le (by repeat constructor)) zrf zrf zom zom | exact pr_slice_glhi zrf zrf zrf (own_le (by repeat constructor)) zrf zrf zom zom zom | exact pr_index_mem zrf zrf zsla zrf zrf zlq zom | exact pr_index_memi zrf zrf zsla zrf zrf zlq zom zom | exact pr_load_meme1 zrf zsla zom zrf zrf | exact pr_load_memeN zrf zsla zom zrf zrf zrf | exact pr_load_memef zrf zsla zom zrf zrf zrf | exact pr_load_memefN zrf zsla zom zrf zrf zrf zrf | exact pr_slice_gl zrf zrf (mem_le zsla) zrf zrf zom | exact pr_slice_gh zrf zrf (mem_le zsla) zrf zrf zom | exact pr_slice_glh zrf zrf zrf (mem_le zsla) zrf zrf zom zom | exact pr_slice_gli zrf zrf (mem_le zsla) zrf zrf zom zom | exact pr_slice_ghi zrf zrf (mem_le zsla) zrf zrf zom zom | exact pr_slice_glhi zrf zrf zrf (mem_le zsla) zrf zrf zom zom zom | ((with_reducible first | apply pr_aggeq2 | apply pr_aggne2); exact rfl; exact rfl; exact rfl; kernel_rfl; kernel_rfl; exact rfl) | ((with_reducible first | apply pr_strindexn | apply pr_str_ln | apply pr_str_hn); exact rfl; exact rfl; exact rfl; (first | omega | (simp only [lns] <;> omega))) | ((with_reducible apply pr_str_lhn); exact rfl; exact rfl; exact rfl; exact rfl; (first | omega | (simp only [lns] <;> omega)); (first | omega | (simp only [lns] <;> omega))) | ((with_reducible first | apply pr_strindex | apply pr_str_l | apply pr_str_h); exact rfl; exact rfl; exact rfl; (first | omega | (simp only [lns] <;> omega)); (first | omega | (simp only [lns] <;> omega))) | ((with_reducible apply pr_str_lh); exact rfl; exact rfl; exact rfl; exact rfl; (first | omega | (simp only [lns] <;> omega)); (first | omega | (simp only [lns] <;> omega)); (first | omega | (simp only [lns] <;> omega))) | ((with_reducible apply pr_stradd); exact rfl; exact rfl; (first | omega | (simp only [lns] <;> omega))) | ((with_reducible apply pr_neg); exact rfl; (first | exact IntWalk.i64_in _ (by omega) | exact IntWalk.u64_in _ (by omega) | exact IntWalk.u8_in _ (by omega) | exact IntWalk.u32_in _ (by omega) | exact IntKind.wrap_u64 _ | exact IntKind.wrap_i64 _ | exact IntKind.wrap_u32 _ | exact IntKind.wrap_u8 _)) | ((with_reducible apply pr_shrv); exact rfl; exact rfl; (first | omega | (simp only [IntKind.bits] <;> omega)); (first | omega | (simp only [IntKind.bits] <;> omega)); ((try simp only [Int.reduceToNat, Int.reducePow, Nat.reducePow]); exact rfl)) | ((with_reducible apply pr_shlv); exact rfl; exact rfl; (first | omega | (simp only [IntKind.bits] <;> omega)); (first | omega | (simp only [IntKind.bits] <;> omega)); ((try simp only [Int.reduceToNat, Int.reducePow]); (first | exact IntWalk.i64_in _ (by omega) | exact IntWalk.u64_in _ (by omega) | exact IntWalk.u8_in _ (by omega) | exact IntWalk.u32_in _ (by omega) | exact IntKind.wrap_u64 _ | exact IntKind.wrap_i64 _ | exact IntKind.wrap_u32 _ | exact IntKind.wrap_u8 _))) | exact pr_bytes_str zrf zrf zrf zrf zrdb zlq | fail) : PR P n F C op v := h
theorem zprA (h : PR P n F C op v := by first | exact pr_indexArr1 zrf zrf zrf zrf zom | exact pr_indexArr1i zrf zrf zrf zrf zom zom | exact pr_loadA zrf (by repeat constructor) zrf zrf zlq | exact pr_load_arr zrf (by repeat constructor) zrf zom | ((with_reducible first | apply pr_aggeq2 | apply pr_aggne2); exact rfl; exact rfl; exact rfl; kernel_rfl; kernel_rfl; exact rfl) | fail) : PR P n F C op v := h
end
/-- what is left, so that nothing takes it for a fact -/
structure Wr (G : Prop) : Prop where
  out : G
section
variable {G G' G1 G2 : Prop}
theorem zss (k : G') (h : Wr G' → G := by intro k; first | ((with_reducible first | apply At.seq | apply At.nil | apply At.then_n | apply At.then_e | apply At.then_r | apply At.inb_n | apply At.inb_r | apply At.inb_here | apply At.block | apply At.skip | apply At.exit | apply At.ret | apply At.scope | apply At.label | apply At.nog_n | apply At.nog_r | apply At.nog_e | apply At.fin_n | apply AtQ.nil | apply At.app0 | apply At.app1 | apply At.app2 | apply At.app3 | apply At.app4 | apply At.app5 | apply At.app6 | apply At.app7); exact k.1) | ((with_reducible first | apply At.inb_past | apply At.regionf); exact rfl; exact k.1) | ((with_reducible apply At.quiet); exact rfl; kernel_rfl; kernel_rfl; exact k.1) | ((with_reducible apply At.storeB); exact rfl; exact rfl; exact rfl; exact rfl; exact rfl; exact rfl; exact (by repeat constructor); exact rfl; exact k.1) | ((with_reducible first | apply AtQ.guard_y | apply At.guard_y); exact rfl; exact rfl; exact rfl; exact k.1) | ((with_reducible first | apply AtQ.guard_nt | apply At.guard_nt); exact rfl; exact rfl; exact rfl; exact k.1) | ((with_reducible first | apply AtQ.guard_nf | apply At.guard_nf); exact rfl; exact rfl; exact rfl; exact k.1) | ((with_reducible first | apply AtQ.guard_nu | apply At.guard_nu); exact rfl; exact rfl; exact rfl; exact k.1) | ((with_reducible first | apply At.cond_t | apply At.cond_f); exact rfl; exact k.1) | ((with_reducible apply At.cond_f); exact rfl; exact k.1) | fail) : G := h ⟨k⟩
theorem zsx (k : G') (h : Wr G' → G := by intro k; first | ((with_reducible apply At.back); exact zlf; exact zml; exact k.1) | ((with_reducible apply At.backX); exact k.1) | ((with_reducible first | apply AtM.qo | apply AtM.done); exact rfl; exact k.1) | ((with_reducible apply AtM.done); exact rfl; exact k.1) | ((with_reducible first | apply AtM.xo | apply AtM.lo); exact rfl; exact rfl; exact k.1) | ((with_reducible first | apply AtQ.guard_y | apply At.guard_y | apply AtM1.guard_y); exact rfl; exact rfl; exact rfl; exact k.1) | ((with_reducible first | apply AtQ.guard_nt | apply At.guard_nt | apply AtM1.guard_nt); exact rfl; exact rfl; exact rfl; exact k.1) | ((with_reducible first | apply AtQ.guard_nf | apply At.guard_nf | apply AtM1.guard_nf); exact rfl; exact rfl; exact rfl; exact k.1) | ((with_reducible first | apply AtQ.guard_nu | apply At.guard_nu | apply AtM1.guard_nu); exact rfl; exact rfl; exact rfl; exact k.1) | fail) : G := h ⟨k⟩
theorem zs0 (k : G') (h : Wr G' → G := by intro k; ((with_reducible first | apply At.val | apply AtQ.val); exact zpr0; exact rfl; exact k.1)) : G := h ⟨k⟩
theorem zsO (k : G') (h : Wr G' → G := by intro k; ((with_reducible first | apply At.val | apply AtQ.val); exact zprO; exact rfl; exact k.1)) : G := h ⟨k⟩
theorem zsM (k : G') (h : Wr G' → G := by intro k; ((with_reducible first | apply At.val | apply AtQ.val); exact zprM; exact rfl; exact k.1)) : G := h ⟨k⟩
theorem zsOM (k : G') (h : Wr G' → G := by intro k; ((with_reducible first | apply At.val | apply AtQ.val); exact zprOM; exact rfl; exact k.1)) : G := h ⟨k⟩
theorem zx0 (k : G') (h : Wr G' → G := by intro k; first | ((with_reducible first | apply AtM1.valz | apply AtM1.val); exact rfl; exact zpr0; exact rfl; exact k.1) | ((with_reducible apply AtM1.val); exact rfl; exact zpr0; exact rfl; exact k.1) | fail) : G := h ⟨k⟩
theorem zxO (k : G') (h : Wr G' → G := by intro k; first | ((with_reducible first | apply AtM1.valz | apply AtM1.val); exact rfl; exact zprO; exact rfl; exact k.1) | ((with_reducible apply AtM1.val); exact rfl; exact zprO; exact rfl; exact k.1) | fail) : G := h ⟨k⟩
theorem zxM (k : G') (h : Wr G' → G := by intro k; first | ((with_reducible first | apply AtM1.valz | apply AtM1.val); exact rfl; exact zprM; exact rfl; exact k.1) | ((with_reducible apply AtM1.val); exact rfl; exact zprM; exact rfl; exact k.1) | fail) : G := h ⟨k⟩
theorem zsp (k1 : G1) (k2 : G2) (h : G1 → G2 → G := by intro k1 k2; first | ((with_reducible apply At.cond); exact rfl; exact k1; exact k2) | ((with_reducible first | apply At.guard_s | apply AtQ.guard_s | apply AtM1.guard_s); exact rfl; exact rfl; exact k1; exact k2) | fail) : G := h k1 k2
end
section
variable {P : Program} {n : Nat} {w0 : World} {F : Fr} {m : Mem} {Rs : List Res} {Q : Exit → Act → World → Prop} {K : Act → World → Prop}
theorem At.c1 {d : Nat} {ops : Array Oper} {rest : List Oper} {g : FuncId} {xs : List Operand} {ts : Array TypeId} {ty : TypeId} {pos : String} {aft : Array Edge} {vs : List Value} {A Rest : List Res} {R : Value → Mem → List Res → Prop}
    (hx : evs F xs = some vs) (hd : Nat.blt d n = true) (hc : Ct P g vs.toArray m A R) (hA : Take A Rs Rest) (hg : goFn P g = true)
    (h : ∀ v m' B, m.le m' → R v m' B → At n w0 ((d, v) :: F) m' (B ++ Rest) (wpList P ops Q rest)) :
    At n w0 F m Rs (wpList P ops Q (⟨some d, .call ⟨.value (.func g), xs.toArray, ts⟩, ty, pos, aft, none⟩ :: rest)) := At.callt1 hg hx hd hc hA h
theorem At.c0 {ops : Array Oper} {rest : List Oper} {g : FuncId} {xs : List Operand} {ts : Array TypeId} {ty : TypeId} {pos : String} {aft : Array Edge} {vs : List Value} {A Rest : List Res} {R : Value → Mem → List Res → Prop}
    (hx : evs F xs = some vs) (hd : n = n) (hc : Ct P g vs.toArray m A R) (hA : Take A Rs Rest) (hg : goFn P g = true)
    (h : ∀ v m' B, m.le m' → R v m' B → At n w0 F m' (B ++ Rest) (wpList P ops Q rest)) :
    At n w0 F m Rs (wpList P ops Q (⟨none, .call ⟨.value (.func g), xs.toArray, ts⟩, ty, pos, aft, none⟩ :: rest)) := At.callt0 hg hx hc hA h
theorem At.cr {ops : Array Oper} {rest : List Oper} {d : Nat} {g : FuncId} {xs : List Operand} {ts : Array TypeId} {ty : TypeId} {pos : String} {aft : Array Edge} {vs : List Value} {V : Value} {A Y : List Res}
    (hx : evs F xs = some vs) (hd : Nat.blt d n = true) (hc : ∀ m', m.le m' → Rd P g vs.toArray m' A V) (hA : Take A Rs Y) (hg : goFn P g = true)
    (h : At n w0 ((d, V) :: F) m Rs (wpList P ops Q rest)) : At n w0 F m Rs (wpList P ops Q (⟨some d, .call ⟨.value (.func g), xs.toArray, ts⟩, ty, pos, aft, none⟩ :: rest)) := At.callr hg hx hd hc hA h
theorem AtQ.cr {ops : Array Oper} {rest : List Oper} {Qq : Act → Prop} {d : Nat} {g : FuncId} {xs : List Operand} {ts : Array TypeId} {ty : TypeId} {pos : String} {aft : Array Edge} {vs : List Value} {V : Value} {A Y : List Res}
    (hx : evs F xs = some vs) (hd : Nat.blt d n = true) (hc : ∀ m', m.le m' → Rd P g vs.toArray m' A V) (hA : Take A Rs Y) (hg : goFn P g = true)
    (h : AtQ P n ((d, V) :: F) (HW w0 m Rs) ops Qq rest) : AtQ P n F (HW w0 m Rs) ops Qq (⟨some d, .call ⟨.value (.func g), xs.toArray, ts⟩, ty, pos, aft, none⟩ :: rest) := AtQ.callr hg hx hd hc hA h
theorem AtM1.cr {X : List Res} {l : List Oper} {f : Nat} {s : Array Bool} {p : Plan} {d : Nat} {g : FuncId} {xs : List Operand} {ts : Array TypeId} {ty : TypeId} {pos : String} {aft : Array Edge} {vs : List Value} {V : Value} {A Y : List Res}
    (hx : evs F xs = some vs) (hd : Nat.blt d n = true) (hc : ∀ m', m.le m' → Rd P g vs.toArray m' A V) (hA : Take A Rs Y) (hg : goFn P g = true)
    (h : AtM P n w0 ((d, V) :: F) m Rs X K l f s p) : AtM1 P n w0 F m Rs X K l f s p ⟨some d, .call ⟨.value (.func g), xs.toArray, ts⟩, ty, pos, aft, none⟩ := AtM1.callr hg hx hd hc hA h
theorem At.apW {α : Type} [Inhabited α] {f : α → List Value} {sz : Nat} {E : TypeId} {p : Option Addr} {c : Nat} {l : List α} {Rs' : List Res} {ops : Array Oper} {rest : List Oper} {d : Nat} {x y : Operand} {t tx e2 : TypeId} {ty : TypeId} {pos : String} {aft : Array Edge} {ln : Nat} {p2 : Option Addr} {ln2 c2 : Nat} {l2 : List α}
    (hx : ev F x = some (.slice p ln c)) (hy : ev F y = some (.slice p2 ln2 c2)) (hp : Pick Rs (.own f sz E p c l) Rs') (hf : Fl f sz) (h2 : Rdb (HW w0 m Rs) f sz p2 c2 l2 ∧ ln2 = l2.length) (ht : P.underlying t = some (.slice E)) (ht2 : P.underlying tx = some (.slice e2)) (he : elemB P E sz = true)
    (hln : ln = l.length) (hsm : l.length + l2.length ≤ 34359738368) (hd : Nat.blt d n = true)
    (h : ∀ p' c', At n w0 ((d, .slice p' (l ++ l2).length c') :: F) m (.own f sz E p' c' (l ++ l2) :: Rs') (wpList P ops Q rest)) :
    At n w0 F m Rs (wpList P ops Q (⟨some d, .call ⟨.builtin .append, #[x, y], #[t, tx]⟩, ty, pos, aft, none⟩ :: rest)) := At.appendW hx hy hp hf h2.1 h2.2 ht ht2 he hln hsm hd h
theorem zrdl {α : Type} [Inhabited α] {f : α → List Value} {sz : Nat} {C : World → Prop} {p2 : Option Addr} {c2 ln2 : Nat} {l2 : List α} (h : Rdb C f sz p2 c2 l2 ∧ ln2 = l2.length := by first | exact ⟨own_rdb inferInstance (by repeat constructor), zlq⟩ | exact ⟨Sl.rdb zsla, zlq⟩ | exact ⟨Rdb.sub (own_rdb inferInstance (by repeat constructor)) _ _ zom zom, zlq⟩ | exact ⟨Rdb.sub (Sl.rdb zsla) _ _ zom zom, zlq⟩ | exact ⟨Rdb.subl (own_rdb inferInstance (by repeat constructor)) _ zom, zlq⟩ | exact ⟨Rdb.subl (Sl.rdb zsla) _ zom, zlq⟩ | exact ⟨Rdb.subh (own_rdb inferInstance (by repeat constructor)) _ zom, zlq⟩ | exact ⟨Rdb.subh (Sl.rdb zsla) _ zom, zlq⟩ | fail) : Rdb C f sz p2 c2 l2 ∧ ln2 = l2.length := h
end
end Go.J
set_option maxHeartbeats 4000000
namespace Go.Proofs.YtkoijdmlehkhbaaGreatDoor
open Go Go.J
attribute [local irreducible] At AtQ AtM AtM1 PR Ct Pu Rd Res.blk Res.own Res.ex RVs RV
namespace Ls
abbrev fI : Int → List Value := fun x => [.int .i64 x]
instance : Fl fI 1 := ⟨fun _ => rfl, fun _ v h => by simp at h; subst h; rfl, by decide⟩
abbrev fS : List UInt8 → List Value := fun x => [.string (str x)]
instance : Fl fS 1 := ⟨fun _ => rfl, fun _ v h => by simp at h; subst h; rfl, by decide⟩
abbrev fO : Bool → List Value := fun x => [.bool x]
instance : Fl fO 1 := ⟨fun _ => rfl, fun _ v h => by simp at h; subst h; rfl, by decide⟩
abbrev fH : Nat → List Value := fun x => [.int .u16 (x : Int)]
instance : Fl fH 1 := ⟨fun _ => rfl, fun _ v h => by simp at h; subst h; rfl, by decide⟩
/-- a slice that stands in a slice -/
structure SX (α : Type) where
  (l : List α) (p : Option Addr) (c : Nat)
instance {α : Type} : Inhabited (SX α) := ⟨⟨[], none, 0⟩⟩
abbrev fX {α : Type} : SX α → List Value := fun x => [.slice x.p x.l.length x.c]
instance {α : Type} : Fl (fX (α := α)) 1 := ⟨fun _ => rfl, fun _ v h => by simp at h; subst h; rfl, by decide⟩
theorem ext! {α : Type} [Inhabited α] {a b : List α} (hl : a.length = b.length) (h : ∀ i, i < a.length → a[i]! = b[i]!) : a = b :=
  List.ext_getElem hl fun i h1 h2 => by have := h i h1; rwa [getElem!_pos a i h1, getElem!_pos b i h2] at this
theorem take_snoc {α : Type} [Inhabited α] {l : List α} {i : Nat} (h : i < l.length) : l.take (i + 1) = l.take i ++ [l[i]!] := by
  rw [getElem!_pos l i h, List.take_succ_eq_append_getElem h]
theorem mem! {α : Type} [Inhabited α] {l : List α} {i : Nat} (h : i < l.length) : l[i]! ∈ l := by
  rw [getElem!_pos l i h]; exact List.getElem_mem h
end Ls
end Go.Proofs.YtkoijdmlehkhbaaGreatDoor
namespace Go.Proofs.YtkoijdmlehkhbaaGreatDoor
namespace So
section
variable {α : Type} [Inhabited α]
theorem set_get (l : List α) (i k : Nat) (x : α) (hi : i < l.length) : (l.set i x)[k]! = if i = k then x else l[k]! := by
  rw [List.getElem!_eq_getElem?_getD, List.getElem!_eq_getElem?_getD, List.getElem?_set]
  by_cases h : i = k
  · rw [if_pos h, if_pos h, if_pos (h ▸ hi)]; rfl
  · rw [if_neg h, if_neg h]
def swp (l : List α) (i j : Nat) : List α := (l.set i l[j]!).set j l[i]!
theorem swp_len (l : List α) (i j : Nat) : (swp l i j).length = l.length := by unfold swp; rw [List.length_set, List.length_set]
theorem swp_get {l : List α} {i j : Nat} (hi : i < l.length) (hj : j < l.length) (k : Nat) : (swp l i j)[k]! = if k = j then l[i]! else if k = i then l[j]! else l[k]! := by
  unfold swp
  rw [set_get _ _ _ _ (by rw [List.length_set]; exact hj), set_get _ _ _ _ hi]
  by_cases h1 : j = k
  · rw [if_pos h1, if_pos h1.symm]
  · rw [if_neg h1, if_neg (show ¬ k = j from fun e => h1 e.symm)]
    by_cases h2 : i = k
    · rw [if_pos h2, if_pos h2.symm]
    · rw [if_neg h2, if_neg (show ¬ k = i from fun e => h2 e.symm)]
theorem swp_perm {l : List α} {i j : Nat} (hi : i < l.length) (hj : j < l.length) : (swp l i j).Perm l := by
  unfold swp
  rw [getElem!_pos l i hi, getElem!_pos l j hj]
  exact List.set_set_perm hi hj
/-- two ranges swapped -/
def sw {β : Type} (a b n : Nat) (f : Nat → β) (k : Nat) : β := if a ≤ k ∧ k < a + n then f (k - a + b) else if b ≤ k ∧ k < b + n then f (k - b + a) else f k
theorem sw_zero {β : Type} (a b : Nat) (f : Nat → β) (k : Nat) : sw a b 0 f k = f k := by
  unfold sw
  repeat' split
  all_goals first | omega | (congr 1 <;> omega)
theorem sw_step {β : Type} {a b i : Nat} (f : Nat → β) (h : a + i < b) (k : Nat) : sw a b (i + 1) f k = if k = b + i then sw a b i f (a + i) else if k = a + i then sw a b i f (b + i) else sw a b i f k := by
  unfold sw
  repeat' split
  all_goals first | omega | (congr 1 <;> omega)
/-- two ranges side by side, turned round -/
def rot {β : Type} (a m b : Nat) (f : Nat → β) (k : Nat) : β := if a ≤ k ∧ k < b then (if k < a + (b - m) then f (k - a + m) else f (k - (b - m))) else f k
theorem rot_same {β : Type} {a m b : Nat} (f : Nat → β) (h1 : a ≤ m) (h2 : m ≤ b) (h : a = m ∨ m = b) (k : Nat) : rot a m b f k = f k := by
  unfold rot
  repeat' split
  all_goals first | omega | (congr 1 <;> omega)
theorem rot_end {β : Type} {m i : Nat} (f : Nat → β) (h : i ≤ m) (k : Nat) : rot (m - i) m (m + i) f k = sw (m - i) m i f k := by
  unfold rot sw
  repeat' split
  all_goals first | omega | (congr 1 <;> omega)
theorem rot_left {β : Type} {m i j : Nat} (f : Nat → β) (h : i ≤ m) (hj : j < i) (k : Nat) : rot (m - (i - j)) m (m + j) (sw (m - i) m j f) k = rot (m - i) m (m + j) f k := by
  unfold rot sw
  repeat' split
  all_goals first | omega | (congr 1 <;> omega)
theorem rot_right {β : Type} {m i j : Nat} (f : Nat → β) (h : i ≤ m) (hj : i < j) (k : Nat) : rot (m - i) m (m + (j - i)) (sw (m - i) (m + j - i) i f) k = rot (m - i) m (m + j) f k := by
  unfold rot sw
  repeat' split
  all_goals first | omega | (congr 1 <;> omega)
/-- only what lies in a range is moved, and within it -/
structure Mv (a b : Nat) (l L : List α) : Prop where
  len : L.length = l.length
  perm : L.Perm l
  out : ∀ k, k < a ∨ b ≤ k → L[k]! = l[k]!
  ins : ∀ k, a ≤ k → k < b → ∃ j, a ≤ j ∧ j < b ∧ L[k]! = l[j]!
theorem Mv.refl (a b : Nat) (l : List α) : Mv a b l l := ⟨rfl, List.Perm.refl _, fun _ _ => rfl, fun k h1 h2 => ⟨k, h1, h2, rfl⟩⟩
theorem Mv.trans {a b : Nat} {l L M : List α} (h : Mv a b l L) (g : Mv a b L M) : Mv a b l M :=
  ⟨g.len.trans h.len, g.perm.trans h.perm, fun k hk => (g.out k hk).trans (h.out k hk), fun k h1 h2 => by
    obtain ⟨j, j1, j2, e⟩ := g.ins k h1 h2
    obtain ⟨i, i1, i2, e2⟩ := h.ins j j1 j2
    exact ⟨i, i1, i2, e.trans e2⟩⟩
theorem Mv.wide {a b a' b' : Nat} {l L : List α} (h : Mv a b l L) (h1 : a' ≤ a) (h2 : b ≤ b') : Mv a' b' l L :=
  ⟨h.len, h.perm, fun k hk => h.out k (by omega), fun k k1 k2 => by
    by_cases hk : a ≤ k ∧ k < b
    · obtain ⟨j, j1, j2, e⟩ := h.ins k hk.1 hk.2
      exact ⟨j, by omega, by omega, e⟩
    · exact ⟨k, k1, k2, h.out k (by omega)⟩⟩
theorem Mv.swp {l : List α} {i j a b : Nat} (hi : a ≤ i ∧ i < b) (hj : a ≤ j ∧ j < b) (hb : b ≤ l.length) : Mv a b l (swp l i j) :=
  ⟨swp_len l i j, swp_perm (by omega) (by omega), fun k hk => by rw [swp_get (by omega) (by omega), if_neg (by omega), if_neg (by omega)], fun k k1 k2 => by
    rw [swp_get (by omega) (by omega)]
    by_cases h1 : k = j
    · rw [if_pos h1]; exact ⟨i, hi.1, hi.2, rfl⟩
    · rw [if_neg h1]
      by_cases h2 : k = i
      · rw [if_pos h2]; exact ⟨j, hj.1, hj.2, rfl⟩
      · rw [if_neg h2]; exact ⟨k, k1, k2, rfl⟩⟩
theorem Mv.rot {l L : List α} {a m b : Nat} (h1 : a ≤ m) (h2 : m ≤ b) (hl : L.length = l.length) (hp : L.Perm l) (h : ∀ k, L[k]! = rot a m b (fun k => l[k]!) k) : Mv a b l L :=
  ⟨hl, hp, fun k hk => by rw [h]; unfold So.rot; rw [if_neg (by omega)], fun k k1 k2 => by
    rw [h]
    unfold So.rot
    rw [if_pos ⟨k1, k2⟩]
    by_cases h3 : k < a + (b - m)
    · rw [if_pos h3]; exact ⟨k - a + m, by omega, by omega, rfl⟩
    · rw [if_neg h3]; exact ⟨k - (b - m), by omega, by omega, rfl⟩⟩
variable (κ : α → Int)
/-- sorted from a to b -/
def Srt (a b : Nat) (l : List α) : Prop := ∀ i j, a ≤ i → i < j → j < b → κ l[i]! ≤ κ l[j]!
theorem Srt.le {κ : α → Int} {a b : Nat} {l : List α} (h : Srt κ a b l) {i j : Nat} (h1 : a ≤ i) (h2 : i ≤ j) (h3 : j < b) : κ l[i]! ≤ κ l[j]! := by
  rcases Nat.eq_or_lt_of_le h2 with rfl | h2
  · exact Int.le_refl _
  · exact h i j h1 h2 h3
/-- what putting two sorted rows together comes to -/
def Mg (a k b : Nat) (l L : List α) : Prop := Mv a b l L ∧ (Srt κ a k l → Srt κ k b l → Srt κ a b L)
theorem Mg.none {a k b : Nat} (l : List α) (h : k ≤ a ∨ b ≤ k) : Mg κ a k b l l :=
  ⟨Mv.refl a b l, fun h1 h2 i j g1 g2 g3 => by
    rcases h with h | h
    · exact h2 i j (by omega) g2 g3
    · exact h1 i j g1 g2 (by omega)⟩
/-- one moved up through what is less -/
def shl {β : Type} (a k : Nat) (f : Nat → β) (q : Nat) : β := if a ≤ q ∧ q < k then f (q + 1) else if q = k then f a else f q
theorem shl_zero {β : Type} (a : Nat) (f : Nat → β) (q : Nat) : shl a a f q = f q := by
  unfold shl
  repeat' split
  all_goals first | omega | (congr 1 <;> omega)
theorem shl_step {β : Type} {a k : Nat} (f : Nat → β) (h : a ≤ k) (q : Nat) : shl a (k + 1) f q = if q = k + 1 then shl a k f k else if q = k then shl a k f (k + 1) else shl a k f q := by
  unfold shl
  repeat' split
  all_goals first | omega | (congr 1 <;> omega)
theorem shl_srt {κ : α → Int} {a i b : Nat} {l L : List α} (hi : a < i) (hib : i ≤ b) (h : ∀ q, L[q]! = shl a (i - 1) (fun q => l[q]!) q) (hs : Srt κ (a + 1) b l) (h1 : a + 1 < i → κ l[i - 1]! < κ l[a]!) (h2 : i < b → κ l[a]! ≤ κ l[i]!) : Srt κ a b L := by
  intro x y g1 g2 g3
  rw [h, h]
  unfold shl
  dsimp only
  by_cases c1 : a ≤ x ∧ x < i - 1
  · rw [if_pos c1]
    by_cases c2 : a ≤ y ∧ y < i - 1
    · rw [if_pos c2]; exact hs.le (by omega) (by omega) (by omega)
    · rw [if_neg c2]
      by_cases c3 : y = i - 1
      · rw [if_pos c3]
        have := hs.le (i := x + 1) (j := i - 1) (by omega) (by omega) (by omega)
        have := h1 (by omega)
        omega
      · rw [if_neg c3]; exact hs.le (by omega) (by omega) (by omega)
  · rw [if_neg c1]
    by_cases c3 : x = i - 1
    · rw [if_pos c3, if_neg (by omega), if_neg (by omega)]
      have := h2 (by omega)
      have := hs.le (i := i) (j := y) (by omega) (by omega) (by omega)
      omega
    · rw [if_neg c3, if_neg (by omega), if_neg (by omega)]
      exact hs.le (by omega) (by omega) (by omega)
/-- one moved down through what is greater -/
def shr {β : Type} (k m : Nat) (f : Nat → β) (q : Nat) : β := if q = k then f m else if k < q ∧ q ≤ m then f (q - 1) else f q
theorem shr_zero {β : Type} (m : Nat) (f : Nat → β) (q : Nat) : shr m m f q = f q := by
  unfold shr
  repeat' split
  all_goals first | omega | (congr 1 <;> omega)
theorem shr_step {β : Type} {k m : Nat} (f : Nat → β) (h : k + 1 ≤ m) (q : Nat) : shr k m f q = if q = k then shr (k + 1) m f (k + 1) else if q = k + 1 then shr (k + 1) m f k else shr (k + 1) m f q := by
  unfold shr
  repeat' split
  all_goals first | omega | (congr 1 <;> omega)
theorem shr_srt {κ : α → Int} {a i m : Nat} {l L : List α} (hi : a ≤ i) (hib : i ≤ m) (h : ∀ q, L[q]! = shr i m (fun q => l[q]!) q) (hs : Srt κ a m l) (h1 : a < i → κ l[i - 1]! ≤ κ l[m]!) (h2 : i < m → κ l[m]! < κ l[i]!) : Srt κ a (m + 1) L := by
  intro x y g1 g2 g3
  rw [h, h]
  unfold shr
  dsimp only
  by_cases c1 : x = i
  · rw [if_pos c1, if_neg (by omega), if_pos (by omega)]
    have := h2 (by omega)
    have := hs.le (i := i) (j := y - 1) (by omega) (by omega) (by omega)
    omega
  · rw [if_neg c1]
    by_cases c2 : i < x ∧ x ≤ m
    · rw [if_pos c2, if_neg (by omega), if_pos (by omega)]
      exact hs.le (by omega) (by omega) (by omega)
    · rw [if_neg c2]
      by_cases c3 : y = i
      · rw [if_pos c3]
        have := h1 (by omega)
        have := hs.le (i := x) (j := i - 1) (by omega) (by omega) (by omega)
        omega
      · rw [if_neg c3]
        by_cases c4 : i < y ∧ y ≤ m
        · rw [if_pos c4]; exact hs.le (by omega) (by omega) (by omega)
        · rw [if_neg c4]; exact hs.le (by omega) (by omega) (by omega)
/-- turned round at a place that parts both rows, and both halves put together -/
theorem sym_fin {κ : α → Int} {a k b x s e : Nat} {l l1 l2 l3 : List α} (ha : a < x) (hxb : x < b) (g1 : a ≤ s) (g2 : s ≤ k) (g3 : k ≤ e) (g4 : e ≤ b) (he : s + e = x + k) (gs : s ≤ x)
    (h1 : a < s → e < b → κ l[s - 1]! ≤ κ l[e]!) (h2 : k < e → s < k → κ l[e - 1]! ≤ κ l[s]!)
    (m1 : Mv s e l l1) (r1 : ∀ q, l1[q]! = rot s k e (fun q => l[q]!) q) (m2 : Mg κ a s x l1 l2) (m3 : Mg κ x e b l2 l3) : Mg κ a k b l l3 := by
  refine ⟨((m1.wide g1 g4).trans (m2.1.wide (Nat.le_refl _) (Nat.le_of_lt hxb))).trans (m3.1.wide (Nat.le_of_lt ha) (Nat.le_refl _)), fun sa sb => ?_⟩
  have lo : ∀ q, q < s → l1[q]! = l[q]! := fun q hq => m1.out q (.inl hq)
  have hi : ∀ q, e ≤ q → l1[q]! = l[q]! := fun q hq => m1.out q (.inr hq)
  have ml : ∀ q, s ≤ q → q < x → l1[q]! = l[q - s + k]! := fun q q1 q2 => by rw [r1]; unfold rot; rw [if_pos (by omega), if_pos (by omega)]
  have mh : ∀ q, x ≤ q → q < e → l1[q]! = l[q - (e - k)]! := fun q q1 q2 => by rw [r1]; unfold rot; rw [if_pos (by omega), if_neg (by omega)]
  have s2 : Srt κ a x l2 := m2.2 (fun i j i1 i2 i3 => by rw [lo i (by omega), lo j i3]; exact sa i j i1 i2 (by omega)) (fun i j i1 i2 i3 => by rw [ml i i1 (by omega), ml j (by omega) i3]; exact sb _ _ (by omega) (by omega) (by omega))
  have o2 : ∀ q, x ≤ q → l2[q]! = l1[q]! := fun q hq => m2.1.out q (.inr hq)
  have s3 : Srt κ x b l3 := m3.2 (fun i j i1 i2 i3 => by rw [o2 i i1, o2 j (by omega), mh i i1 (by omega), mh j (by omega) i3]; exact sa _ _ (by omega) (by omega) (by omega)) (fun i j i1 i2 i3 => by rw [o2 i (by omega), o2 j (by omega), hi i i1, hi j (by omega)]; exact sb _ _ (by omega) i2 i3)
  have cross : ∀ i j, a ≤ i → i < x → x ≤ j → j < b → κ l1[i]! ≤ κ l1[j]! := fun i j i1 i2 j1 j2 => by
    by_cases ci : i < s
    · rw [lo i ci]
      by_cases cj : j < e
      · rw [mh j j1 cj]; exact sa _ _ i1 (by omega) (by omega)
      · rw [hi j (by omega)]
        have p1 := sa.le (i := i) (j := s - 1) i1 (by omega) (by omega)
        have p2 := h1 (by omega) (by omega)
        have p3 := sb.le (i := e) (j := j) (by omega) (by omega) j2
        omega
    · rw [ml i (by omega) i2]
      by_cases cj : j < e
      · rw [mh j j1 cj]
        have p1 := sb.le (i := i - s + k) (j := e - 1) (by omega) (by omega) (by omega)
        have p2 := h2 (by omega) (by omega)
        have p3 := sa.le (i := s) (j := j - (e - k)) (by omega) (by omega) (by omega)
        omega
      · rw [hi j (by omega)]; exact sb.le (by omega) (by omega) j2
  intro i j i1 i2 i3
  by_cases ci : i < x
  · rw [m3.1.out i (.inl ci)]
    by_cases cj : j < x
    · rw [m3.1.out j (.inl cj)]; exact s2 i j i1 i2 cj
    · obtain ⟨u, u1, u2, eu⟩ := m2.1.ins i i1 ci
      obtain ⟨v, v1, v2, ev⟩ := m3.1.ins j (by omega) i3
      rw [eu, ev, o2 v v1]
      exact cross u v u1 u2 v1 v2
  · exact s3 i j (by omega) i2 i3
/-- blocks of so many are sorted -/
def Blk (w : Nat) (l : List α) : Prop := ∀ i j, i < j → j < l.length → i / w = j / w → κ l[i]! ≤ κ l[j]!
/-- blocks of twice as many, up to a place; of so many from there on -/
def Two (a w : Nat) (l : List α) : Prop := (∀ i j, i < j → j < a → i / (2 * w) = j / (2 * w) → κ l[i]! ≤ κ l[j]!) ∧ (∀ i j, a ≤ i → i < j → j < l.length → i / w = j / w → κ l[i]! ≤ κ l[j]!)
end
end So
end Go.Proofs.YtkoijdmlehkhbaaGreatDoor
namespace Go.Proofs.YtkoijdmlehkhbaaGreatDoor
open Go Go.J
attribute [local irreducible] At AtQ AtM AtM1 PR Ct Pu Rd Res.blk Res.own Res.ex RVs RV
namespace Wide
abbrev wd (x : Nat) : List Value := [.int .u64 ((x / 18446744073709551616 : Nat) : Int), .int .u64 ((x % 18446744073709551616 : Nat) : Int)]
abbrev wv (x : Nat) : Value := .agg (wd x).toArray
instance : Fl wd 2 := ⟨fun _ => rfl, fun x v h => by simp at h; rcases h with rfl | rfl <;> rfl, by decide⟩
def sV (x : Nat) : Nat := if x < 340282366920938463463374607431768211456 then x else 0
def sE (x : Nat) : Int := if x < 340282366920938463463374607431768211456 then 0 else 1
theorem sV_lt (x : Nat) : sV x < 340282366920938463463374607431768211456 := by unfold sV; split <;> omega
theorem wd_mk {x : Nat} {h l : Int} (hh : h = ((x / 18446744073709551616 : Nat) : Int)) (hl : l = ((x % 18446744073709551616 : Nat) : Int)) : Value.agg #[.int .u64 h, .int .u64 l] = wv x := by subst hh hl; rfl
theorem add64 {n : Nat} {F : Fr} {C : World → Prop} {x y z : Operand} {ts : Array TypeId} {a b c : Int} (hx : ev F x = some (.int .u64 a)) (hy : ev F y = some (.int .u64 b)) (hz : ev F z = some (.int .u64 c)) (h0 : 0 ≤ a) (h1 : 0 ≤ b) (h2 : 0 ≤ c) (h3 : c ≤ 1) :
    PR Tryz.prog n F C (.call ⟨.value (.func 142), #[x, y, z], ts⟩) (.tuple #[.int .u64 ((a + b + c) % 18446744073709551616), .int .u64 ((a + b + c) / 18446744073709551616)]) :=
  pr_extern (xs := [x, y, z]) (vs := [.int .u64 a, .int .u64 b, .int .u64 c]) (e := add64Entry) Tryz.func142 (by kernel_rfl) (by kernel_rfl) (by kernel_rfl) (by kernel_rfl) (by simp [evs, hx, hy, hz]) fun w => run_add64 a b c h0 h1 h2 h3 w
theorem of_ (x : Nat) (h : x < 18446744073709551616) : Pu Tryz.prog 75 #[.int .u64 (x : Int)] (wv x) := Pu.intro fun m => by
  refine Ct.enterV (by rfl) Tryz.func75 rfl Tryz.ntmps75 rfl (fun w0 Rest => ?_)
  (repeat' (first | refine zss ?_ | ((first | (with_reducible first | apply At.val | apply AtQ.val)); (exact zprA); exact rfl) | refine zs0 ?_ | ((with_reducible apply At.alloc (d := 2)); exact rfl; exact rfl; intro b2) | (refine zsp ?_ ?_ <;> (intro hc; (try simp only [zhcs, reduceCtorEq] at hc); (try (exfalso; first | contradiction | omega | exact absurd rfl hc | exact absurd (by decide) hc))))))
  all_goals ((with_reducible apply At.retV (B := [])); exact rfl; (repeat' (first | exact RVs.nil | (with_reducible apply RVs.cons) | exact rv_tmp (by rfl) | exact rv_cellN (by rfl) (by repeat constructor) (by rfl) (by rfl) (by rfl) | exact rv_cell1 (by rfl) (by repeat constructor) (by rfl) (by rfl) | exact rv_cellA (by rfl) (by repeat constructor) (by rfl) (by rfl) zlq)); exact zml; exact zkp; exact ⟨wd_mk (by omega) (by omega), rfl, rfl⟩)
theorem ofI (x : Int) (h0 : 0 ≤ x) (h : x < 18446744073709551616) : Pu Tryz.prog 75 #[.int .u64 x] (wv x.toNat) := by
  have := of_ x.toNat (by omega)
  rwa [Int.toNat_of_nonneg h0] at this
theorem sure0 (a b o : Int) (ho : o = 0) : Pu Tryz.prog 143 #[.agg #[.int .u64 a, .int .u64 b], .int .u64 o] (.tuple #[.agg #[.int .u64 a, .int .u64 b], .int .i64 0]) := Pu.intro fun m => by
  refine Ct.enterV (by rfl) Tryz.func143 rfl Tryz.ntmps143 rfl (fun w0 Rest => ?_)
  (repeat' (first | refine zss ?_ | ((first | (with_reducible first | apply At.val | apply AtQ.val)); (exact zprA); exact rfl) | refine zs0 ?_ | ((with_reducible apply At.box (d := 2)); exact rfl; exact rfl; exact rfl; intro b2) | ((with_reducible apply At.alloc (d := 4)); exact rfl; exact rfl; intro b4) | (refine zsp ?_ ?_ <;> (intro hc; (try simp only [zhcs, reduceCtorEq] at hc); (try (exfalso; first | omega | contradiction | omega | exact absurd rfl hc | exact absurd (by decide) hc))))))
  all_goals ((with_reducible apply At.retV (B := [])); exact rfl; (repeat' (first | exact RVs.nil | (with_reducible apply RVs.cons) | exact rv_tmp (by rfl) | exact rv_cellN (by rfl) (by repeat constructor) (by rfl) (by rfl) (by rfl) | exact rv_cell1 (by rfl) (by repeat constructor) (by rfl) (by rfl) | exact rv_cellA (by rfl) (by repeat constructor) (by rfl) (by rfl) zlq)); exact zml; exact zkp; exact ⟨rfl, rfl, rfl⟩)
theorem sure1 (a b o : Int) (ho : o ≠ 0) : Pu Tryz.prog 143 #[.agg #[.int .u64 a, .int .u64 b], .int .u64 o] (.tuple #[wv 0, .int .i64 1]) := Pu.intro fun m => by
  refine Ct.enterV (by rfl) Tryz.func143 rfl Tryz.ntmps143 rfl (fun w0 Rest => ?_)
  (repeat' (first | refine zss ?_ | ((first | (with_reducible first | apply At.val | apply AtQ.val)); (exact zprA); exact rfl) | refine zs0 ?_ | ((with_reducible apply At.box (d := 2)); exact rfl; exact rfl; exact rfl; intro b2) | ((with_reducible apply At.alloc (d := 4)); exact rfl; exact rfl; intro b4) | (refine zsp ?_ ?_ <;> (intro hc; (try simp only [zhcs, reduceCtorEq] at hc); (try (exfalso; first | omega | contradiction | omega | exact absurd rfl hc | exact absurd (by decide) hc))))))
  all_goals ((with_reducible apply At.retV (B := [])); exact rfl; (repeat' (first | exact RVs.nil | (with_reducible apply RVs.cons) | exact rv_tmp (by rfl) | exact rv_cellN (by rfl) (by repeat constructor) (by rfl) (by rfl) (by rfl) | exact rv_cell1 (by rfl) (by repeat constructor) (by rfl) (by rfl) | exact rv_cellA (by rfl) (by repeat constructor) (by rfl) (by rfl) zlq)); exact zml; exact zkp; exact ⟨rfl, rfl, rfl⟩)
theorem add (x y : Nat) (hx : x < 340282366920938463463374607431768211456) (hy : y < 340282366920938463463374607431768211456) : Pu Tryz.prog 197 #[wv x, wv y] (.tuple #[wv (sV (x + y)), .int .i64 (sE (x + y))]) := Pu.intro fun m => by
  by_cases h : x + y < 340282366920938463463374607431768211456
  · have e1 : sV (x + y) = x + y := if_pos h
    have e2 : sE (x + y) = 0 := if_pos h
    rw [e1, e2]
    refine Ct.enterV (by rfl) Tryz.func197 rfl Tryz.ntmps197 rfl (fun w0 Rest => ?_)
    (repeat' (first | refine zss ?_ | ((first | (with_reducible first | apply At.val | apply AtQ.val)); (first | exact add64 (by rfl) (by rfl) (by rfl) (by omega) (by omega) (by omega) (by omega) | exact zprA); exact rfl) | refine zs0 ?_ | ((with_reducible first | apply AtM1.callp | apply AtQ.callp | apply At.callp); kernel_rfl; exact rfl; exact rfl; exact sure0 _ _ _ (by omega)) | ((with_reducible apply At.box (d := 2)); exact rfl; exact rfl; exact rfl; intro b2) | ((with_reducible apply At.box (d := 3)); exact rfl; exact rfl; exact rfl; intro b3) | ((with_reducible apply At.alloc (d := 4)); exact rfl; exact rfl; intro b4) | (refine zsp ?_ ?_ <;> (intro hc; (try simp only [zhcs, reduceCtorEq] at hc); (try (exfalso; first | contradiction | omega | exact absurd rfl hc | exact absurd (by decide) hc))))))
    all_goals ((with_reducible apply At.retV (B := [])); exact rfl; (repeat' (first | exact RVs.nil | (with_reducible apply RVs.cons) | exact rv_tmp (by rfl) | exact rv_cellN (by rfl) (by repeat constructor) (by rfl) (by rfl) (by rfl) | exact rv_cell1 (by rfl) (by repeat constructor) (by rfl) (by rfl) | exact rv_cellA (by rfl) (by repeat constructor) (by rfl) (by rfl) zlq)); exact zml; exact zkp; exact ⟨congrArg (fun v => Value.tuple #[v, .int .i64 0]) (wd_mk (by omega) (by omega)), rfl, rfl⟩)
  · have e1 : sV (x + y) = 0 := if_neg h
    have e2 : sE (x + y) = 1 := if_neg h
    rw [e1, e2]
    refine Ct.enterV (by rfl) Tryz.func197 rfl Tryz.ntmps197 rfl (fun w0 Rest => ?_)
    (repeat' (first | refine zss ?_ | ((first | (with_reducible first | apply At.val | apply AtQ.val)); (first | exact add64 (by rfl) (by rfl) (by rfl) (by omega) (by omega) (by omega) (by omega) | exact zprA); exact rfl) | refine zs0 ?_ | ((with_reducible first | apply AtM1.callp | apply AtQ.callp | apply At.callp); kernel_rfl; exact rfl; exact rfl; exact sure1 _ _ _ (by omega)) | ((with_reducible apply At.box (d := 2)); exact rfl; exact rfl; exact rfl; intro b2) | ((with_reducible apply At.box (d := 3)); exact rfl; exact rfl; exact rfl; intro b3) | ((with_reducible apply At.alloc (d := 4)); exact rfl; exact rfl; intro b4) | (refine zsp ?_ ?_ <;> (intro hc; (try simp only [zhcs, reduceCtorEq] at hc); (try (exfalso; first | contradiction | omega | exact absurd rfl hc | exact absurd (by decide) hc))))))
    all_goals ((with_reducible apply At.retV (B := [])); exact rfl; (repeat' (first | exact RVs.nil | (with_reducible apply RVs.cons) | exact rv_tmp (by rfl) | exact rv_cellN (by rfl) (by repeat constructor) (by rfl) (by rfl) (by rfl) | exact rv_cell1 (by rfl) (by repeat constructor) (by rfl) (by rfl) | exact rv_cellA (by rfl) (by repeat constructor) (by rfl) (by rfl) zlq)); exact zml; exact zkp; exact ⟨rfl, rfl, rfl⟩)
theorem less (x y : Nat) : Pu Tryz.prog 44 #[wv x, wv y] (.bool (decide (x < y))) := Pu.intro fun m => by
  by_cases h : x < y
  · rw [decide_eq_true h]
    refine Ct.enterV (by rfl) Tryz.func44 rfl Tryz.ntmps44 rfl (fun w0 Rest => ?_)
    (repeat' (first | refine zss ?_ | ((first | (with_reducible first | apply At.val | apply AtQ.val)); (exact zprA); exact rfl) | refine zs0 ?_ | ((with_reducible apply At.box (d := 2)); exact rfl; exact rfl; exact rfl; intro b2) | ((with_reducible apply At.box (d := 3)); exact rfl; exact rfl; exact rfl; intro b3) | (refine zsp ?_ ?_ <;> (intro hc; (try simp only [zhcs, reduceCtorEq] at hc); (try (exfalso; first | omega | contradiction | omega | exact absurd rfl hc | exact absurd (by decide) hc))))))
    all_goals ((with_reducible apply At.retB1 (B := [])); exact rfl; exact rfl; exact zml; exact zkp; exact ⟨by first | rfl | exact congrArg Value.bool (decide_eq_true (by omega)) | exact congrArg Value.bool (decide_eq_false (by omega)), rfl, rfl⟩)
  · rw [decide_eq_false h]
    refine Ct.enterV (by rfl) Tryz.func44 rfl Tryz.ntmps44 rfl (fun w0 Rest => ?_)
    (repeat' (first | refine zss ?_ | ((first | (with_reducible first | apply At.val | apply AtQ.val)); (exact zprA); exact rfl) | refine zs0 ?_ | ((with_reducible apply At.box (d := 2)); exact rfl; exact rfl; exact rfl; intro b2) | ((with_reducible apply At.box (d := 3)); exact rfl; exact rfl; exact rfl; intro b3) | (refine zsp ?_ ?_ <;> (intro hc; (try simp only [zhcs, reduceCtorEq] at hc); (try (exfalso; first | omega | contradiction | omega | exact absurd rfl hc | exact absurd (by decide) hc))))))
    all_goals ((with_reducible apply At.retB1 (B := [])); exact rfl; exact rfl; exact zml; exact zkp; exact ⟨by first | rfl | exact congrArg Value.bool (decide_eq_true (by omega)) | exact congrArg Value.bool (decide_eq_false (by omega)), rfl, rfl⟩)
theorem mul64 (x y : Int) (hx0 : 0 ≤ x) (hx : x < 18446744073709551616) (hy0 : 0 ≤ y) (hy : y < 18446744073709551616) : Pu Tryz.prog 88 #[.int .u64 x, .int .u64 y] (.tuple #[.int .u64 (x * y / 18446744073709551616), .int .u64 (x * y % 18446744073709551616)]) := Pu.intro fun m => by
  have key := mul64_arith x y hx0 hx hy0 hy
  refine Ct.enterV (by rfl) Tryz.func88 rfl Tryz.ntmps88 rfl (fun w0 Rest => ?_)
  (repeat' (first | refine zss ?_ | ((first | (with_reducible first | apply At.val | apply AtQ.val)); (first | exact pr_and (by rfl) (by rfl) (and_low32 _ (by omega) (by omega)) | exact pr_mul (by rfl) (by rfl) (IntKind.wrap_u64 _) | exact pr_add (by rfl) (by rfl) (IntKind.wrap_u64 _) | exact zprA); exact rfl) | refine zs0 ?_ | (refine zsp ?_ ?_ <;> (intro hc; (try simp only [zhcs, reduceCtorEq] at hc); (try (exfalso; first | contradiction | omega | exact absurd rfl hc | exact absurd (by decide) hc))))))
  all_goals ((with_reducible apply At.retB2 (B := [])); (iterate 3 exact rfl); exact zml; exact zkp; exact ⟨by rw [← key], rfl, rfl⟩)
theorem or_zero {a b : Int} (ha : a = 0) (hb : b = 0) : bits .or .u64 a b = 0 := by subst ha hb; rfl
theorem or_ne {a b : Int} (ha : 0 ≤ a ∧ a < 18446744073709551616) (hb : 0 ≤ b ∧ b < 18446744073709551616) (h : a ≠ 0 ∨ b ≠ 0) : bits .or .u64 a b ≠ 0 := by
  rw [u64_or a b ha.1 ha.2 hb.1 hb.2]
  intro e
  have e0 : a.toNat ||| b.toNat = 0 := by omega
  have e1 : a.toNat = 0 := by
    have := Nat.left_le_or (n := a.toNat) (m := b.toNat)
    omega
  have e2 : b.toNat = 0 := by
    have := Nat.right_le_or (n := a.toNat) (m := b.toNat)
    omega
  omega
theorem times (x k : Nat) (hx : x < 340282366920938463463374607431768211456) (hk : k < 18446744073709551616) : Pu Tryz.prog 90 #[wv x, .int .u64 (k : Int)] (.tuple #[wv (sV (x * k)), .int .i64 (sE (x * k))]) := Pu.intro fun m => by
  obtain ⟨p, hp⟩ : ∃ p : Nat, p = x % 18446744073709551616 * k := ⟨_, rfl⟩
  obtain ⟨q, hq⟩ : ∃ q : Nat, q = x / 18446744073709551616 * k := ⟨_, rfl⟩
  have hxk : x * k = q * 18446744073709551616 + p := by
    rw [hp, hq, Nat.mul_right_comm, ← Nat.add_mul, Nat.mul_comm (x / 18446744073709551616), Nat.div_add_mod]
  have m1 := mul64 ((x % 18446744073709551616 : Nat) : Int) (k : Int) (by omega) (by omega) (by omega) (by omega)
  have m2 := mul64 ((x / 18446744073709551616 : Nat) : Int) (k : Int) (by omega) (by omega) (by omega) (by omega)
  rw [← Int.natCast_mul, ← hp] at m1
  rw [← Int.natCast_mul, ← hq] at m2
  have hpb : p ≤ 18446744073709551615 * 18446744073709551615 := by rw [hp]; exact Nat.mul_le_mul (by omega) (by omega)
  have hqb : q ≤ 18446744073709551615 * 18446744073709551615 := by rw [hq]; exact Nat.mul_le_mul (by omega) (by omega)
  rw [hxk]
  clear hp hq hxk
  by_cases h : q * 18446744073709551616 + p < 340282366920938463463374607431768211456
  · have e1 : sV (q * 18446744073709551616 + p) = q * 18446744073709551616 + p := if_pos h
    have e2 : sE (q * 18446744073709551616 + p) = 0 := if_pos h
    rw [e1, e2]
    refine Ct.enterV (by rfl) Tryz.func90 rfl Tryz.ntmps90 rfl (fun w0 Rest => ?_)
    (repeat' (first | refine zss ?_ | ((first | (with_reducible first | apply At.val | apply AtQ.val)); (first | exact add64 (by rfl) (by rfl) (by rfl) (by omega) (by omega) (by omega) (by omega) | exact pr_or (by rfl) (by rfl) (or_zero (by omega) (by omega)) | exact zprA); exact rfl) | refine zs0 ?_ | ((with_reducible first | apply AtM1.callp | apply AtQ.callp | apply At.callp); kernel_rfl; exact rfl; exact rfl; exact m1) | ((with_reducible first | apply AtM1.callp | apply AtQ.callp | apply At.callp); kernel_rfl; exact rfl; exact rfl; exact m2) | ((with_reducible first | apply AtM1.callp | apply AtQ.callp | apply At.callp); kernel_rfl; exact rfl; exact rfl; exact sure0 _ _ _ (by omega)) | ((with_reducible apply At.box (d := 2)); exact rfl; exact rfl; exact rfl; intro b2) | ((with_reducible apply At.alloc (d := 4)); exact rfl; exact rfl; intro b4) | (refine zsp ?_ ?_ <;> (intro hc; (try simp only [zhcs, reduceCtorEq] at hc); (try (exfalso; first | contradiction | omega | exact absurd rfl hc | exact absurd (by decide) hc))))))
    all_goals ((with_reducible apply At.retV (B := [])); exact rfl; (repeat' (first | exact RVs.nil | (with_reducible apply RVs.cons) | exact rv_tmp (by rfl) | exact rv_cellN (by rfl) (by repeat constructor) (by rfl) (by rfl) (by rfl) | exact rv_cell1 (by rfl) (by repeat constructor) (by rfl) (by rfl) | exact rv_cellA (by rfl) (by repeat constructor) (by rfl) (by rfl) zlq)); exact zml; exact zkp; exact ⟨congrArg (fun v => Value.tuple #[v, .int .i64 0]) (wd_mk (by omega) (by omega)), rfl, rfl⟩)
  · have e1 : sV (q * 18446744073709551616 + p) = 0 := if_neg h
    have e2 : sE (q * 18446744073709551616 + p) = 1 := if_neg h
    rw [e1, e2]
    refine Ct.enterV (by rfl) Tryz.func90 rfl Tryz.ntmps90 rfl (fun w0 Rest => ?_)
    (repeat' (first | refine zss ?_ | ((first | (with_reducible first | apply At.val | apply AtQ.val)); (first | exact add64 (by rfl) (by rfl) (by rfl) (by omega) (by omega) (by omega) (by omega) | exact zprA); exact rfl) | refine zs0 ?_ | ((with_reducible first | apply AtM1.callp | apply AtQ.callp | apply At.callp); kernel_rfl; exact rfl; exact rfl; exact m1) | ((with_reducible first | apply AtM1.callp | apply AtQ.callp | apply At.callp); kernel_rfl; exact rfl; exact rfl; exact m2) | ((with_reducible first | apply AtM1.callp | apply AtQ.callp | apply At.callp); kernel_rfl; exact rfl; exact rfl; exact sure1 _ _ _ (or_ne (by omega) (by omega) (by omega))) | ((with_reducible apply At.box (d := 2)); exact rfl; exact rfl; exact rfl; intro b2) | ((with_reducible apply At.alloc (d := 4)); exact rfl; exact rfl; intro b4) | (refine zsp ?_ ?_ <;> (intro hc; (try simp only [zhcs, reduceCtorEq] at hc); (try (exfalso; first | contradiction | omega | exact absurd rfl hc | exact absurd (by decide) hc))))))
    all_goals ((with_reducible apply At.retV (B := [])); exact rfl; (repeat' (first | exact RVs.nil | (with_reducible apply RVs.cons) | exact rv_tmp (by rfl) | exact rv_cellN (by rfl) (by repeat constructor) (by rfl) (by rfl) (by rfl) | exact rv_cell1 (by rfl) (by repeat constructor) (by rfl) (by rfl) | exact rv_cellA (by rfl) (by repeat constructor) (by rfl) (by rfl) zlq)); exact zml; exact zkp; exact ⟨rfl, rfl, rfl⟩)
structure SS where
  i : Nat
  a : Nat
theorem sum_take {l : List Nat} {i : Nat} (h : i < l.length) : (l.take (i + 1)).sum = (l.take i).sum + l[i]! := by
  have e : l.take (i + 1) = l.take i ++ [l[i]!] := by rw [List.take_add_one, getElem!_pos l i h]; simp [h]
  rw [e, List.sum_append]; simp
theorem sum_le {l : List Nat} (i : Nat) : (l.take i).sum ≤ l.sum := by
  have := congrArg List.sum (List.take_append_drop i l)
  rw [List.sum_append] at this
  omega
theorem sum_ {m : Mem} (p : Option Addr) (c : Nat) (l : List Nat) (hl : l.length ≤ 1000000) (hb : ∀ x ∈ l, x < 340282366920938463463374607431768211456) (sl0 : Sl m wd 2 p c l) :
    Ct Tryz.prog 154 #[.slice p l.length c] m [] (fun v m' B => v = .tuple #[wv (sV l.sum), .int .i64 (sE l.sum)] ∧ m = m' ∧ B = []) := by
  refine Ct.enterV (by rfl) Tryz.func154 rfl Tryz.ntmps154 rfl (fun w0 Rest => ?_)
  (repeat' (first | refine zss ?_ | ((first | (with_reducible first | apply At.val | apply AtQ.val)); (exact zprA); exact rfl) | refine zsM ?_ | ((with_reducible apply At.alloc (d := 2)); exact rfl; exact rfl; intro b2) | ((with_reducible apply At.alloc (d := 4)); exact rfl; exact rfl; intro b4) | ((with_reducible apply At.alloc (d := 6)); exact rfl; exact rfl; intro b6) | ((with_reducible apply At.alloc (d := 7)); exact rfl; exact rfl; intro b7) | (refine zsp ?_ ?_ <;> (intro hc; (try simp only [zhcs, reduceCtorEq] at hc); (try (exfalso; first | contradiction | omega | exact absurd rfl hc | exact absurd (by decide) hc))))))
  (refine At.loopk (σ := SS) [2, 4, 9, 10] (fun s F0 => (11, .int .i64 (s.i : Int)) :: F0) (fun s => m) (fun s => .blk b4 41 (wd s.a) :: .blk b2 41 (wd 0) :: Rest) (fun s => s.i ≤ l.length ∧ s.a = (l.take s.i).sum ∧ s.a < 340282366920938463463374607431768211456) (fun s => l.length - s.i) ⟨0, 0⟩ (by rfl) ?_ zsubs zml zente ?_)
  · exact ⟨Nat.zero_le _, rfl, by decide⟩
  intro s ⟨hi, ha, hlt⟩
  by_cases h : s.i < l.length
  · have hx := hb (l[s.i]!) (by rw [getElem!_pos l s.i h]; exact List.getElem_mem h)
    have hst := sum_take h
    have hle := sum_le (l := l) (s.i + 1)
    by_cases ho : s.a + l[s.i]! < 340282366920938463463374607431768211456
    · have ad := add s.a (l[s.i]!) hlt hx
      rw [show sV (s.a + l[s.i]!) = s.a + l[s.i]! from if_pos ho, show sE (s.a + l[s.i]!) = 0 from if_pos ho] at ad
      (repeat' (first | refine zss ?_ | ((first | (with_reducible first | apply At.val | apply AtQ.val)); (exact zprA); exact rfl) | refine zsM ?_ | ((with_reducible first | apply AtM1.callp | apply AtQ.callp | apply At.callp); kernel_rfl; exact rfl; exact rfl; exact ad) | ((with_reducible apply At.alloc (d := 2)); exact rfl; exact rfl; intro b2) | ((with_reducible apply At.alloc (d := 4)); exact rfl; exact rfl; intro b4) | ((with_reducible apply At.alloc (d := 6)); exact rfl; exact rfl; intro b6) | ((with_reducible apply At.alloc (d := 7)); exact rfl; exact rfl; intro b7) | (refine zsp ?_ ?_ <;> (intro hc; (try simp only [zhcs, reduceCtorEq] at hc); (try (exfalso; first | omega | contradiction | omega | exact absurd rfl hc | exact absurd (by decide) hc))))))
      all_goals ((with_reducible refine At.reachk (⟨s.i + 1, s.a + l[s.i]!⟩) ?_ ?_ ?_ ?_); exact zsubs; exact zml; exact zente; exact ⟨⟨h, by show _ = (l.take (s.i + 1)).sum; rw [hst, ha], ho⟩, by show l.length - (s.i + 1) < l.length - s.i; omega⟩)
    · have ad := add s.a (l[s.i]!) hlt hx
      rw [show sV (s.a + l[s.i]!) = 0 from if_neg ho, show sE (s.a + l[s.i]!) = 1 from if_neg ho] at ad
      rw [show sV l.sum = 0 from if_neg (by omega), show sE l.sum = 1 from if_neg (by omega)]
      (repeat' (first | refine zss ?_ | ((first | (with_reducible first | apply At.val | apply AtQ.val)); (exact zprA); exact rfl) | refine zsM ?_ | ((with_reducible first | apply AtM1.callp | apply AtQ.callp | apply At.callp); kernel_rfl; exact rfl; exact rfl; exact ad) | ((with_reducible apply At.alloc (d := 2)); exact rfl; exact rfl; intro b2) | ((with_reducible apply At.alloc (d := 4)); exact rfl; exact rfl; intro b4) | ((with_reducible apply At.alloc (d := 6)); exact rfl; exact rfl; intro b6) | ((with_reducible apply At.alloc (d := 7)); exact rfl; exact rfl; intro b7) | (refine zsp ?_ ?_ <;> (intro hc; (try simp only [zhcs, reduceCtorEq] at hc); (try (exfalso; first | omega | contradiction | omega | exact absurd rfl hc | exact absurd (by decide) hc))))))
      all_goals ((with_reducible apply At.retV (B := [])); exact rfl; (repeat' (first | exact RVs.nil | (with_reducible apply RVs.cons) | exact rv_tmp (by rfl) | exact rv_cellN (by rfl) (by repeat constructor) (by rfl) (by rfl) (by rfl) | exact rv_cell1 (by rfl) (by repeat constructor) (by rfl) (by rfl) | exact rv_cellA (by rfl) (by repeat constructor) (by rfl) (by rfl) zlq)); exact zml; exact zkp; exact ⟨rfl, rfl, rfl⟩)
  · have hall : s.a = l.sum := by rw [ha, List.take_of_length_le (by omega)]
    rw [show sV l.sum = s.a by rw [← hall]; exact if_pos hlt, show sE l.sum = 0 by rw [← hall]; exact if_pos hlt]
    (repeat' (first | refine zss ?_ | ((first | (with_reducible first | apply At.val | apply AtQ.val)); (exact zprA); exact rfl) | refine zsM ?_ | ((with_reducible apply At.alloc (d := 2)); exact rfl; exact rfl; intro b2) | ((with_reducible apply At.alloc (d := 4)); exact rfl; exact rfl; intro b4) | ((with_reducible apply At.alloc (d := 6)); exact rfl; exact rfl; intro b6) | ((with_reducible apply At.alloc (d := 7)); exact rfl; exact rfl; intro b7) | (refine zsp ?_ ?_ <;> (intro hc; (try simp only [zhcs, reduceCtorEq] at hc); (try (exfalso; first | omega | contradiction | omega | exact absurd rfl hc | exact absurd (by decide) hc))))))
    all_goals ((with_reducible apply At.retV (B := [])); exact rfl; (repeat' (first | exact RVs.nil | (with_reducible apply RVs.cons) | exact rv_tmp (by rfl) | exact rv_cellN (by rfl) (by repeat constructor) (by rfl) (by rfl) (by rfl) | exact rv_cell1 (by rfl) (by repeat constructor) (by rfl) (by rfl) | exact rv_cellA (by rfl) (by repeat constructor) (by rfl) (by rfl) zlq)); exact zml; exact zkp; exact ⟨rfl, rfl, rfl⟩)
end Wide
end Go.Proofs.YtkoijdmlehkhbaaGreatDoor
namespace Go.Proofs.YtkoijdmlehkhbaaGreatDoor
open Go Go.J
attribute [local irreducible] At AtQ AtM AtM1 PR Ct Pu Rd Res.blk Res.own Res.ex RVs RV
namespace Wide
structure AS where
  (i : Nat) (c : Nat)
end Wide
end Go.Proofs.YtkoijdmlehkhbaaGreatDoor
