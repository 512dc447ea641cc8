/- Part 2 of what the law's proof needs: rules of the walk, contracts of functions, plain laws. No condition. -/
import Derived.Test.YtpdleggpmhlagaaDoorRa2Z1
import Derived.Scope
import Derived.Laws.OwnMore
import Derived.Laws.Externs
import Derived.Test.YtpdleggpmhlagaaDoorRows
import Derived.Laws.MathBits
import Derived.Lib.ItoaNum
import Derived.Lib.BitFns
import Derived.Laws.AppendOwn
import Derived.Below
import Derived.Shelf.Strconv.AppendInt10
import Derived.Shelf.Small.Bits
import Derived.Test.YtpdleggpmhlagaaDoorProg
import Derived.Shelf.Spec.BitsCarry
import Derived.Lib.TrailingZeros
import Derived.Shelf.Spec.TrailingZeros
/- Scopes, a 'return' without results, a slice made full, what one owns under a name. -/
set_option linter.unusedSimpArgs false
set_option linter.unusedVariables false
set_option linter.unusedSectionVars false
set_option maxRecDepth 20000
namespace Go.J
open Go

section
variable {P : Program} {n : Nat} {w0 : World} {F : Fr} {m : Mem} {Rs : List Res} {Q : Exit → Act → World → Prop} {K : Act → World → Prop} {C : World → Prop}

theorem At.scope {c : Code} (h : At n w0 F m Rs (c.wp P (Exit.noGoto Q))) : At n w0 F m Rs ((Code.scope c).wp P Q) := fun a w ha hw => wp_scope_straight (h a w ha hw)
theorem At.label {l : Nat} (h : At n w0 F m Rs (Q .normal)) : At n w0 F m Rs ((Code.label l).wp P Q) := fun a w ha hw => wp_label (h a w ha hw)
theorem At.nog_n (h : At n w0 F m Rs (Q .normal)) : At n w0 F m Rs (Exit.noGoto Q .normal) := h
theorem At.nog_r (h : At n w0 F m Rs (Q .ret)) : At n w0 F m Rs (Exit.noGoto Q .ret) := h
theorem At.nog_e {id : Nat} (h : At n w0 F m Rs (Q (.exit id))) : At n w0 F m Rs (Exit.noGoto Q (.exit id)) := h
theorem At.retR0 {fn : Func} {R : Value → Mem → List Res → Prop} {m0 : Mem} {Rest B : List Res} (hr : fn.results = #[]) (hm : m0.le m) (hB : Keep B Rs Rest) (hR : R (.tuple #[]) m B) :
    At n w0 F m Rs (bodyPost P fn (fun e w' => ∃ v m' B, e = .returned v ∧ m0.le m' ∧ R v m' B ∧ HW w0 m' (B ++ Rest) w') .ret) := fun a w ha hw =>
  ⟨ha.dfr, _, by rw [results_none hr], _, m, B, rfl, hm, hR, hw.ent hB.ent⟩

theorem pr_strindexn {x y : Operand} {t : TypeId} {l : List UInt8} {k : IntKind} {i : Nat} (ht : P.underlying t = some .string) (hx : ev F x = some (.string (str l))) (hy : ev F y = some (.int k (i : Int))) (h1 : i < l.length) :
    PR P n F C (.index t x y) (.int .u8 (bI l[i]!)) := pr_strindex ht hx hy (by omega) (by omega)
theorem pr_str_ln {x y : Operand} {t : TypeId} {l : List UInt8} {k : IntKind} {i : Nat} (ht : P.underlying t = some .string) (hx : ev F x = some (.string (str l))) (hy : ev F y = some (.int k (i : Int))) (h1 : i ≤ l.length) :
    PR P n F C (.slice t x (some y) none none) (.string (str (l.drop i))) := pr_str_l ht hx hy (by omega) (by omega)
theorem pr_str_hn {x z : Operand} {t : TypeId} {l : List UInt8} {k : IntKind} {i : Nat} (ht : P.underlying t = some .string) (hx : ev F x = some (.string (str l))) (hz : ev F z = some (.int k (i : Int))) (h1 : i ≤ l.length) :
    PR P n F C (.slice t x none (some z) none) (.string (str (l.take i))) := pr_str_h ht hx hz (by omega) (by omega)
theorem pr_str_lhn {x y z : Operand} {t : TypeId} {l : List UInt8} {k k' : IntKind} {i j : Nat} (ht : P.underlying t = some .string) (hx : ev F x = some (.string (str l))) (hy : ev F y = some (.int k (i : Int))) (hz : ev F z = some (.int k' (j : Int))) (h1 : i ≤ j) (h2 : j ≤ l.length) :
    PR P n F C (.slice t x (some y) (some z) none) (.string (str ((l.take j).drop i))) := pr_str_lh ht hx hy hz (by omega) (by omega) (by omega)

/-- a region that draws, where some of what one owns is for the loud operations alone -/
theorem At.mixedX {id : Nat} {l0 l : List Oper} (X : List Res) (N : Nat) (p : Plan) {Base : List Res} (hX : Take X Rs Base) (e : flat l0 = some l) (hN : Nat.beq l.length N = true) (hm : P.follows .mixedOrders = true) (hB : mixB l p = true)
    (h : AtM P n w0 F m Base X (Q .normal) l N (Array.replicate l.length false) p) : At n w0 F m Rs ((Code.region id l0.toArray true).wp P Q) := fun a w ha hw => by
  have := flat_eq l0 l e; subst this
  simp only [mixB, Bool.and_eq_true] at hB
  have hN' := Nat.eq_of_beq_eq_true hN
  subst hN'
  have hG := h hB.1 hB.2 (Closed.empty _ _) a ha
  refine Code.wp_mono (Q := Q0 (Q .normal)) (fun e a' w' q => by cases e <;> first | exact q | exact q.elim) (wp_region_any hm ?_)
  exact GM.any (P := P) l.length m Base X _ a { w with drawn := w.drawn + 1 } ((hw.ent hX.eqv.ent).drawn _) hG

/-- what came to be in memory is not told -/
theorem Ct.forget {f : FuncId} {args : Array Value} {A : List Res} {R R' : Value → Mem → List Res → Prop} (h : Ct P f args m A R) (hr : ∀ v m' B, m.le m' → R v m' B → R' v m B) : Ct P f args m A R' :=
  fun w0 Rest w hw => (h w0 Rest w hw).mono fun _ _ ⟨v, m', B, he, hm, hR, hw'⟩ => ⟨v, m, B, he, Mem.le_refl _, hr v m' B hm hR, hw'.weak hm⟩
theorem Pu.of_le {f : FuncId} {args : Array Value} {V : Value} (h : ∀ m, Ct P f args m [] (fun v m' B => v = V ∧ m.le m' ∧ B = [])) : Pu P f args V := Pu.intro fun m => Ct.forget (h m) fun _ _ _ _ ⟨h1, _, h3⟩ => ⟨h1, rfl, h3⟩

theorem flatMap_replicate {α : Type} (f : α → List Value) (z : α) : ∀ k : Nat, (List.replicate k z).flatMap f = copies k (f z)
  | 0 => rfl
  | k + 1 => by rw [List.replicate_succ, List.flatMap_cons, flatMap_replicate f z k]; rfl
/-- a slice that is made with all of its room taken -/
theorem At.makeN {α : Type} [Inhabited α] {f : α → List Value} {sz : Nat} {ops : Array Oper} {rest : List Oper} {d : Nat} {x y : Operand} {t E : TypeId} {ty : TypeId} {pos : String} {aft : Array Edge} {k1 k2 : IntKind} {cp : Nat} {q q' : Int}
    (z : α) (hf : Fl f sz) (ht : P.underlying t = some (.slice E)) (he : elemB P E sz = true) (hx : ev F x = some (.int k1 q)) (hy : ev F y = some (.int k2 q')) (hq : q = (cp : Int)) (hq' : q' = (cp : Int)) (hz : zeroL P E = some (f z)) (hsm : cp ≤ 34359738368) (hd : Nat.blt d n = true)
    (h : ∀ b, At n w0 ((d, .slice (some ⟨b, 0, none⟩) cp cp) :: F) m (.own f sz E (some ⟨b, 0, none⟩) cp (List.replicate cp z) :: Rs) (wpList P ops Q rest)) :
    At n w0 F m Rs (wpList P ops Q (⟨some d, .makeSlice t x y, ty, pos, aft, none⟩ :: rest)) := fun a w ha hw =>
  wpList_plain rfl fun K hK => by
    subst hq hq'
    obtain ⟨i, zv, hi, hzv, hsz, hbt, hzs⟩ := elemB_spec he
    obtain ⟨i', z', hi', hz', hzc⟩ := zeroL_spec hz
    rw [hi] at hi'; cases hi'
    rw [hzv] at hz'; cases hz'
    have hby : i.bytes * cp ≤ 281474976710656 := Nat.le_trans (Nat.mul_le_mul hbt hsm) (by omega)
    have h63 : cp ≤ maxLen := by simp only [maxLen]; omega
    obtain ⟨w', hr, h1, h2⟩ := run_make_full (P := P) w w.heap.size t E i zv sz ht hi hzv hsz k1 k2 cp hby h63 (Nat.le_refl _)
    unfold Oper.wp
    have hrun : (execOp a.eval ⟨some d, .makeSlice t x y, ty, pos, aft, none⟩).run P w = .ok (.value (.slice (some ⟨w.heap.size, 0, none⟩) cp cp)) w' := by
      simp [execOp, ha.ev hx, ha.ev hy, hr]
    rw [hrun]
    have hh := h w.heap.size
    refine hK _ _ (hh _ _ (ha.put hd) (hw.add h2.os h2.tape h2.output h2.size (fun k hk => h2.block k hk (by simp)) ⟨fun k => k = w.heap.size, ?_, fun k hk => by omega⟩))
    obtain ⟨g1, g2⟩ := h1
    rcases g2 with g2 | ⟨g, cap, cur, hv, _, h4, h5, h6, h7, h8⟩
    · cases g2.1
    · injection hv with e1 e2 e3
      injection e1 with e1
      injection e1 with e1 _ _
      subst e1 e3
      have hsize : zv.cells.size = sz := hzs
      have hlz : (f z).length = sz := hf.len z
      have hmade : (madeCells zv.cells (cp * sz)).toList = copies cp (f z) := by
        have := copies_arr zv.cells (f z) hzc cp
        rw [hlz] at this
        unfold madeCells
        rw [this]
      refine .inr ⟨_, 0, cur, rfl, h4, by rw [List.length_replicate]; exact Nat.le_refl _, h6, by omega, fun j hj => ?_, fun _ => Iff.rfl⟩
      rw [List.length_replicate] at hj
      rw [Nat.zero_add, flatMap_replicate, ← hmade, ← h8, List.getElem?_take, if_pos hj, Array.getElem?_toList]
end
end Go.J
/- Arrays that stand in a variable, values of which no more than the length is known, the model's own functions. -/
set_option linter.unusedSimpArgs false
set_option linter.unusedVariables false
set_option linter.unusedSectionVars false
set_option maxRecDepth 20000
namespace Go.J
open Go

section
variable {P : Program} {n : Nat} {w0 : World} {F : Fr} {m : Mem} {Rs : List Res} {Q : Exit → Act → World → Prop} {K : Act → World → Prop} {C : World → Prop}

/-! ### arrays -/
theorem run_indexArr {t e : TypeId} {sz len : Nat} (ht : P.underlying t = some (.array len e)) (hs : sizeB P e = some sz) (b o k : Nat) (ki : IntKind) (hk : k < len) (w : World) :
    (Instr.indexAt t (.pointer (some ⟨b, o, none⟩)) (.int ki (k : Int))).run P w = .ok (.pointer (some ⟨b, o + k * sz, none⟩)) w := by
  have hr : ∀ w, (underlying t).run P w = .ok (.array len e) w := run_underlying ht
  have h1 : (0 : Int) ≤ (k : Int) ∧ (k : Int) < (len : Int) := ⟨by omega, by omega⟩
  unfold Instr.indexAt
  simp only [asIntOf, pure, Sem.run_bind, Sem.run, Result.andThen, hr, Instr.sureAddr, h1, and_self, if_true, run_sizeOf hs, Int.toNat_natCast, Addr.add_eq]
theorem pr_indexArr {x y : Operand} {t e : TypeId} {len b o k sz : Nat} {ki : IntKind} (hx : ev F x = some (.pointer (some ⟨b, o, none⟩))) (hy : ev F y = some (.int ki (k : Int))) (ht : P.underlying t = some (.array len e)) (hs : sizeB P e = some sz) (hk : k < len) :
    PR P n F C (.indexAddr t x y) (.pointer (some ⟨b, o + k * sz, none⟩)) := fun _ _ _ _ _ a w ha _ => by
  simp only [execOp, ha.ev hx, ha.ev hy, Sem.run_bind, run_indexArr ht hs b o k ki hk]
  rfl
/-- the elements are of one cell, the array is the whole block -/
theorem pr_indexArr1 {x y : Operand} {t e : TypeId} {len b k : Nat} {ki : IntKind} (hx : ev F x = some (.pointer (some ⟨b, 0, none⟩))) (hy : ev F y = some (.int ki (k : Int))) (ht : P.underlying t = some (.array len e)) (hs : sizeB P e = some 1) (hk : k < len) :
    PR P n F C (.indexAddr t x y) (.pointer (some ⟨b, k, none⟩)) := by
  have := pr_indexArr (n := n) (C := C) hx hy ht hs hk
  rwa [Nat.zero_add, Nat.mul_one] at this
theorem pr_indexArr1i {x y : Operand} {t e : TypeId} {len b : Nat} {q : Int} {ki : IntKind} (hx : ev F x = some (.pointer (some ⟨b, 0, none⟩))) (hy : ev F y = some (.int ki q)) (ht : P.underlying t = some (.array len e)) (hs : sizeB P e = some 1) (h0 : 0 ≤ q) (hk : q < len) :
    PR P n F C (.indexAddr t x y) (.pointer (some ⟨b, q.toNat, none⟩)) := pr_indexArr1 hx (k := q.toNat) (by rw [hy, Int.toNat_of_nonneg h0]) ht hs (by omega)
theorem pr_load_arr {α : Type} [Inhabited α] {g : α → Value} {l : List α} {x : Operand} {t : TypeId} {b k : Nat} {E : TypeId} {Rs' : List Res} (hx : ev F x = some (.pointer (some ⟨b, k, none⟩))) (hp : Pick Rs (.blk b E (l.map g)) Rs') (ht : isAggB P t = some false) (hk : k < l.length) :
    PR P n F (HW w0 m Rs) (.load t x) (g l[k]!) := pr_load1 ht hx fun w hw => by
  rw [World.cell_of (hw.blk hp)]
  simp [hk]
theorem putl_set : ∀ (cs : List Value) (k : Nat) (v : Value), k < cs.length → putl cs k [v] = some (cs.set k v)
  | [], _, _, h => by simp at h
  | c :: cs, 0, v, _ => by
    have : ∀ l : List Value, putl l 0 [] = some l := fun l => by cases l <;> simp [putl]
    simp [putl, this]
  | c :: cs, k + 1, v, h => by
    have := putl_set cs k v (by simpa using h)
    simp [putl, this]
theorem At.storeArr {α : Type} {g : α → Value} {l : List α} {ops : Array Oper} {rest : List Oper} {t : TypeId} {x y : Operand} {ty : TypeId} {pos : String} {aft : Array Edge} {b k : Nat} {v : Value} {E : TypeId} {Rs' : List Res}
    (x' : α) (hx : ev F x = some (.pointer (some ⟨b, k, none⟩))) (hy : ev F y = some v) (hv : g x' = v) (hc : cellsB v = some [v]) (hs : sizeB P t = some 1) (h1 : oneCell v = true)
    (hp : Repl Rs (.blk b E (l.map g)) (.blk b E ((l.set k x').map g)) Rs') (hk : k < l.length)
    (h : At n w0 F m Rs' (wpList P ops Q rest)) : At n w0 F m Rs (wpList P ops Q (⟨none, .store t x y, ty, pos, aft, none⟩ :: rest)) :=
  At.store (vs := [v]) hx hy hc hs rfl (by simp [h1]) ⟨_, rfl, by rw [putl_set _ _ _ (by simpa using hk), List.map_set, hv]⟩ hp h

/-! ### values of which no more than the length is known -/
theorem cellsOf_agg (L : List Value) : (Value.agg L.toArray).cells = L.toArray := rfl
theorem At.boxA {ops : Array Oper} {rest : List Oper} {d : Nat} {t : TypeId} {x : Operand} {ty : TypeId} {pos : String} {aft : Array Edge} {L : List Value} (hx : ev F x = some (.agg L.toArray)) (hd : Nat.blt d n = true)
    (h : ∀ b, At n w0 ((d, .pointer (some ⟨b, 0, none⟩)) :: F) m (.blk b t L :: Rs) (wpList P ops Q rest)) : At n w0 F m Rs (wpList P ops Q (⟨some d, .box t x, ty, pos, aft, none⟩ :: rest)) :=
  At.box (v := .agg L.toArray) hx (by show flat L = some L; exact flat_self L) hd h
theorem pr_loadA {x : Operand} {t : TypeId} {b k : Nat} {L : List Value} {E : TypeId} {Rs' : List Res} (hx : ev F x = some (.pointer (some ⟨b, 0, none⟩))) (hp : Pick Rs (.blk b E L) Rs') (ht : isAggB P t = some true) (hs : sizeB P t = some k) (hk : L.length = k) :
    PR P n F (HW w0 m Rs) (.load t x) (.agg L.toArray) := pr_loadN ht hx (by rw [hk]; exact hs) fun w hw j _ => by
  rw [World.cell_of (hw.blk hp)]
  simp
theorem putl_all : ∀ (cs vs : List Value), cs.length = vs.length → putl cs 0 vs = some vs
  | [], [], _ => rfl
  | c :: cs, v :: vs, h => by simp [putl, putl_all cs vs (by simpa using h)]
  | [], _ :: _, h => by simp at h
  | _ :: _, [], h => by simp at h
theorem At.storeA {ops : Array Oper} {rest : List Oper} {t : TypeId} {x y : Operand} {ty : TypeId} {pos : String} {aft : Array Edge} {b k : Nat} {L cs : List Value} {E : TypeId} {Rs' : List Res}
    (hx : ev F x = some (.pointer (some ⟨b, 0, none⟩))) (hy : ev F y = some (.agg L.toArray)) (hs : sizeB P t = some k) (h1 : L.all oneCell = true) (hp : Repl Rs (.blk b E cs) (.blk b E L) Rs') (hk : L.length = k) (hk2 : cs.length = k)
    (h : At n w0 F m Rs' (wpList P ops Q rest)) : At n w0 F m Rs (wpList P ops Q (⟨none, .store t x y, ty, pos, aft, none⟩ :: rest)) :=
  At.store (vs := L) hx hy (by show flat L = some L; exact flat_self L) hs hk h1 ⟨_, rfl, putl_all _ _ (by rw [hk2, hk])⟩ hp h
theorem rv_cellA {x b k : Nat} {t E : TypeId} {L : List Value} {Rs' : List Res} (hx : look x F = some (.pointer (some ⟨b, 0, none⟩))) (hp : Pick Rs (.blk b E L) Rs') (ht : isAggB P t = some true) (hs : sizeB P t = some k) (hk : L.length = k) : RV P n F (HW w0 m Rs) (.cell x t) (.agg L.toArray) := fun a w ha hC => by
  show ((do loadVar t (← asAddr (a.tmps.getD x undef))) : Sem Value).run P w = _
  rw [ha.val x _ hx]
  have e0 : (asAddr (.pointer (some ⟨b, 0, none⟩)) : Sem Addr).run P w = .ok ⟨b, 0, none⟩ w := rfl
  simp only [Sem.run_bind, e0, Result.andThen]
  exact run_loadVarN ht (by rw [hk]; exact hs) (fun j _ => by
    rw [World.cell_of (hC.blk hp)]
    simp)

/-! ### the model's own functions -/
theorem pr_extern {f : FuncId} {fn : Func} {e : Array Value → Sem Value} {xs : List Operand} {ts : Array TypeId} {vs : List Value} {v : Value} (hf : P.funcs[f]? = some fn) (hname : (fn.name == "runtime.NumGoroutine") = false) (hb : fn.body.isNone = true) (hn : Extern.findNext fn = none) (he : Extern.find fn = some e)
    (hx : evs F xs = some vs) (hv : ∀ w, (e vs.toArray).run P w = .ok v w) : PR P n F C (.call ⟨.value (.func f), xs.toArray, ts⟩) v := fun _ _ _ _ _ a w ha _ => by
  rw [execOp_call_go]
  have : (#[] ++ xs.toArray.map a.eval ++ #[] : Array Value) = vs.toArray := by simp [evs_map ha xs vs hx]
  rw [this, run_callFunc_extern hf hname hb hn he, hv w]
  rfl

/-! ### two structs are compared -/
def eqG (P : Program) (eqT : TypeId → List Value → List Value → Option (List Bool)) (xs ys : List Value) : List Field → Option (List Bool)
  | [] => some []
  | f :: fs => match f.name == "_" with
    | true => none
    | false => match P.info? f.type with
      | some i => match subl xs f.offset i.size with
        | some a => match subl ys f.offset i.size with
          | some b => match eqT f.type a b with
            | some r => match eqG P eqT xs ys fs with
              | some q => some (r ++ q)
              | none => none
            | none => none
          | none => none
        | none => none
      | none => none
def eqS (P : Program) : Nat → TypeId → List Value → List Value → Option (List Bool)
  | 0, _, _, _ => none
  | d + 1, t, xs, ys => match P.underlying t with
    | some (.struct fs) => eqG P (eqS P d) xs ys fs.toList
    | some .bool => match xs, ys with
      | [.bool a], [.bool b] => some [a == b]
      | _, _ => none
    | some .string => match xs, ys with
      | [.string a], [.string b] => some [decide (a = b)]
      | _, _ => none
    | some (.int _) => match xs, ys with
      | [.int k a], [.int k' b] => match decide (k = k') with
        | true => some [decide (a = b)]
        | false => none
      | _, _ => none
    | _ => none
def eqM (P : Program) (t : TypeId) (xs ys : List Value) : Option (List Bool) := match eqS P 6 t xs ys with
  | some l => flat l
  | none => none


/-- no struct of it is laid out by another's hand -/
def freeF (rec : TypeId → Bool) : List Field → Bool
  | [] => true
  | f :: fs => rec f.type && freeF rec fs
def freeB (P : Program) : Nat → TypeId → Bool
  | 0, _ => false
  | d + 1, t => match P.underlying t with
    | some (.struct fs) => !P.stoodInHeld t && freeF (freeB P d) fs.toList
    | _ => true
theorem eqS_run : ∀ (d e : Nat) (t : TypeId) (xs ys : List Value) (r : List Bool) (w : World), freeB P d t = true → eqS P d t xs ys = some r →
    (isAggB P t = some true ∧ (Op.equalIn (d + e) t (.agg xs.toArray) (.agg ys.toArray)).run P w = .ok (andL r) w) ∨
    (isAggB P t = some false ∧ ∃ x y, xs = [x] ∧ ys = [y] ∧ (Op.equalIn (d + e) t x y).run P w = .ok (andL r) w)
  | 0, _, _, _, _, _, _, h, _ => by cases h
  | d + 1, e, t, xs, ys, r, w, hfree, h => by
    have ih := eqS_run d e
    rw [show d + 1 + e = (d + e) + 1 by omega]
    unfold eqS at h
    unfold freeB at hfree
    cases hu : P.underlying t with
    | none => rw [hu] at h; cases h
    | some u =>
      rw [hu] at h hfree
      cases u <;> simp only at h hfree <;> try (cases h; done)
      case bool =>
        split at h
        · rename_i a b
          cases h
          refine .inr ⟨by simp [isAggB, hu], _, _, rfl, rfl, ?_⟩
          simp [Op.equalIn, run_underlying hu, andL]
        · cases h
      case string =>
        split at h
        · rename_i a b
          cases h
          refine .inr ⟨by simp [isAggB, hu], _, _, rfl, rfl, ?_⟩
          have : (a == b) = decide (a = b) := by rw [beq_toListBytes, str_eq]
          simp [Op.equalIn, run_underlying hu, andL, this]
        · cases h
      case int kk =>
        split at h
        · rename_i k a k' b
          by_cases hk : k = k'
          · subst hk
            simp only [decide_true] at h
            cases h
            refine .inr ⟨by simp [isAggB, hu], _, _, rfl, rfl, ?_⟩
            have : (a == b) = decide (a = b) := rfl
            simp [Op.equalIn, run_underlying hu, andL, this]
          · simp only [decide_eq_false hk] at h
            cases h
        · cases h
      case struct fs =>
        rw [Bool.and_eq_true] at hfree
        obtain ⟨hp0, hfr⟩ := hfree
        cases hp : P.stoodInHeld t with
        | true => rw [hp] at hp0; cases hp0
        | false =>
          refine .inl ⟨by simp [isAggB, hu], ?_⟩
          have hfo : P.fieldsOf t = fs := by simp [Program.fieldsOf, hu]
          rw [run_equalIn_struct w (d + e) t _ _ (by rw [hfo]; exact hu) hp, hfo]
          generalize fs.toList = l at h hfr
          clear hfo hu
          induction l generalizing r with
          | nil => cases h; rfl
          | cons f l ihl =>
            unfold eqG at h
            unfold freeF at hfr
            rw [Bool.and_eq_true] at hfr
            cases hn : f.name == "_" with
            | true => rw [hn] at h; cases h
            | false =>
              rw [hn] at h
              simp only at h
              have hn' : f.name ≠ "_" := by simpa using hn
              cases hi : P.info? f.type with
              | none => rw [hi] at h; cases h
              | some i =>
                rw [hi] at h
                simp only at h
                cases h1 : subl xs f.offset i.size with
                | none => rw [h1] at h; cases h
                | some a =>
                  cases h2 : subl ys f.offset i.size with
                  | none => rw [h1, h2] at h; cases h
                  | some b =>
                    rw [h1, h2] at h
                    simp only at h
                    cases h3 : eqS P d f.type a b with
                    | none => rw [h3] at h; cases h
                    | some q =>
                      rw [h3] at h
                      simp only at h
                      cases h4 : eqG P (eqS P d) xs ys l with
                      | none => rw [h4] at h; cases h
                      | some q2 =>
                        rw [h4] at h
                        cases h
                        have hr := ihl q2 h4 hfr.2
                        unfold Op.eqFields
                        rw [if_pos hn', andL_append]
                        rcases ih f.type a b q w hfr.1 h3 with ⟨hb, hq⟩ | ⟨hb, x, y, rfl, rfl, hq⟩
                        · have p1 := run_part hb hi h1 undef (fun e => by cases e) w
                          have p2 := run_part hb hi h2 undef (fun e => by cases e) w
                          simp only [if_true] at p1 p2
                          simp only [Sem.run_bind, p1, p2, hq, Result.andThen]
                          cases andL q with
                          | true => simpa using hr
                          | false => simp
                        · have p1 := run_part hb hi h1 x (fun _ => rfl) w
                          have p2 := run_part hb hi h2 y (fun _ => rfl) w
                          simp only [Bool.false_eq_true, if_false] at p1 p2
                          simp only [Sem.run_bind, p1, p2, hq, Result.andThen]
                          cases andL q with
                          | true => simpa using hr
                          | false => simp

theorem run_agg_equal2 {t : TypeId} {xs ys : List Value} {bs : List Bool} (hb : isAggB P t = some true) (hn : freeB P 6 t = true) (h : eqM P t xs ys = some bs) (w : World) : (Op.equal t (.agg xs.toArray) (.agg ys.toArray)).run P w = .ok (andL bs) w := by
  unfold eqM at h
  cases h1 : eqS P 6 t xs ys with
  | none => rw [h1] at h; cases h
  | some l =>
    rw [h1] at h
    have := flat_eq _ _ h
    subst this
    unfold Op.equal
    rcases eqS_run 6 9994 t xs ys bs w hn h1 with ⟨_, h2⟩ | ⟨h2, _⟩
    · exact h2
    · rw [hb] at h2; cases h2
theorem pr_aggeq2 {x y : Operand} {t u : TypeId} {xs ys : List Value} {bs : List Bool} (hx : ev F x = some (.agg xs.toArray)) (hy : ev F y = some (.agg ys.toArray)) (hb : isAggB P t = some true) (hg : P.eqGuardType P.depth t = false) (hn : freeB P 6 t = true) (h : eqM P t xs ys = some bs) : PR P n F C (.binOp .eql t x y u) (.bool (andL bs)) :=
  pr_eql_of hx hy (run_agg_guard hg .eql (.inl rfl)) rfl (fun w _ => run_agg_equal2 hb hn h w)
theorem pr_aggne2 {x y : Operand} {t u : TypeId} {xs ys : List Value} {bs : List Bool} (hx : ev F x = some (.agg xs.toArray)) (hy : ev F y = some (.agg ys.toArray)) (hb : isAggB P t = some true) (hg : P.eqGuardType P.depth t = false) (hn : freeB P 6 t = true) (h : eqM P t xs ys = some bs) : PR P n F C (.binOp .neq t x y u) (.bool (!andL bs)) :=
  pr_neq_of hx hy (run_agg_guard hg .neq (.inr rfl)) rfl (fun w _ => run_agg_equal2 hb hn h w)

end
end Go.J
/- Places where the two ways of a condition of more parts meet (an 'and', an 'or'). -/
set_option linter.unusedSimpArgs false
set_option linter.unusedVariables false
set_option linter.unusedSectionVars false
set_option maxRecDepth 20000
namespace Go.J
open Go
/-- a region's end alone -/
def Fin (K : Act → World → Prop) : Exit → Act → World → Prop := fun e a w => e = .normal ∧ K a w
/-- a condition's value is known, and nothing else of the way to it -/
def JoinB (n : Nat) (w0 : World) (p : Prop) (t : Nat) (F0 : Fr) (m : Mem) (Rs : List Res) : Act → World → Prop := fun a w => ∃ b : Bool, (b = true ↔ p) ∧ HF n ((t, .bool b) :: F0) a ∧ HW w0 m Rs w
section
variable {P : Program} {n : Nat} {w0 : World} {F : Fr} {m : Mem} {Rs : List Res} {Q : Exit → Act → World → Prop} {K : Act → World → Prop}
theorem At.fin_n (h : At n w0 F m Rs K) : At n w0 F m Rs (Fin K .normal) := fun a w ha hw => ⟨rfl, h a w ha hw⟩
theorem At.cutp {id : Nat} {ops : Array Oper} {dr : Bool} {F0 : Fr} (p : Prop) [Decidable p] (t : Nat) (L : List Nat) (e0 : keepL L F = some F0)
    (hx : At n w0 F m Rs ((Code.region id ops dr).wp P (Fin (JoinB n w0 p t F0 m Rs))))
    (hy : At n w0 ((t, .bool (decide p)) :: F0) m Rs K) : At n w0 F m Rs ((Code.region id ops dr).wp P (Exit.then K Q)) := by
  have _ := e0
  refine fun a w ha hw => Code.wp_mono (fun e a' w' q => ?_) (hx a w ha hw)
  obtain ⟨rfl, b, hb, h1, h2⟩ := q
  have : b = decide p := by
    by_cases h : p
    · rw [decide_eq_true h]; exact hb.2 h
    · rw [decide_eq_false h]; cases b
      · rfl
      · exact absurd (hb.1 rfl) h
  subst this
  exact hy a' w' h1 h2
/-- where the ways of a region meet -/
theorem At.cutr {id : Nat} {ops : Array Oper} {dr : Bool} {σ : Type} {F0 : Fr} (L : List Nat) (upd : σ → Fr → Fr) (mx : σ → Mem) (Rx : σ → List Res) (I : σ → Prop) (e0 : keepL L F = some F0)
    (hx : At n w0 F m Rs ((Code.region id ops dr).wp P (Fin (fun a w => ∃ s, I s ∧ HF n (upd s F0) a ∧ HW w0 (mx s) (Rx s) w))))
    (hy : ∀ s, I s → At n w0 (upd s F0) (mx s) (Rx s) K) : At n w0 F m Rs ((Code.region id ops dr).wp P (Exit.then K Q)) := by
  have _ := e0
  refine fun a w ha hw => Code.wp_mono (fun e a' w' q => ?_) (hx a w ha hw)
  obtain ⟨rfl, s, hI, h1, h2⟩ := q
  exact hy s hI a' w' h1 h2
theorem At.endp {p : Prop} {t : Nat} {F0 : Fr} {m0 : Mem} {Rs0 : List Res} {b : Bool} (ht : look t F = some (.bool b)) (hs : Subs F0 F) (hm : m0.le m) (hR : Ent Rs Rs0) (hp : b = true ↔ p) : At n w0 F m Rs (JoinB n w0 p t F0 m0 Rs0) :=
  fun a w ha hw => ⟨b, hp, (ha.weaken (F' := (t, .bool b) :: F0) ⟨ht, hs⟩), (hw.ent hR).weak hm⟩
end
end Go.J
/- The walk's steps under short names: what closes of itself is filled in by default. -/
set_option linter.unusedSimpArgs false
set_option linter.unusedVariables false
set_option linter.unusedSectionVars false
set_option maxRecDepth 20000
namespace Go.J
open Go
theorem zhcs : (∀ (p : Prop) [Decidable p], (decide p = true) = p) ∧ (∀ (p : Prop) [Decidable p], (decide p = false) = ¬ p) ∧ (∀ b : Bool, ((!b) = true) = (b = false)) ∧ (∀ b : Bool, ((!b) = false) = (b = true)) ∧
    (∀ a b : Bool, ((a && b) = true) = (a = true ∧ b = true)) ∧ (∀ a b : Bool, ((a || b) = true) = (a = true ∨ b = true)) ∧ (∀ a b : Bool, ((a && b) = false) = (a = false ∨ b = false)) ∧ (∀ a b : Bool, ((a || b) = false) = (a = false ∧ b = false)) ∧
    (∀ a b : Bool, ((a != b) = true) = (a ≠ b)) ∧ (∀ a b : Bool, ((a == b) = true) = (a = b)) ∧ (∀ a b : Bool, ((a == b) = false) = (a ≠ b)) ∧ (∀ a b : Bool, ((a != b) = false) = (a = b)) ∧
    ((!true) = false) ∧ ((!false) = true) ∧ (∀ p : Prop, (¬ ¬ p) = p) ∧ ((¬ True) = False) ∧ ((¬ False) = True) ∧ ((false = true) = False) ∧ ((true = false) = False) ∧
    ((none : Option Addr).isNone = true) ∧ (∀ x : Addr, (some x).isNone = false) ∧ (∀ b : Bool, (b && true) = b) ∧ (∀ p : Prop, (p ∧ True) = p) ∧ (∀ (a : Bool) (l : List Bool), andL (a :: l) = (a && andL l)) ∧ (andL [] = true) :=
  ⟨fun _ _ => decide_eq_true_eq, fun _ _ => by simp, by decide, by decide, by decide, by decide, by decide, by decide, by decide, by decide, by decide, by decide, rfl, rfl, fun p => by rw [Classical.not_not], by simp, by simp, by simp, by simp, rfl, fun _ => rfl, by decide, fun p => by simp, fun _ _ => andL_cons .., andL_nil⟩
theorem zrf {α : Type} {a b : α} (h : a = b := by first | rfl | fail) : a = b := h
theorem zom {p : Prop} (h : p := by first | omega | (simp only [lns] <;> omega) | fail) : p := h
theorem zomb {p : Prop} (h : p := by first | omega | (simp only [IntKind.bits] <;> omega) | fail) : p := h
theorem zlq {p : Prop} (h : p := by first | exact rfl | omega | (simp only [lns] <;> omega) | fail) : p := h
theorem zinr {p : Prop} (h : p := by first | exact IntWalk.i64_in _ (by omega) | exact IntWalk.u64_in _ (by omega) | exact IntWalk.u8_in _ (by omega) | exact IntWalk.u32_in _ (by omega) | exact IntKind.wrap_u64 _ | exact IntKind.wrap_i64 _ | exact IntKind.wrap_u32 _ | exact IntKind.wrap_u8 _ | fail) : p := h
theorem ztk {A R Y : List Res} (h : Take A R Y := by (repeat' (first | exact Take.nil | ((with_reducible apply Take.cons); (focus ((repeat constructor); done)))))) : Take A R Y := h
theorem zkp {A R Y : List Res} (h : Keep A R Y := by (repeat' (first | exact Keep.nil | ((with_reducible apply Keep.cons); exact (by repeat constructor)) | (with_reducible apply Keep.skip)))) : Keep A R Y := h
theorem zlw {A R : List Res} (h : Low A R := by (repeat' (first | exact Low.base | ((with_reducible apply Low.cons); exact (by repeat constructor)) | (with_reducible apply Low.skip)))) : Low A R := h
theorem zlf {A R Y : List Res} (h : Left A R Y := by (repeat' (first | exact Left.base | ((with_reducible apply Left.cons); exact (by repeat constructor)) | (with_reducible apply Left.extra)))) : Left A R Y := h
theorem zml {m m' : Mem} (h : m.le m' := by first | exact Mem.le_refl _ | assumption | exact Mem.le_trans (by assumption) (by assumption) | (focus ((iterate 16 (first | done | assumption | refine Mem.le_trans ?_ (by assumption))); done)) | fail) : m.le m' := h
theorem zsubs {A B : Fr} (h : Subs A B := by first | exact trivial | (repeat' (first | exact trivial | refine ⟨rfl, ?_⟩ | refine ⟨look_int (by rfl) (by first | omega | (dsimp only; omega)), ?_⟩))) : Subs A B := h
theorem zente {A B : List Res} (h : Ent A B := by first | exact Ent.refl _ | (refine Low.ent ?_; exact zlw) | fail) : Ent A B := h
section
variable {α : Type} [Inhabited α] {f : α → List Value} {sz : Nat} {p : Option Addr} {c : Nat} {l : List α} {P : Program} {n : Nat} {F : Fr} {C : World → Prop} {op : Op} {v : Value} {m : Mem}
theorem zsla (h : Sl m f sz p c l := by first | assumption | exact Sl.mono (by assumption) (by assumption) | fail) : Sl m f sz p c l := h
theorem zrdb (h : Rdb C f sz p c l := by first | exact own_rdb inferInstance (by repeat constructor) | exact Sl.rdb zsla | fail) : Rdb C f sz p c l := h
theorem zpr0 (h : PR P n F C op v := by first | ((with_reducible first | apply pr_move | apply pr_assign | apply pr_extract | apply pr_nilCheck | apply pr_lss | apply pr_leq | apply pr_gtr | apply pr_geq | apply pr_eql | apply pr_neq | apply pr_not | apply pr_pick_t | apply pr_len_sl | apply pr_fieldAddr0 | apply pr_build | apply pr_field1 | apply pr_makeFunc | apply pr_and | apply pr_or | apply pr_xor | apply pr_andnot | apply pr_min | apply pr_max) <;> exact rfl) | ((with_reducible first | apply pr_pick_f | apply pr_beql | apply pr_bneq | apply pr_len_str | apply pr_fieldAddrL | apply pr_fieldN) <;> exact rfl) | ((with_reducible first | apply pr_peql | apply pr_pneq | apply pr_fieldAddr_at2) <;> exact rfl) | ((with_reducible first | apply pr_streq | apply pr_strne | apply pr_fieldAddr_at) <;> exact rfl) | ((with_reducible first | apply pr_add | apply pr_sub | apply pr_mul); exact rfl; exact rfl; (first | exact IntWalk.i64_in _ (by omega) | exact IntWalk.u64_in _ (by omega) | exact IntWalk.u8_in _ (by omega) | exact IntWalk.u32_in _ (by omega) | exact IntKind.wrap_u64 _ | exact IntKind.wrap_i64 _ | exact IntKind.wrap_u32 _ | exact IntKind.wrap_u8 _)) | ((with_reducible apply pr_quo); exact rfl; exact rfl; omega; (first | exact IntWalk.i64_quo _ _ (by omega) | exact IntWalk.u64_quo _ _ (by omega))) | ((with_reducible apply pr_rem); exact rfl; exact rfl; omega; exact IntWalk.rem_in _ _ (by omega)) | ((with_reducible apply pr_conv); exact ⟨_, rfl⟩; exact rfl; exact rfl; (first | exact IntWalk.i64_in _ (by omega) | exact IntWalk.u64_in _ (by omega) | exact IntWalk.u8_in _ (by omega) | exact IntWalk.u32_in _ (by omega) | exact IntKind.wrap_u64 _ | exact IntKind.wrap_i64 _ | exact IntKind.wrap_u32 _ | exact IntKind.wrap_u8 _)) | ((with_reducible apply pr_load_blk1); exact rfl; exact rfl; exact (by repeat constructor); exact rfl) | ((with_reducible apply pr_load_blkN); exact rfl; exact rfl; exact rfl; exact (by repeat constructor); exact rfl) | ((with_reducible first | apply pr_aggeq2 | apply pr_aggne2); exact rfl; exact rfl; exact rfl; kernel_rfl; kernel_rfl; exact rfl) | ((with_reducible first | apply pr_strindexn | apply pr_str_ln | apply pr_str_hn); exact rfl; exact rfl; exact rfl; (first | omega | (simp only [lns] <;> omega))) | ((with_reducible apply pr_str_lhn); exact rfl; exact rfl; exact rfl; exact rfl; (first | omega | (simp only [lns] <;> omega)); (first | omega | (simp only [lns] <;> omega))) | ((with_reducible first | apply pr_strindex | apply pr_str_l | apply pr_str_h); exact rfl; exact rfl; exact rfl; (first | omega | (simp only [lns] <;> omega)); (first | omega | (simp only [lns] <;> omega))) | ((with_reducible apply pr_str_lh); exact rfl; exact rfl; exact rfl; exact rfl; (first | omega | (simp only [lns] <;> omega)); (first | omega | (simp only [lns] <;> omega)); (first | omega | (simp only [lns] <;> omega))) | ((with_reducible apply pr_stradd); exact rfl; exact rfl; (first | omega | (simp only [lns] <;> omega))) | ((with_reducible apply pr_neg); exact rfl; (first | exact IntWalk.i64_in _ (by omega) | exact IntWalk.u64_in _ (by omega) | exact IntWalk.u8_in _ (by omega) | exact IntWalk.u32_in _ (by omega) | exact IntKind.wrap_u64 _ | exact IntKind.wrap_i64 _ | exact IntKind.wrap_u32 _ | exact IntKind.wrap_u8 _)) | ((with_reducible apply pr_shrv); exact rfl; exact rfl; (first | omega | (simp only [IntKind.bits] <;> omega)); (first | omega | (simp only [IntKind.bits] <;> omega)); ((try simp only [Int.reduceToNat, Int.reducePow, Nat.reducePow]); exact rfl)) | ((with_reducible apply pr_shlv); exact rfl; exact rfl; (first | omega | (simp only [IntKind.bits] <;> omega)); (first | omega | (simp only [IntKind.bits] <;> omega)); ((try simp only [Int.reduceToNat, Int.reducePow]); (first | exact IntWalk.i64_in _ (by omega) | exact IntWalk.u64_in _ (by omega) | exact IntWalk.u8_in _ (by omega) | exact IntWalk.u32_in _ (by omega) | exact IntKind.wrap_u64 _ | exact IntKind.wrap_i64 _ | exact IntKind.wrap_u32 _ | exact IntKind.wrap_u8 _))) | fail) : PR P n F C op v := h
theorem zprO (h : PR P n F C op v := by first | ((with_reducible first | apply pr_move | apply pr_assign | apply pr_extract | apply pr_nilCheck | apply pr_lss | apply pr_leq | apply pr_gtr | apply pr_geq | apply pr_eql | apply pr_neq | apply pr_not | apply pr_pick_t | apply pr_len_sl | apply pr_fieldAddr0 | apply pr_build | apply pr_field1 | apply pr_makeFunc | apply pr_and | apply pr_or | apply pr_xor | apply pr_andnot | apply pr_minI | apply pr_maxI) <;> exact rfl) | ((with_reducible first | apply pr_pick_f | apply pr_beql | apply pr_bneq | apply pr_len_str | apply pr_fieldAddrL | apply pr_fieldN) <;> exact rfl) | ((with_reducible first | apply pr_peql | apply pr_pneq | apply pr_fieldAddr_at2) <;> exact rfl) | ((with_reducible first | apply pr_streq | apply pr_strne | apply pr_fieldAddr_at) <;> exact rfl) | ((with_reducible first | apply pr_add | apply pr_sub | apply pr_mul); exact rfl; exact rfl; (first | exact IntWalk.i64_in _ (by omega) | exact IntWalk.u64_in _ (by omega) | exact IntWalk.u8_in _ (by omega) | exact IntWalk.u32_in _ (by omega) | exact IntKind.wrap_u64 _ | exact IntKind.wrap_i64 _ | exact IntKind.wrap_u32 _ | exact IntKind.wrap_u8 _)) | ((with_reducible apply pr_quo); exact rfl; exact rfl; omega; (first | exact IntWalk.i64_quo _ _ (by omega) | exact IntWalk.u64_quo _ _ (by omega))) | ((with_reducible apply pr_rem); exact rfl; exact rfl; omega; exact IntWalk.rem_in _ _ (by omega)) | ((with_reducible apply pr_conv); exact ⟨_, rfl⟩; exact rfl; exact rfl; (first | exact IntWalk.i64_in _ (by omega) | exact IntWalk.u64_in _ (by omega) | exact IntWalk.u8_in _ (by omega) | exact IntWalk.u32_in _ (by omega) | exact IntKind.wrap_u64 _ | exact IntKind.wrap_i64 _ | exact IntKind.wrap_u32 _ | exact IntKind.wrap_u8 _)) | ((with_reducible apply pr_load_blk1); exact rfl; exact rfl; exact (by repeat constructor); exact rfl) | ((with_reducible apply pr_load_blkN); exact rfl; exact rfl; exact rfl; exact (by repeat constructor); exact rfl) | exact pr_index_own zrf zrf (by repeat constructor) inferInstance zrf zrf zlq zom | exact pr_load_own1 zrf (by repeat constructor) inferInstance zom zrf zrf | exact pr_load_ownN zrf (by repeat constructor) inferInstance zom zrf zrf zrf | exact pr_load_ownf zrf (by repeat constructor) inferInstance zom zrf zrf zrf | exact pr_load_ownfN zrf (by repeat constructor) inferInstance zom zrf zrf zrf zrf | exact pr_index_owni zrf zrf (by repeat constructor) inferInstance zrf zrf zlq zom zom | exact pr_slice_gl zrf zrf (own_le (by repeat constructor)) zrf zrf zom | exact pr_slice_gh zrf zrf (own_le (by repeat constructor)) zrf zrf zom | exact pr_slice_glh zrf zrf zrf (own_le (by repeat constructor)) zrf zrf zom zom | exact pr_slice_gli zrf zrf (own_le (by repeat constructor)) zrf zrf zom zom | exact pr_slice_ghi zrf zrf (own_le (by repeat constructor)) zrf zrf zom zom | exact pr_slice_glhi zrf zrf zrf (own_le (by repeat constructor)) zrf zrf zom zom zom | ((with_reducible first | apply pr_aggeq2 | apply pr_aggne2); exact rfl; exact rfl; exact rfl; kernel_rfl; kernel_rfl; exact rfl) | ((with_reducible first | apply pr_strindexn | apply pr_str_ln | apply pr_str_hn); exact rfl; exact rfl; exact rfl; (first | omega | (simp only [lns] <;> omega))) | ((with_reducible apply pr_str_lhn); exact rfl; exact rfl; exact rfl; exact rfl; (first | omega | (simp only [lns] <;> omega)); (first | omega | (simp only [lns] <;> omega))) | ((with_reducible first | apply pr_strindex | apply pr_str_l | apply pr_str_h); exact rfl; exact rfl; exact rfl; (first | omega | (simp only [lns] <;> omega)); (first | omega | (simp only [lns] <;> omega))) | ((with_reducible apply pr_str_lh); exact rfl; exact rfl; exact rfl; exact rfl; (first | omega | (simp only [lns] <;> omega)); (first | omega | (simp only [lns] <;> omega)); (first | omega | (simp only [lns] <;> omega))) | ((with_reducible apply pr_stradd); exact rfl; exact rfl; (first | omega | (simp only [lns] <;> omega))) | ((with_reducible apply pr_neg); exact rfl; (first | exact IntWalk.i64_in _ (by omega) | exact IntWalk.u64_in _ (by omega) | exact IntWalk.u8_in _ (by omega) | exact IntWalk.u32_in _ (by omega) | exact IntKind.wrap_u64 _ | exact IntKind.wrap_i64 _ | exact IntKind.wrap_u32 _ | exact IntKind.wrap_u8 _)) | ((with_reducible apply pr_shrv); exact rfl; exact rfl; (first | omega | (simp only [IntKind.bits] <;> omega)); (first | omega | (simp only [IntKind.bits] <;> omega)); ((try simp only [Int.reduceToNat, Int.reducePow, Nat.reducePow]); exact rfl)) | ((with_reducible apply pr_shlv); exact rfl; exact rfl; (first | omega | (simp only [IntKind.bits] <;> omega)); (first | omega | (simp only [IntKind.bits] <;> omega)); ((try simp only [Int.reduceToNat, Int.reducePow]); (first | exact IntWalk.i64_in _ (by omega) | exact IntWalk.u64_in _ (by omega) | exact IntWalk.u8_in _ (by omega) | exact IntWalk.u32_in _ (by omega) | exact IntKind.wrap_u64 _ | exact IntKind.wrap_i64 _ | exact IntKind.wrap_u32 _ | exact IntKind.wrap_u8 _))) | exact pr_bytes_str zrf zrf zrf zrf zrdb zlq | fail) : PR P n F C op v := h
theorem zprM (h : PR P n F C op v := by first | ((with_reducible first | apply pr_move | apply pr_assign | apply pr_extract | apply pr_nilCheck | apply pr_lss | apply pr_leq | apply pr_gtr | apply pr_geq | apply pr_eql | apply pr_neq | apply pr_not | apply pr_pick_t | apply pr_len_sl | apply pr_fieldAddr0 | apply pr_build | apply pr_field1 | apply pr_makeFunc | apply pr_and | apply pr_or | apply pr_xor | apply pr_andnot | apply pr_minI | apply pr_maxI) <;> exact rfl) | ((with_reducible first | apply pr_pick_f | apply pr_beql | apply pr_bneq | apply pr_len_str | apply pr_fieldAddrL | apply pr_fieldN) <;> exact rfl) | ((with_reducible first | apply pr_peql | apply pr_pneq | apply pr_fieldAddr_at2) <;> exact rfl) | ((with_reducible first | apply pr_streq | apply pr_strne | apply pr_fieldAddr_at) <;> exact rfl) | ((with_reducible first | apply pr_add | apply pr_sub | apply pr_mul); exact rfl; exact rfl; (first | exact IntWalk.i64_in _ (by omega) | exact IntWalk.u64_in _ (by omega) | exact IntWalk.u8_in _ (by omega) | exact IntWalk.u32_in _ (by omega) | exact IntKind.wrap_u64 _ | exact IntKind.wrap_i64 _ | exact IntKind.wrap_u32 _ | exact IntKind.wrap_u8 _)) | ((with_reducible apply pr_quo); exact rfl; exact rfl; omega; (first | exact IntWalk.i64_quo _ _ (by omega) | exact IntWalk.u64_quo _ _ (by omega))) | ((with_reducible apply pr_rem); exact rfl; exact rfl; omega; exact IntWalk.rem_in _ _ (by omega)) | ((with_reducible apply pr_conv); exact ⟨_, rfl⟩; exact rfl; exact rfl; (first | exact IntWalk.i64_in _ (by omega) | exact IntWalk.u64_in _ (by omega) | exact IntWalk.u8_in _ (by omega) | exact IntWalk.u32_in _ (by omega) | exact IntKind.wrap_u64 _ | exact IntKind.wrap_i64 _ | exact IntKind.wrap_u32 _ | exact IntKind.wrap_u8 _)) | ((with_reducible apply pr_load_blk1); exact rfl; exact rfl; exact (by repeat constructor); exact rfl) | ((with_reducible apply pr_load_blkN); exact rfl; exact rfl; exact rfl; exact (by repeat constructor); exact rfl) | exact pr_index_mem zrf zrf zsla zrf zrf zlq zom | exact pr_index_memi zrf zrf zsla zrf zrf zlq zom zom | exact pr_load_meme1 zrf zsla zom zrf zrf | exact pr_load_memeN zrf zsla zom zrf zrf zrf | exact pr_load_memef zrf zsla zom zrf zrf zrf | exact pr_load_memefN zrf zsla zom zrf zrf zrf zrf | exact pr_slice_gl zrf zrf (mem_le zsla) zrf zrf zom | exact pr_slice_gh zrf zrf (mem_le zsla) zrf zrf zom | exact pr_slice_glh zrf zrf zrf (mem_le zsla) zrf zrf zom zom | exact pr_slice_gli zrf zrf (mem_le zsla) zrf zrf zom zom | exact pr_slice_ghi zrf zrf (mem_le zsla) zrf zrf zom zom | exact pr_slice_glhi zrf zrf zrf (mem_le zsla) zrf zrf zom zom zom | ((with_reducible first | apply pr_aggeq2 | apply pr_aggne2); exact rfl; exact rfl; exact rfl; kernel_rfl; kernel_rfl; exact rfl) | ((with_reducible first | apply pr_strindexn | apply pr_str_ln | apply pr_str_hn); exact rfl; exact rfl; exact rfl; (first | omega | (simp only [lns] <;> omega))) | ((with_reducible apply pr_str_lhn); exact rfl; exact rfl; exact rfl; exact rfl; (first | omega | (simp only [lns] <;> omega)); (first | omega | (simp only [lns] <;> omega))) | ((with_reducible first | apply pr_strindex | apply pr_str_l | apply pr_str_h); exact rfl; exact rfl; exact rfl; (first | omega | (simp only [lns] <;> omega)); (first | omega | (simp only [lns] <;> omega))) | ((with_reducible apply pr_str_lh); exact rfl; exact rfl; exact rfl; exact rfl; (first | omega | (simp only [lns] <;> omega)); (first | omega | (simp only [lns] <;> omega)); (first | omega | (simp only [lns] <;> omega))) | ((with_reducible apply pr_stradd); exact rfl; exact rfl; (first | omega | (simp only [lns] <;> omega))) | ((with_reducible apply pr_neg); exact rfl; (first | exact IntWalk.i64_in _ (by omega) | exact IntWalk.u64_in _ (by omega) | exact IntWalk.u8_in _ (by omega) | exact IntWalk.u32_in _ (by omega) | exact IntKind.wrap_u64 _ | exact IntKind.wrap_i64 _ | exact IntKind.wrap_u32 _ | exact IntKind.wrap_u8 _)) | ((with_reducible apply pr_shrv); exact rfl; exact rfl; (first | omega | (simp only [IntKind.bits] <;> omega)); (first | omega | (simp only [IntKind.bits] <;> omega)); ((try simp only [Int.reduceToNat, Int.reducePow, Nat.reducePow]); exact rfl)) | ((with_reducible apply pr_shlv); exact rfl; exact rfl; (first | omega | (simp only [IntKind.bits] <;> omega)); (first | omega | (simp only [IntKind.bits] <;> omega)); ((try simp only [Int.reduceToNat, Int.reducePow]); (first | exact IntWalk.i64_in _ (by omega) | exact IntWalk.u64_in _ (by omega) | exact IntWalk.u8_in _ (by omega) | exact IntWalk.u32_in _ (by omega) | exact IntKind.wrap_u64 _ | exact IntKind.wrap_i64 _ | exact IntKind.wrap_u32 _ | exact IntKind.wrap_u8 _))) | exact pr_bytes_str zrf zrf zrf zrf zrdb zlq | fail) : PR P n F C op v := h
theorem zprOM (h : PR P n F C op v := by first | ((with_reducible first | apply pr_move | apply pr_assign | apply pr_extract | apply pr_nilCheck | apply pr_lss | apply pr_leq | apply pr_gtr | apply pr_geq | apply pr_eql | apply pr_neq | apply pr_not | apply pr_pick_t | apply pr_len_sl | apply pr_fieldAddr0 | apply pr_build | apply pr_field1 | apply pr_makeFunc | apply pr_and | apply pr_or | apply pr_xor | apply pr_andnot | apply pr_minI | apply pr_maxI) <;> exact rfl) | ((with_reducible first | apply pr_pick_f | apply pr_beql | apply pr_bneq | apply pr_len_str | apply pr_fieldAddrL | apply pr_fieldN) <;> exact rfl) | ((with_reducible first | apply pr_peql | apply pr_pneq | apply pr_fieldAddr_at2) <;> exact rfl) | ((with_reducible first | apply pr_streq | apply pr_strne | apply pr_fieldAddr_at) <;> exact rfl) | ((with_reducible first | apply pr_add | apply pr_sub | apply pr_mul); exact rfl; exact rfl; (first | exact IntWalk.i64_in _ (by omega) | exact IntWalk.u64_in _ (by omega) | exact IntWalk.u8_in _ (by omega) | exact IntWalk.u32_in _ (by omega) | exact IntKind.wrap_u64 _ | exact IntKind.wrap_i64 _ | exact IntKind.wrap_u32 _ | exact IntKind.wrap_u8 _)) | ((with_reducible apply pr_quo); exact rfl; exact rfl; omega; (first | exact IntWalk.i64_quo _ _ (by omega) | exact IntWalk.u64_quo _ _ (by omega))) | ((with_reducible apply pr_rem); exact rfl; exact rfl; omega; exact IntWalk.rem_in _ _ (by omega)) | ((with_reducible apply pr_conv); exact ⟨_, rfl⟩; exact rfl; exact rfl; (first | exact IntWalk.i64_in _ (by omega) | exact IntWalk.u64_in _ (by omega) | exact IntWalk.u8_in _ (by omega) | exact IntWalk.u32_in _ (by omega) | exact IntKind.wrap_u64 _ | exact IntKind.wrap_i64 _ | exact IntKind.wrap_u32 _ | exact IntKind.wrap_u8 _)) | ((with_reducible apply pr_load_blk1); exact rfl; exact rfl; exact (by repeat constructor); exact rfl) | ((with_reducible apply pr_load_blkN); exact rfl; exact rfl; exact rfl; exact (by repeat constructor); exact rfl) | exact pr_index_own zrf zrf (by repeat constructor) inferInstance zrf zrf zlq zom | exact pr_load_own1 zrf (by repeat constructor) inferInstance zom zrf zrf | exact pr_load_ownN zrf (by repeat constructor) inferInstance zom zrf zrf zrf | exact pr_load_ownf zrf (by repeat constructor) inferInstance zom zrf zrf zrf | exact pr_load_ownfN zrf (by repeat constructor) inferInstance zom zrf zrf zrf zrf | exact pr_index_owni zrf zrf (by repeat constructor) inferInstance zrf zrf zlq zom zom | exact pr_slice_gl zrf zrf (own_le (by repeat constructor)) zrf zrf zom | exact pr_slice_gh zrf zrf (own_le (by repeat constructor)) zrf zrf zom | exact pr_slice_glh zrf zrf zrf (own_le (by repeat constructor)) zrf zrf zom zom | exact pr_slice_gli zrf zrf (own_le (by repeat constructor)) zrf zrf zom zom | exact pr_slice_ghi zrf zrf (own_le (by repeat constructor)) zrf zrf zom zom | exact pr_slice_glhi zrf zrf zrf (own_le (by repeat constructor)) zrf zrf zom zom zom | exact pr_index_mem zrf zrf zsla zrf zrf zlq zom | exact pr_index_memi zrf zrf zsla zrf zrf zlq zom zom | exact pr_load_meme1 zrf zsla zom zrf zrf | exact pr_load_memeN zrf zsla zom zrf zrf zrf | exact pr_load_memef zrf zsla zom zrf zrf zrf | exact pr_load_memefN zrf zsla zom zrf zrf zrf zrf | exact pr_slice_gl zrf zrf (mem_le zsla) zrf zrf zom | exact pr_slice_gh zrf zrf (mem_le zsla) zrf zrf zom | exact pr_slice_glh zrf zrf zrf (mem_le zsla) zrf zrf zom zom | exact pr_slice_gli zrf zrf (mem_le zsla) zrf zrf zom zom | exact pr_slice_ghi zrf zrf (mem_le zsla) zrf zrf zom zom | exact pr_slice_glhi zrf zrf zrf (mem_le zsla) zrf zrf zom zom zom | ((with_reducible first | apply pr_aggeq2 | apply pr_aggne2); exact rfl; exact rfl; exact rfl; kernel_rfl; kernel_rfl; exact rfl) | ((with_reducible first | apply pr_strindexn | apply pr_str_ln | apply pr_str_hn); exact rfl; exact rfl; exact rfl; (first | omega | (simp only [lns] <;> omega))) | ((with_reducible apply pr_str_lhn); exact rfl; exact rfl; exact rfl; exact rfl; (first | omega | (simp only [lns] <;> omega)); (first | omega | (simp only [lns] <;> omega))) | ((with_reducible first | apply pr_strindex | apply pr_str_l | apply pr_str_h); exact rfl; exact rfl; exact rfl; (first | omega | (simp only [lns] <;> omega)); (first | omega | (simp only [lns] <;> omega))) | ((with_reducible apply pr_str_lh); exact rfl; exact rfl; exact rfl; exact rfl; (first | omega | (simp only [lns] <;> omega)); (first | omega | (simp only [lns] <;> omega)); (first | omega | (simp only [lns] <;> omega))) | ((with_reducible apply pr_stradd); exact rfl; exact rfl; (first | omega | (simp only [lns] <;> omega))) | ((with_reducible apply pr_neg); exact rfl; (first | exact IntWalk.i64_in _ (by omega) | exact IntWalk.u64_in _ (by omega) | exact IntWalk.u8_in _ (by omega) | exact IntWalk.u32_in _ (by omega) | exact IntKind.wrap_u64 _ | exact IntKind.wrap_i64 _ | exact IntKind.wrap_u32 _ | exact IntKind.wrap_u8 _)) | ((with_reducible apply pr_shrv); exact rfl; exact rfl; (first | omega | (simp only [IntKind.bits] <;> omega)); (first | omega | (simp only [IntKind.bits] <;> omega)); ((try simp only [Int.reduceToNat, Int.reducePow, Nat.reducePow]); exact rfl)) | ((with_reducible apply pr_shlv); exact rfl; exact rfl; (first | omega | (simp only [IntKind.bits] <;> omega)); (first | omega | (simp only [IntKind.bits] <;> omega)); ((try simp only [Int.reduceToNat, Int.reducePow]); (first | exact IntWalk.i64_in _ (by omega) | exact IntWalk.u64_in _ (by omega) | exact IntWalk.u8_in _ (by omega) | exact IntWalk.u32_in _ (by omega) | exact IntKind.wrap_u64 _ | exact IntKind.wrap_i64 _ | exact IntKind.wrap_u32 _ | exact IntKind.wrap_u8 _))) | exact pr_bytes_str zrf zrf zrf zrf zrdb zlq | fail) : PR P n F C op v := h
theorem zprA (h : PR P n F C op v := by first | exact pr_indexArr1 zrf zrf zrf zrf zom | exact pr_indexArr1i zrf zrf zrf zrf zom zom | exact pr_loadA zrf (by repeat constructor) zrf zrf zlq | exact pr_load_arr zrf (by repeat constructor) zrf zom | ((with_reducible first | apply pr_aggeq2 | apply pr_aggne2); exact rfl; exact rfl; exact rfl; kernel_rfl; kernel_rfl; exact rfl) | fail) : PR P n F C op v := h
end
/-- what is left, so that nothing takes it for a fact -/
structure Wr (G : Prop) : Prop where
  out : G
section
variable {G G' G1 G2 : Prop}
theorem zss (k : G') (h : Wr G' → G := by intro k; first | ((with_reducible first | apply At.seq | apply At.nil | apply At.then_n | apply At.then_e | apply At.then_r | apply At.inb_n | apply At.inb_r | apply At.inb_here | apply At.block | apply At.skip | apply At.exit | apply At.ret | apply At.scope | apply At.label | apply At.nog_n | apply At.nog_r | apply At.nog_e | apply At.fin_n | apply AtQ.nil | apply At.app0 | apply At.app1 | apply At.app2 | apply At.app3 | apply At.app4 | apply At.app5 | apply At.app6 | apply At.app7); exact k.1) | ((with_reducible first | apply At.inb_past | apply At.regionf); exact rfl; exact k.1) | ((with_reducible apply At.quiet); exact rfl; kernel_rfl; kernel_rfl; exact k.1) | ((with_reducible apply At.storeB); exact rfl; exact rfl; exact rfl; exact rfl; exact rfl; exact rfl; exact (by repeat constructor); exact rfl; exact k.1) | ((with_reducible first | apply AtQ.guard_y | apply At.guard_y); exact rfl; exact rfl; exact rfl; exact k.1) | ((with_reducible first | apply AtQ.guard_nt | apply At.guard_nt); exact rfl; exact rfl; exact rfl; exact k.1) | ((with_reducible first | apply AtQ.guard_nf | apply At.guard_nf); exact rfl; exact rfl; exact rfl; exact k.1) | ((with_reducible first | apply AtQ.guard_nu | apply At.guard_nu); exact rfl; exact rfl; exact rfl; exact k.1) | ((with_reducible first | apply At.cond_t | apply At.cond_f); exact rfl; exact k.1) | ((with_reducible apply At.cond_f); exact rfl; exact k.1) | fail) : G := h ⟨k⟩
theorem zsx (k : G') (h : Wr G' → G := by intro k; first | ((with_reducible apply At.back); exact zlf; exact zml; exact k.1) | ((with_reducible apply At.backX); exact k.1) | ((with_reducible first | apply AtM.qo | apply AtM.done); exact rfl; exact k.1) | ((with_reducible apply AtM.done); exact rfl; exact k.1) | ((with_reducible first | apply AtM.xo | apply AtM.lo); exact rfl; exact rfl; exact k.1) | ((with_reducible first | apply AtQ.guard_y | apply At.guard_y | apply AtM1.guard_y); exact rfl; exact rfl; exact rfl; exact k.1) | ((with_reducible first | apply AtQ.guard_nt | apply At.guard_nt | apply AtM1.guard_nt); exact rfl; exact rfl; exact rfl; exact k.1) | ((with_reducible first | apply AtQ.guard_nf | apply At.guard_nf | apply AtM1.guard_nf); exact rfl; exact rfl; exact rfl; exact k.1) | ((with_reducible first | apply AtQ.guard_nu | apply At.guard_nu | apply AtM1.guard_nu); exact rfl; exact rfl; exact rfl; exact k.1) | fail) : G := h ⟨k⟩
theorem zs0 (k : G') (h : Wr G' → G := by intro k; ((with_reducible first | apply At.val | apply AtQ.val); exact zpr0; exact rfl; exact k.1)) : G := h ⟨k⟩
theorem zsO (k : G') (h : Wr G' → G := by intro k; ((with_reducible first | apply At.val | apply AtQ.val); exact zprO; exact rfl; exact k.1)) : G := h ⟨k⟩
theorem zsM (k : G') (h : Wr G' → G := by intro k; ((with_reducible first | apply At.val | apply AtQ.val); exact zprM; exact rfl; exact k.1)) : G := h ⟨k⟩
theorem zsOM (k : G') (h : Wr G' → G := by intro k; ((with_reducible first | apply At.val | apply AtQ.val); exact zprOM; exact rfl; exact k.1)) : G := h ⟨k⟩
theorem zx0 (k : G') (h : Wr G' → G := by intro k; first | ((with_reducible first | apply AtM1.valz | apply AtM1.val); exact rfl; exact zpr0; exact rfl; exact k.1) | ((with_reducible apply AtM1.val); exact rfl; exact zpr0; exact rfl; exact k.1) | fail) : G := h ⟨k⟩
theorem zxO (k : G') (h : Wr G' → G := by intro k; first | ((with_reducible first | apply AtM1.valz | apply AtM1.val); exact rfl; exact zprO; exact rfl; exact k.1) | ((with_reducible apply AtM1.val); exact rfl; exact zprO; exact rfl; exact k.1) | fail) : G := h ⟨k⟩
theorem zxM (k : G') (h : Wr G' → G := by intro k; first | ((with_reducible first | apply AtM1.valz | apply AtM1.val); exact rfl; exact zprM; exact rfl; exact k.1) | ((with_reducible apply AtM1.val); exact rfl; exact zprM; exact rfl; exact k.1) | fail) : G := h ⟨k⟩
theorem zxOM (k : G') (h : Wr G' → G := by intro k; first | ((with_reducible first | apply AtM1.valz | apply AtM1.val); exact rfl; exact zprOM; exact rfl; exact k.1) | ((with_reducible apply AtM1.val); exact rfl; exact zprOM; exact rfl; exact k.1) | fail) : G := h ⟨k⟩
theorem zsp (k1 : G1) (k2 : G2) (h : G1 → G2 → G := by intro k1 k2; first | ((with_reducible apply At.cond); exact rfl; exact k1; exact k2) | ((with_reducible first | apply At.guard_s | apply AtQ.guard_s | apply AtM1.guard_s); exact rfl; exact rfl; exact k1; exact k2) | fail) : G := h k1 k2
end
section
variable {P : Program} {n : Nat} {w0 : World} {F : Fr} {m : Mem} {Rs : List Res} {Q : Exit → Act → World → Prop} {K : Act → World → Prop}
theorem At.c1 {d : Nat} {ops : Array Oper} {rest : List Oper} {g : FuncId} {xs : List Operand} {ts : Array TypeId} {ty : TypeId} {pos : String} {aft : Array Edge} {vs : List Value} {A Rest : List Res} {R : Value → Mem → List Res → Prop}
    (hx : evs F xs = some vs) (hd : Nat.blt d n = true) (hc : Ct P g vs.toArray m A R) (hA : Take A Rs Rest) (hg : goFn P g = true)
    (h : ∀ v m' B, m.le m' → R v m' B → At n w0 ((d, v) :: F) m' (B ++ Rest) (wpList P ops Q rest)) :
    At n w0 F m Rs (wpList P ops Q (⟨some d, .call ⟨.value (.func g), xs.toArray, ts⟩, ty, pos, aft, none⟩ :: rest)) := At.callt1 hg hx hd hc hA h
theorem At.c0 {ops : Array Oper} {rest : List Oper} {g : FuncId} {xs : List Operand} {ts : Array TypeId} {ty : TypeId} {pos : String} {aft : Array Edge} {vs : List Value} {A Rest : List Res} {R : Value → Mem → List Res → Prop}
    (hx : evs F xs = some vs) (hd : n = n) (hc : Ct P g vs.toArray m A R) (hA : Take A Rs Rest) (hg : goFn P g = true)
    (h : ∀ v m' B, m.le m' → R v m' B → At n w0 F m' (B ++ Rest) (wpList P ops Q rest)) :
    At n w0 F m Rs (wpList P ops Q (⟨none, .call ⟨.value (.func g), xs.toArray, ts⟩, ty, pos, aft, none⟩ :: rest)) := At.callt0 hg hx hc hA h
theorem At.cr {ops : Array Oper} {rest : List Oper} {d : Nat} {g : FuncId} {xs : List Operand} {ts : Array TypeId} {ty : TypeId} {pos : String} {aft : Array Edge} {vs : List Value} {V : Value} {A Y : List Res}
    (hx : evs F xs = some vs) (hd : Nat.blt d n = true) (hc : ∀ m', m.le m' → Rd P g vs.toArray m' A V) (hA : Take A Rs Y) (hg : goFn P g = true)
    (h : At n w0 ((d, V) :: F) m Rs (wpList P ops Q rest)) : At n w0 F m Rs (wpList P ops Q (⟨some d, .call ⟨.value (.func g), xs.toArray, ts⟩, ty, pos, aft, none⟩ :: rest)) := At.callr hg hx hd hc hA h
theorem AtQ.cr {ops : Array Oper} {rest : List Oper} {Qq : Act → Prop} {d : Nat} {g : FuncId} {xs : List Operand} {ts : Array TypeId} {ty : TypeId} {pos : String} {aft : Array Edge} {vs : List Value} {V : Value} {A Y : List Res}
    (hx : evs F xs = some vs) (hd : Nat.blt d n = true) (hc : ∀ m', m.le m' → Rd P g vs.toArray m' A V) (hA : Take A Rs Y) (hg : goFn P g = true)
    (h : AtQ P n ((d, V) :: F) (HW w0 m Rs) ops Qq rest) : AtQ P n F (HW w0 m Rs) ops Qq (⟨some d, .call ⟨.value (.func g), xs.toArray, ts⟩, ty, pos, aft, none⟩ :: rest) := AtQ.callr hg hx hd hc hA h
theorem AtM1.cr {X : List Res} {l : List Oper} {f : Nat} {s : Array Bool} {p : Plan} {d : Nat} {g : FuncId} {xs : List Operand} {ts : Array TypeId} {ty : TypeId} {pos : String} {aft : Array Edge} {vs : List Value} {V : Value} {A Y : List Res}
    (hx : evs F xs = some vs) (hd : Nat.blt d n = true) (hc : ∀ m', m.le m' → Rd P g vs.toArray m' A V) (hA : Take A Rs Y) (hg : goFn P g = true)
    (h : AtM P n w0 ((d, V) :: F) m Rs X K l f s p) : AtM1 P n w0 F m Rs X K l f s p ⟨some d, .call ⟨.value (.func g), xs.toArray, ts⟩, ty, pos, aft, none⟩ := AtM1.callr hg hx hd hc hA h
theorem At.apW {α : Type} [Inhabited α] {f : α → List Value} {sz : Nat} {E : TypeId} {p : Option Addr} {c : Nat} {l : List α} {Rs' : List Res} {ops : Array Oper} {rest : List Oper} {d : Nat} {x y : Operand} {t tx e2 : TypeId} {ty : TypeId} {pos : String} {aft : Array Edge} {ln : Nat} {p2 : Option Addr} {ln2 c2 : Nat} {l2 : List α}
    (hx : ev F x = some (.slice p ln c)) (hy : ev F y = some (.slice p2 ln2 c2)) (hp : Pick Rs (.own f sz E p c l) Rs') (hf : Fl f sz) (h2 : Rdb (HW w0 m Rs) f sz p2 c2 l2 ∧ ln2 = l2.length) (ht : P.underlying t = some (.slice E)) (ht2 : P.underlying tx = some (.slice e2)) (he : elemB P E sz = true)
    (hln : ln = l.length) (hsm : l.length + l2.length ≤ 34359738368) (hd : Nat.blt d n = true)
    (h : ∀ p' c', At n w0 ((d, .slice p' (l ++ l2).length c') :: F) m (.own f sz E p' c' (l ++ l2) :: Rs') (wpList P ops Q rest)) :
    At n w0 F m Rs (wpList P ops Q (⟨some d, .call ⟨.builtin .append, #[x, y], #[t, tx]⟩, ty, pos, aft, none⟩ :: rest)) := At.appendW hx hy hp hf h2.1 h2.2 ht ht2 he hln hsm hd h
theorem zrdl {α : Type} [Inhabited α] {f : α → List Value} {sz : Nat} {C : World → Prop} {p2 : Option Addr} {c2 ln2 : Nat} {l2 : List α} (h : Rdb C f sz p2 c2 l2 ∧ ln2 = l2.length := by first | exact ⟨own_rdb inferInstance (by repeat constructor), zlq⟩ | exact ⟨Sl.rdb zsla, zlq⟩ | exact ⟨Rdb.sub (own_rdb inferInstance (by repeat constructor)) _ _ zom zom, zlq⟩ | exact ⟨Rdb.sub (Sl.rdb zsla) _ _ zom zom, zlq⟩ | exact ⟨Rdb.subl (own_rdb inferInstance (by repeat constructor)) _ zom, zlq⟩ | exact ⟨Rdb.subl (Sl.rdb zsla) _ zom, zlq⟩ | exact ⟨Rdb.subh (own_rdb inferInstance (by repeat constructor)) _ zom, zlq⟩ | exact ⟨Rdb.subh (Sl.rdb zsla) _ zom, zlq⟩ | fail) : Rdb C f sz p2 c2 l2 ∧ ln2 = l2.length := h
end
end Go.J
/- The contracts of the package wide. -/
set_option linter.unusedSimpArgs false
set_option linter.unusedVariables false
set_option linter.unusedSectionVars false
set_option maxRecDepth 20000
set_option maxHeartbeats 4000000
namespace Go.Proofs.YtpdleggpmhlagaaDoor
open Go Go.J
attribute [local irreducible] At AtQ AtM AtM1 PR Ct Pu Rd Res.blk Res.own Res.ex RVs RV
namespace Wide
abbrev wd (x : Nat) : List Value := [.int .u64 ((x / 18446744073709551616 : Nat) : Int), .int .u64 ((x % 18446744073709551616 : Nat) : Int)]
abbrev wv (x : Nat) : Value := .agg (wd x).toArray
instance : Fl wd 2 := ⟨fun _ => rfl, fun x v h => by simp at h; rcases h with rfl | rfl <;> rfl, by decide⟩
def sV (x : Nat) : Nat := if x < 340282366920938463463374607431768211456 then x else 0
def sE (x : Nat) : Int := if x < 340282366920938463463374607431768211456 then 0 else 1
theorem sV_lt (x : Nat) : sV x < 340282366920938463463374607431768211456 := by unfold sV; split <;> omega
theorem wd_mk {x : Nat} {h l : Int} (hh : h = ((x / 18446744073709551616 : Nat) : Int)) (hl : l = ((x % 18446744073709551616 : Nat) : Int)) : Value.agg #[.int .u64 h, .int .u64 l] = wv x := by subst hh hl; rfl

theorem add64 {n : Nat} {F : Fr} {C : World → Prop} {x y z : Operand} {ts : Array TypeId} {a b c : Int} (hx : ev F x = some (.int .u64 a)) (hy : ev F y = some (.int .u64 b)) (hz : ev F z = some (.int .u64 c)) (h0 : 0 ≤ a) (h1 : 0 ≤ b) (h2 : 0 ≤ c) (h3 : c ≤ 1) :
    PR Tryd.prog n F C (.call ⟨.value (.func 39), #[x, y, z], ts⟩) (.tuple #[.int .u64 ((a + b + c) % 18446744073709551616), .int .u64 ((a + b + c) / 18446744073709551616)]) :=
  pr_extern (xs := [x, y, z]) (vs := [.int .u64 a, .int .u64 b, .int .u64 c]) (e := add64Entry) Tryd.func39 (by kernel_rfl) (by kernel_rfl) (by kernel_rfl) (by kernel_rfl) (by simp [evs, hx, hy, hz]) fun w => run_add64 a b c h0 h1 h2 h3 w

theorem of_ (x : Nat) (h : x < 18446744073709551616) : Pu Tryd.prog 23 #[.int .u64 (x : Int)] (wv x) := Pu.intro fun m => by
  refine Ct.enterV (by rfl) Tryd.func23 rfl Tryd.ntmps23 rfl (fun w0 Rest => ?_)
  (repeat' (first | refine zss ?_ | ((first | (with_reducible first | apply At.val | apply AtQ.val)); (exact zprA); exact rfl) | refine zs0 ?_ | ((with_reducible apply At.alloc (d := 2)); exact rfl; exact rfl; intro b2) | (refine zsp ?_ ?_ <;> (intro hc; (try simp only [zhcs, reduceCtorEq] at hc); (try (exfalso; first | contradiction | omega | exact absurd rfl hc | exact absurd (by decide) hc))))))
  all_goals ((with_reducible apply At.retV (B := [])); exact rfl; (repeat' (first | exact RVs.nil | (with_reducible apply RVs.cons) | exact rv_tmp (by rfl) | exact rv_cellN (by rfl) (by repeat constructor) (by rfl) (by rfl) (by rfl) | exact rv_cell1 (by rfl) (by repeat constructor) (by rfl) (by rfl) | exact rv_cellA (by rfl) (by repeat constructor) (by rfl) (by rfl) zlq)); exact zml; exact zkp; exact ⟨wd_mk (by omega) (by omega), rfl, rfl⟩)
theorem ofI (x : Int) (h0 : 0 ≤ x) (h : x < 18446744073709551616) : Pu Tryd.prog 23 #[.int .u64 x] (wv x.toNat) := by
  have := of_ x.toNat (by omega)
  rwa [Int.toNat_of_nonneg h0] at this
theorem sure0 (a b o : Int) (ho : o = 0) : Pu Tryd.prog 40 #[.agg #[.int .u64 a, .int .u64 b], .int .u64 o] (.tuple #[.agg #[.int .u64 a, .int .u64 b], .int .i64 0]) := Pu.intro fun m => by
  refine Ct.enterV (by rfl) Tryd.func40 rfl Tryd.ntmps40 rfl (fun w0 Rest => ?_)
  (repeat' (first | refine zss ?_ | ((first | (with_reducible first | apply At.val | apply AtQ.val)); (exact zprA); exact rfl) | refine zs0 ?_ | ((with_reducible apply At.box (d := 2)); exact rfl; exact rfl; exact rfl; intro b2) | ((with_reducible apply At.alloc (d := 4)); exact rfl; exact rfl; intro b4) | (refine zsp ?_ ?_ <;> (intro hc; (try simp only [zhcs, reduceCtorEq] at hc); (try (exfalso; first | omega | contradiction | omega | exact absurd rfl hc | exact absurd (by decide) hc))))))
  all_goals ((with_reducible apply At.retV (B := [])); exact rfl; (repeat' (first | exact RVs.nil | (with_reducible apply RVs.cons) | exact rv_tmp (by rfl) | exact rv_cellN (by rfl) (by repeat constructor) (by rfl) (by rfl) (by rfl) | exact rv_cell1 (by rfl) (by repeat constructor) (by rfl) (by rfl) | exact rv_cellA (by rfl) (by repeat constructor) (by rfl) (by rfl) zlq)); exact zml; exact zkp; exact ⟨rfl, rfl, rfl⟩)
theorem sure1 (a b o : Int) (ho : o ≠ 0) : Pu Tryd.prog 40 #[.agg #[.int .u64 a, .int .u64 b], .int .u64 o] (.tuple #[wv 0, .int .i64 1]) := Pu.intro fun m => by
  refine Ct.enterV (by rfl) Tryd.func40 rfl Tryd.ntmps40 rfl (fun w0 Rest => ?_)
  (repeat' (first | refine zss ?_ | ((first | (with_reducible first | apply At.val | apply AtQ.val)); (exact zprA); exact rfl) | refine zs0 ?_ | ((with_reducible apply At.box (d := 2)); exact rfl; exact rfl; exact rfl; intro b2) | ((with_reducible apply At.alloc (d := 4)); exact rfl; exact rfl; intro b4) | (refine zsp ?_ ?_ <;> (intro hc; (try simp only [zhcs, reduceCtorEq] at hc); (try (exfalso; first | omega | contradiction | omega | exact absurd rfl hc | exact absurd (by decide) hc))))))
  all_goals ((with_reducible apply At.retV (B := [])); exact rfl; (repeat' (first | exact RVs.nil | (with_reducible apply RVs.cons) | exact rv_tmp (by rfl) | exact rv_cellN (by rfl) (by repeat constructor) (by rfl) (by rfl) (by rfl) | exact rv_cell1 (by rfl) (by repeat constructor) (by rfl) (by rfl) | exact rv_cellA (by rfl) (by repeat constructor) (by rfl) (by rfl) zlq)); exact zml; exact zkp; exact ⟨rfl, rfl, rfl⟩)
theorem less (x y : Nat) : Pu Tryd.prog 30 #[wv x, wv y] (.bool (decide (x < y))) := Pu.intro fun m => by
  by_cases h : x < y
  · rw [decide_eq_true h]
    refine Ct.enterV (by rfl) Tryd.func30 rfl Tryd.ntmps30 rfl (fun w0 Rest => ?_)
    (repeat' (first | refine zss ?_ | ((first | (with_reducible first | apply At.val | apply AtQ.val)); (exact zprA); exact rfl) | refine zs0 ?_ | ((with_reducible apply At.box (d := 2)); exact rfl; exact rfl; exact rfl; intro b2) | ((with_reducible apply At.box (d := 3)); exact rfl; exact rfl; exact rfl; intro b3) | (refine zsp ?_ ?_ <;> (intro hc; (try simp only [zhcs, reduceCtorEq] at hc); (try (exfalso; first | omega | contradiction | omega | exact absurd rfl hc | exact absurd (by decide) hc))))))
    all_goals ((with_reducible apply At.retB1 (B := [])); exact rfl; exact rfl; exact zml; exact zkp; exact ⟨by first | rfl | exact congrArg Value.bool (decide_eq_true (by omega)) | exact congrArg Value.bool (decide_eq_false (by omega)), rfl, rfl⟩)
  · rw [decide_eq_false h]
    refine Ct.enterV (by rfl) Tryd.func30 rfl Tryd.ntmps30 rfl (fun w0 Rest => ?_)
    (repeat' (first | refine zss ?_ | ((first | (with_reducible first | apply At.val | apply AtQ.val)); (exact zprA); exact rfl) | refine zs0 ?_ | ((with_reducible apply At.box (d := 2)); exact rfl; exact rfl; exact rfl; intro b2) | ((with_reducible apply At.box (d := 3)); exact rfl; exact rfl; exact rfl; intro b3) | (refine zsp ?_ ?_ <;> (intro hc; (try simp only [zhcs, reduceCtorEq] at hc); (try (exfalso; first | omega | contradiction | omega | exact absurd rfl hc | exact absurd (by decide) hc))))))
    all_goals ((with_reducible apply At.retB1 (B := [])); exact rfl; exact rfl; exact zml; exact zkp; exact ⟨by first | rfl | exact congrArg Value.bool (decide_eq_true (by omega)) | exact congrArg Value.bool (decide_eq_false (by omega)), rfl, rfl⟩)
theorem mul64 (x y : Int) (hx0 : 0 ≤ x) (hx : x < 18446744073709551616) (hy0 : 0 ≤ y) (hy : y < 18446744073709551616) : Pu Tryd.prog 38 #[.int .u64 x, .int .u64 y] (.tuple #[.int .u64 (x * y / 18446744073709551616), .int .u64 (x * y % 18446744073709551616)]) := Pu.intro fun m => by
  have key := mul64_arith x y hx0 hx hy0 hy
  refine Ct.enterV (by rfl) Tryd.func38 rfl Tryd.ntmps38 rfl (fun w0 Rest => ?_)
  (repeat' (first | refine zss ?_ | ((first | (with_reducible first | apply At.val | apply AtQ.val)); (first | exact pr_and (by rfl) (by rfl) (and_low32 _ (by omega) (by omega)) | exact pr_mul (by rfl) (by rfl) (IntKind.wrap_u64 _) | exact pr_add (by rfl) (by rfl) (IntKind.wrap_u64 _) | exact zprA); exact rfl) | refine zs0 ?_ | (refine zsp ?_ ?_ <;> (intro hc; (try simp only [zhcs, reduceCtorEq] at hc); (try (exfalso; first | contradiction | omega | exact absurd rfl hc | exact absurd (by decide) hc))))))
  all_goals ((with_reducible apply At.retB2 (B := [])); (iterate 3 exact rfl); exact zml; exact zkp; exact ⟨by rw [← key], rfl, rfl⟩)
theorem or_zero {a b : Int} (ha : a = 0) (hb : b = 0) : bits .or .u64 a b = 0 := by subst ha hb; rfl
theorem or_ne {a b : Int} (ha : 0 ≤ a ∧ a < 18446744073709551616) (hb : 0 ≤ b ∧ b < 18446744073709551616) (h : a ≠ 0 ∨ b ≠ 0) : bits .or .u64 a b ≠ 0 := by
  rw [u64_or a b ha.1 ha.2 hb.1 hb.2]
  intro e
  have e0 : a.toNat ||| b.toNat = 0 := by omega
  have e1 : a.toNat = 0 := by
    have := Nat.left_le_or (n := a.toNat) (m := b.toNat)
    omega
  have e2 : b.toNat = 0 := by
    have := Nat.right_le_or (n := a.toNat) (m := b.toNat)
    omega
  omega
theorem times (x k : Nat) (hx : x < 340282366920938463463374607431768211456) (hk : k < 18446744073709551616) : Pu Tryd.prog 22 #[wv x, .int .u64 (k : Int)] (.tuple #[wv (sV (x * k)), .int .i64 (sE (x * k))]) := Pu.intro fun m => by
  obtain ⟨p, hp⟩ : ∃ p : Nat, p = x % 18446744073709551616 * k := ⟨_, rfl⟩
  obtain ⟨q, hq⟩ : ∃ q : Nat, q = x / 18446744073709551616 * k := ⟨_, rfl⟩
  have hxk : x * k = q * 18446744073709551616 + p := by
    rw [hp, hq, Nat.mul_right_comm, ← Nat.add_mul, Nat.mul_comm (x / 18446744073709551616), Nat.div_add_mod]
  have m1 := mul64 ((x % 18446744073709551616 : Nat) : Int) (k : Int) (by omega) (by omega) (by omega) (by omega)
  have m2 := mul64 ((x / 18446744073709551616 : Nat) : Int) (k : Int) (by omega) (by omega) (by omega) (by omega)
  rw [← Int.natCast_mul, ← hp] at m1
  rw [← Int.natCast_mul, ← hq] at m2
  have hpb : p ≤ 18446744073709551615 * 18446744073709551615 := by rw [hp]; exact Nat.mul_le_mul (by omega) (by omega)
  have hqb : q ≤ 18446744073709551615 * 18446744073709551615 := by rw [hq]; exact Nat.mul_le_mul (by omega) (by omega)
  rw [hxk]
  clear hp hq hxk
  by_cases h : q * 18446744073709551616 + p < 340282366920938463463374607431768211456
  · have e1 : sV (q * 18446744073709551616 + p) = q * 18446744073709551616 + p := if_pos h
    have e2 : sE (q * 18446744073709551616 + p) = 0 := if_pos h
    rw [e1, e2]
    refine Ct.enterV (by rfl) Tryd.func22 rfl Tryd.ntmps22 rfl (fun w0 Rest => ?_)
    (repeat' (first | refine zss ?_ | ((first | (with_reducible first | apply At.val | apply AtQ.val)); (first | exact add64 (by rfl) (by rfl) (by rfl) (by omega) (by omega) (by omega) (by omega) | exact pr_or (by rfl) (by rfl) (or_zero (by omega) (by omega)) | exact zprA); exact rfl) | refine zs0 ?_ | ((with_reducible first | apply AtM1.callp | apply AtQ.callp | apply At.callp); kernel_rfl; exact rfl; exact rfl; exact m1) | ((with_reducible first | apply AtM1.callp | apply AtQ.callp | apply At.callp); kernel_rfl; exact rfl; exact rfl; exact m2) | ((with_reducible first | apply AtM1.callp | apply AtQ.callp | apply At.callp); kernel_rfl; exact rfl; exact rfl; exact sure0 _ _ _ (by omega)) | ((with_reducible apply At.box (d := 2)); exact rfl; exact rfl; exact rfl; intro b2) | ((with_reducible apply At.alloc (d := 4)); exact rfl; exact rfl; intro b4) | (refine zsp ?_ ?_ <;> (intro hc; (try simp only [zhcs, reduceCtorEq] at hc); (try (exfalso; first | contradiction | omega | exact absurd rfl hc | exact absurd (by decide) hc))))))
    all_goals ((with_reducible apply At.retV (B := [])); exact rfl; (repeat' (first | exact RVs.nil | (with_reducible apply RVs.cons) | exact rv_tmp (by rfl) | exact rv_cellN (by rfl) (by repeat constructor) (by rfl) (by rfl) (by rfl) | exact rv_cell1 (by rfl) (by repeat constructor) (by rfl) (by rfl) | exact rv_cellA (by rfl) (by repeat constructor) (by rfl) (by rfl) zlq)); exact zml; exact zkp; exact ⟨congrArg (fun v => Value.tuple #[v, .int .i64 0]) (wd_mk (by omega) (by omega)), rfl, rfl⟩)
  · have e1 : sV (q * 18446744073709551616 + p) = 0 := if_neg h
    have e2 : sE (q * 18446744073709551616 + p) = 1 := if_neg h
    rw [e1, e2]
    refine Ct.enterV (by rfl) Tryd.func22 rfl Tryd.ntmps22 rfl (fun w0 Rest => ?_)
    (repeat' (first | refine zss ?_ | ((first | (with_reducible first | apply At.val | apply AtQ.val)); (first | exact add64 (by rfl) (by rfl) (by rfl) (by omega) (by omega) (by omega) (by omega) | exact zprA); exact rfl) | refine zs0 ?_ | ((with_reducible first | apply AtM1.callp | apply AtQ.callp | apply At.callp); kernel_rfl; exact rfl; exact rfl; exact m1) | ((with_reducible first | apply AtM1.callp | apply AtQ.callp | apply At.callp); kernel_rfl; exact rfl; exact rfl; exact m2) | ((with_reducible first | apply AtM1.callp | apply AtQ.callp | apply At.callp); kernel_rfl; exact rfl; exact rfl; exact sure1 _ _ _ (or_ne (by omega) (by omega) (by omega))) | ((with_reducible apply At.box (d := 2)); exact rfl; exact rfl; exact rfl; intro b2) | ((with_reducible apply At.alloc (d := 4)); exact rfl; exact rfl; intro b4) | (refine zsp ?_ ?_ <;> (intro hc; (try simp only [zhcs, reduceCtorEq] at hc); (try (exfalso; first | contradiction | omega | exact absurd rfl hc | exact absurd (by decide) hc))))))
    all_goals ((with_reducible apply At.retV (B := [])); exact rfl; (repeat' (first | exact RVs.nil | (with_reducible apply RVs.cons) | exact rv_tmp (by rfl) | exact rv_cellN (by rfl) (by repeat constructor) (by rfl) (by rfl) (by rfl) | exact rv_cell1 (by rfl) (by repeat constructor) (by rfl) (by rfl) | exact rv_cellA (by rfl) (by repeat constructor) (by rfl) (by rfl) zlq)); exact zml; exact zkp; exact ⟨rfl, rfl, rfl⟩)
end Wide
end Go.Proofs.YtpdleggpmhlagaaDoor
/- The plain law of a division by digits of 32 bits (no program). -/
set_option linter.unusedSimpArgs false
set_option linter.unusedVariables false
set_option linter.unusedSectionVars false
set_option maxRecDepth 20000
set_option maxHeartbeats 4000000
namespace Go.Proofs.YtpdleggpmhlagaaDoor
namespace Wide
/-- the state of a digit's search: q is not below the digit -/
structure Kn (u d y1 y0 q r : Nat) : Prop where
  eq : q * y1 + r = u
  ge : (u * 4294967296 + d) / (y1 * 4294967296 + y0) ≤ q
  lt : r < 4294967296
structure KnH (u d y1 y0 : Nat) : Prop where
  hu : u < y1 * 4294967296 + y0
  hd : d < 4294967296
  h1 : 2147483648 ≤ y1
  h2 : y1 < 4294967296
  h0 : y0 < 4294967296
theorem kn_ex (q y1 y0 : Nat) : q * (y1 * 4294967296 + y0) = q * y1 * 4294967296 + q * y0 := by rw [Nat.mul_add, ← Nat.mul_assoc]
theorem kn_digit {u d y1 y0 : Nat} (h : KnH u d y1 y0) : (u * 4294967296 + d) / (y1 * 4294967296 + y0) < 4294967296 := by
  have := h.hu; have := h.hd; have := h.h1
  rw [Nat.div_lt_iff_lt_mul (by omega)]
  omega
theorem kn_init {u d y1 y0 : Nat} (h : KnH u d y1 y0) : Kn u d y1 y0 (u / y1) (u % y1) := by
  have := h.hu; have := h.hd; have hy := h.h1; have := h.h2
  refine ⟨by rw [Nat.mul_comm]; exact Nat.div_add_mod u y1, ?_, Nat.lt_trans (Nat.mod_lt _ (by omega)) h.h2⟩
  apply Nat.le_of_lt_succ
  rw [Nat.div_lt_iff_lt_mul (by omega), kn_ex]
  have e := Nat.div_add_mod u y1
  have l := Nat.mod_lt u (show 0 < y1 by omega)
  rw [Nat.succ_mul, Nat.mul_comm (u / y1) y1]
  omega
theorem kn_stop {u d y1 y0 q r : Nat} (h : KnH u d y1 y0) (k : Kn u d y1 y0 q r) (hn : q * y0 ≤ r * 4294967296 + d) : (u * 4294967296 + d) / (y1 * 4294967296 + y0) = q := by
  have := h.h1; have := k.eq
  apply Nat.le_antisymm k.ge
  rw [Nat.le_div_iff_mul_le (by omega), kn_ex]
  omega
theorem kn_lt {u d y1 y0 q r : Nat} (h : KnH u d y1 y0) (k : Kn u d y1 y0 q r) (hn : 4294967296 ≤ q ∨ r * 4294967296 + d < q * y0) : (u * 4294967296 + d) / (y1 * 4294967296 + y0) < q := by
  have h1 := h.h1; have h2 := k.eq
  rcases hn with hn | hn
  · exact Nat.lt_of_lt_of_le (kn_digit h) hn
  · rw [Nat.div_lt_iff_lt_mul (by omega), kn_ex, ← h2, Nat.add_mul, Nat.add_assoc]
    exact Nat.add_lt_add_left hn _
theorem kn_le {u d y1 y0 q r : Nat} (h : KnH u d y1 y0) (k : Kn u d y1 y0 q r) : q ≤ 4294967297 := by
  have h1 := h.h1; have h2 := h.hu; have h3 := h.h0; have h4 := k.eq
  apply Classical.byContradiction
  intro hn
  have : 4294967298 * y1 ≤ q * y1 := Nat.mul_le_mul_right _ (by omega)
  omega
theorem kn_step {u d y1 y0 q r : Nat} (h : KnH u d y1 y0) (k : Kn u d y1 y0 q r) (hn : 4294967296 ≤ q ∨ r * 4294967296 + d < q * y0) (hr : r + y1 < 4294967296) : 0 < q ∧ Kn u d y1 y0 (q - 1) (r + y1) := by
  have l := kn_lt h k hn
  have hq0 : 0 < q := Nat.lt_of_le_of_lt (Nat.zero_le _) l
  obtain ⟨p, rfl⟩ : ∃ p, q = p + 1 := ⟨q - 1, by omega⟩
  have := k.eq
  rw [Nat.succ_mul] at this
  rw [Nat.add_sub_cancel]
  exact ⟨by omega, by omega, by omega, hr⟩
theorem kn_break {u d y1 y0 q r : Nat} (h : KnH u d y1 y0) (k : Kn u d y1 y0 q r) (hn : 4294967296 ≤ q ∨ r * 4294967296 + d < q * y0) (hr : 4294967296 ≤ r + y1) : (u * 4294967296 + d) / (y1 * 4294967296 + y0) = q - 1 := by
  have l := kn_lt h k hn
  have le := kn_le h k
  have h1 := h.h1; have h3 := h.h0
  have hq0 : 0 < q := Nat.lt_of_le_of_lt (Nat.zero_le _) l
  obtain ⟨p, rfl⟩ : ∃ p, q = p + 1 := ⟨q - 1, by omega⟩
  have e := k.eq
  rw [Nat.succ_mul] at e
  rw [Nat.add_sub_cancel]
  apply Nat.le_antisymm (by omega)
  rw [Nat.le_div_iff_mul_le (by omega), kn_ex]
  have : p * y0 ≤ 4294967296 * 4294967295 := Nat.mul_le_mul (by omega) (by omega)
  omega
/-- what is left of a digit, as the machine reckons -/
theorem kn_left {T Y q : Nat} (hY : 0 < Y) (hq : T / Y = q) : q * Y ≤ T ∧ T - q * Y = T % Y := by
  have := Nat.div_add_mod T Y
  rw [hq, Nat.mul_comm] at this
  omega
/-- both digits together -/
theorem kn_all {u d1 d0 Y : Nat} (hY : 0 < Y) :
    (u * 18446744073709551616 + (d1 * 4294967296 + d0)) / Y = (u * 4294967296 + d1) / Y * 4294967296 + ((u * 4294967296 + d1) % Y * 4294967296 + d0) / Y ∧
    (u * 18446744073709551616 + (d1 * 4294967296 + d0)) % Y = ((u * 4294967296 + d1) % Y * 4294967296 + d0) % Y := by
  obtain ⟨T, hT⟩ : ∃ T, T = u * 4294967296 + d1 := ⟨_, rfl⟩
  have e : u * 18446744073709551616 + (d1 * 4294967296 + d0) = Y * (T / Y * 4294967296) + (T % Y * 4294967296 + d0) := by
    have := Nat.div_add_mod T Y
    rw [← Nat.mul_assoc]
    omega
  rw [← hT, e, Nat.mul_add_div hY, Nat.mul_add_mod]
  exact ⟨rfl, rfl⟩
/-- a quotient and what is left, of what both were shifted by -/
theorem shift_div (V y k : Nat) (hk : 0 < k) : V * k / (y * k) = V / y ∧ V * k % (y * k) / k = V % y := by
  rw [Nat.mul_div_mul_right _ _ hk, Nat.mul_mod_mul_right, Nat.mul_div_cancel _ hk]
  exact ⟨rfl, rfl⟩
/-- how far y is shifted -/
theorem lead (y : Nat) (h0 : 0 < y) (h : y < 18446744073709551616) : Lib.bitLen y ≤ 64 ∧ 0 < Lib.bitLen y ∧ 9223372036854775808 ≤ y * 2 ^ (64 - Lib.bitLen y) ∧ y * 2 ^ (64 - Lib.bitLen y) < 18446744073709551616 := by
  have hb := Lib.bitLenAux_bounds 64 y h (by omega)
  have hl := Lib.bitLen_le y 64 (Nat.le_refl _) h
  have e : Lib.bitLen y = Lib.bitLenAux 64 y := rfl
  rw [← e] at hb
  obtain ⟨b, hbl⟩ : ∃ b, Lib.bitLen y = b := ⟨_, rfl⟩
  rw [hbl] at hb hl ⊢
  obtain ⟨h1, h2, h3⟩ := hb
  refine ⟨hl, h1, ?_, ?_⟩
  · calc 9223372036854775808 = 2 ^ (b - 1) * 2 ^ (64 - b) := by rw [← Nat.pow_add, show b - 1 + (64 - b) = 63 by omega]
      _ ≤ _ := Nat.mul_le_mul_right _ h2
  · calc y * 2 ^ (64 - b) < 2 ^ b * 2 ^ (64 - b) := Nat.mul_lt_mul_of_pos_right h3 (Nat.pow_pos (by decide))
      _ = _ := by rw [← Nat.pow_add, show b + (64 - b) = 64 by omega]
/-- the upper part of what is shifted -/
theorem shift_up (h l s b : Nat) (hsb : s + b = 64) : (h * 18446744073709551616 + l) * 2 ^ s / 18446744073709551616 = h * 2 ^ s + l / 2 ^ b ∧ (h * 18446744073709551616 + l) * 2 ^ s % 18446744073709551616 = l * 2 ^ s % 18446744073709551616 := by
  have e : (18446744073709551616 : Nat) = 2 ^ b * 2 ^ s := by rw [← Nat.pow_add, show b + s = 64 by omega]
  have e2 : (h * 18446744073709551616 + l) * 2 ^ s = 18446744073709551616 * (h * 2 ^ s) + l * 2 ^ s := by
    rw [Nat.add_mul, Nat.mul_right_comm, Nat.mul_comm (h * 2 ^ s)]
  have e3 : l * 2 ^ s / 18446744073709551616 = l / 2 ^ b := by
    rw [e, Nat.mul_div_mul_right _ _ (Nat.pow_pos (by decide))]
  rw [e2, Nat.mul_add_div (by decide), Nat.mul_add_mod, e3]
  exact ⟨rfl, rfl⟩
end Wide
end Go.Proofs.YtpdleggpmhlagaaDoor
/- Contracts of the library's shelf as contracts of this layer. -/
set_option linter.unusedSimpArgs false
set_option linter.unusedVariables false
set_option linter.unusedSectionVars false
set_option maxRecDepth 20000
namespace Go.J
open Go Go.RowKit
variable {P : Program} {m : Mem}
theorem Pu.of_same {f : FuncId} {args : Array Value} {V : Value} (h : ∀ w, Calls P f args w fun e w' => e = .returned V ∧ w' = w) : Pu P f args V :=
  fun m w0 Rest w hw => (h w).mono fun e w' ⟨he, hw'⟩ => ⟨V, m, [], he, Mem.le_refl m, ⟨rfl, rfl, rfl⟩, hw' ▸ hw⟩
/-- what comes back is a new list that the caller owns -/
theorem Ct.of_row {α : Type} {f : FuncId} {args : Array Value} {fl : α → List Value} {E : TypeId} {L : List α} (hf : Fl fl 1)
    (h : ∀ w : World, (∀ k o, m k = some o → w.heap[k]? = some o) → Calls P f args w fun e w' => ∃ v', e = .returned v' ∧ w'.ownsRow w.heap.size E 1 v' L.length (L.flatMap fl) ∧ Below w.heap.size w w') :
    Ct P f args m [] (fun v m' B => ∃ p c, v = .slice p L.length c ∧ m = m' ∧ B = [.own fl 1 E p c L]) := by
  intro w0 Rest w hw
  refine (h w hw.mem).mono ?_
  rintro e w' ⟨v', rfl, ⟨hl, hv⟩, hb⟩
  obtain ⟨s, hs, hm⟩ := hw.res
  have hs' : Sat Rest w' s := Sat.loc hs (fun k hk => hb.block k (hs.dom hk))
  have hmem : ∀ k o, m k = some o → w'.heap[k]? = some o := fun k o hk => by
    have h0 := hw.mem k o hk
    rw [hb.block k (Array.getElem?_eq_some_iff.1 h0).1]; exact h0
  rcases hv with ⟨rfl, hn⟩ | ⟨g, cap, cur, rfl, hg, hcell, hn, hcap, hsz, htake⟩
  · have hL : L = [] := List.length_eq_zero_iff.1 hn
    subst hL
    exact ⟨_, m, [_], rfl, Mem.le_refl m, ⟨none, 0, rfl, rfl, rfl⟩, hb.os.trans hw.os, hb.tape.trans hw.tape, hb.output.trans hw.output, Nat.le_trans hw.size hb.size, hmem,
      s, ⟨fun _ => False, s, .inl ⟨rfl, rfl, rfl, fun _ h => h⟩, hs', fun k ⟨x, _⟩ => x, fun k => ⟨.inr, fun x => x.elim (fun y => y.elim) id⟩⟩, hm⟩
  · refine ⟨_, m, [_], rfl, Mem.le_refl m, ⟨some ⟨g, 0, none⟩, cap, rfl, rfl, rfl⟩, hb.os.trans hw.os, hb.tape.trans hw.tape, hb.output.trans hw.output, Nat.le_trans hw.size hb.size, hmem,
      fun k => k = g ∨ s k, ⟨fun k => k = g, s, .inr ⟨g, 0, cur, rfl, hcell, hn, hcap, by omega, fun j hj => ?_, fun k => Iff.rfl⟩, hs', fun k ⟨x, y⟩ => ?_, fun k => Iff.rfl⟩, ?_⟩
    · rw [← htake, Nat.zero_add, List.getElem?_take, if_pos hj, Array.getElem?_toList]
    · have := hs.dom y
      have hk : k = g := x
      omega
    · rintro k (rfl | hk)
      · cases hk : m k with
        | none => rfl
        | some o =>
          have h0 := (Array.getElem?_eq_some_iff.1 (hw.mem k o hk)).1
          omega
      · exact hm k hk
end Go.J
/- Contracts of Go's library off the shelf, laid at this program (in plain words, by the shelf's own tools). -/
set_option linter.unusedSimpArgs false
set_option linter.unusedVariables false
set_option linter.unusedSectionVars false
set_option maxRecDepth 20000
namespace Go.Proofs.YtpdleggpmhlagaaDoor
open Go Go.Shelf
set_option maxRecDepth 100000
def laysmn288_ren : Go.Shelf.Ren := ⟨fun | 288 => 54 | 283 => 56 | 284 => 57 | 285 => 58 | 286 => 59 | 129 => 52 | 317 => 61 | 318 => 62 | 319 => 63 | 320 => 64 | 337 => 65 | 338 => 47 | n => n, fun | 37 => 62 | 53 => 22 | 3 => 3 | 4 => 4 | 9 => 9 | 171 => 70 | 0 => 0 | 173 => 72 | 212 => 78 | 51 => 79 | 5 => 5 | 20 => 20 | 213 => 80 | 46 => 67 | 232 => 84 | 233 => 68 | n => n, fun | 17 => 4 | 18 => 5 | 19 => 1 | n => n⟩
theorem laysmn288 : Go.Proofs.LaysM.n288 Tryd.prog laysmn288_ren := {
  mixed := by kernel_rfl
  f129 := Tryd.func52.trans (congrArg some (by kernel_rfl))
  f283 := Tryd.func56.trans (congrArg some (by kernel_rfl))
  f284 := Tryd.func57.trans (congrArg some (by kernel_rfl))
  f285 := Tryd.func58.trans (congrArg some (by kernel_rfl))
  f286 := Tryd.func59.trans (congrArg some (by kernel_rfl))
  f288 := Tryd.func54.trans (congrArg some (by kernel_rfl))
  f317 := Tryd.func61.trans (congrArg some (by kernel_rfl))
  f318 := Tryd.func62.trans (congrArg some (by kernel_rfl))
  f319 := Tryd.func63.trans (congrArg some (by kernel_rfl))
  f320 := Tryd.func64.trans (congrArg some (by kernel_rfl))
  f337 := Tryd.func65.trans (congrArg some (by kernel_rfl))
  f338 := Tryd.func47.trans (congrArg some (by kernel_rfl))
  t0 := Tryd.underlying0
  a0 := Tryd.isAgg0
  z0 := Tryd.sizeOf0
  v0 := Tryd.zeroValue0
  t3 := Tryd.underlying3
  a3 := Tryd.isAgg3
  z3 := Tryd.sizeOf3
  v3 := Tryd.zeroValue3
  t4 := Tryd.underlying4
  a4 := Tryd.isAgg4
  z4 := Tryd.sizeOf4
  v4 := Tryd.zeroValue4
  t5 := Tryd.underlying5
  a5 := Tryd.isAgg5
  z5 := Tryd.sizeOf5
  v5 := Tryd.zeroValue5
  t9 := Tryd.underlying9
  a9 := Tryd.isAgg9
  z9 := Tryd.sizeOf9
  v9 := Tryd.zeroValue9
  t20 := Tryd.underlying20
  a20 := Tryd.isAgg20
  z20 := Tryd.sizeOf20
  v20 := Tryd.zeroValue20
  t37 := Tryd.underlying62
  a37 := Tryd.isAgg62
  z37 := Tryd.sizeOf62
  v37 := Tryd.zeroValue62
  t46 := Tryd.underlying67
  a46 := Tryd.isAgg67
  z46 := Tryd.sizeOf67
  v46 := Tryd.zeroValue67
  t51 := Tryd.underlying79
  a51 := Tryd.isAgg79
  z51 := Tryd.sizeOf79
  v51 := Tryd.zeroValue79
  t53 := Tryd.underlying22
  a53 := Tryd.isAgg22
  z53 := Tryd.sizeOf22
  v53 := Tryd.zeroValue22
  t171 := Tryd.underlying70
  a171 := Tryd.isAgg70
  z171 := Tryd.sizeOf70
  v171 := Tryd.zeroValue70
  t173 := Tryd.underlying72
  a173 := Tryd.isAgg72
  z173 := Tryd.sizeOf72
  v173 := Tryd.zeroValue72
  t212 := Tryd.underlying78
  a212 := Tryd.isAgg78
  z212 := Tryd.sizeOf78
  v212 := Tryd.zeroValue78
  t213 := Tryd.underlying80
  a213 := Tryd.isAgg80
  z213 := Tryd.sizeOf80
  t232 := Tryd.underlying84
  a232 := Tryd.isAgg84
  z232 := Tryd.sizeOf84
  v232 := Tryd.zeroValue84
  t233 := Tryd.underlying68
  a233 := Tryd.isAgg68
  z233 := Tryd.sizeOf68
  v233 := Tryd.zeroValue68
  g17 := by kernel_rfl
  g18 := by kernel_rfl
  g19 := by kernel_rfl
  i0 := by kernel_rfl
  i3 := by kernel_rfl
  i4 := by kernel_rfl
  i5 := by kernel_rfl
  i9 := by kernel_rfl
  i20 := by kernel_rfl
  i37 := by kernel_rfl
  i46 := by kernel_rfl
  i51 := by kernel_rfl
  i53 := by kernel_rfl
  i171 := by kernel_rfl
  i173 := by kernel_rfl
  i212 := by kernel_rfl
  i232 := by kernel_rfl
  i233 := by kernel_rfl
  m17 := by kernel_rfl
  m18 := by kernel_rfl
  m19 := by kernel_rfl }
def laysn134_ren : Go.Shelf.Ren := ⟨fun | 134 => 60 | 129 => 52 | n => n, fun | 53 => 22 | 3 => 3 | 4 => 4 | 46 => 67 | 5 => 5 | 9 => 9 | n => n, fun | n => n⟩
theorem laysn134 : Go.Proofs.Lays.n134 Tryd.prog laysn134_ren := {
  mixed := by kernel_rfl
  f129 := Tryd.func52.trans (congrArg some (by kernel_rfl))
  f134 := Tryd.func60.trans (congrArg some (by kernel_rfl))
  t3 := Tryd.underlying3
  a3 := Tryd.isAgg3
  z3 := Tryd.sizeOf3
  v3 := Tryd.zeroValue3
  t4 := Tryd.underlying4
  a4 := Tryd.isAgg4
  z4 := Tryd.sizeOf4
  v4 := Tryd.zeroValue4
  t5 := Tryd.underlying5
  a5 := Tryd.isAgg5
  z5 := Tryd.sizeOf5
  v5 := Tryd.zeroValue5
  t9 := Tryd.underlying9
  a9 := Tryd.isAgg9
  z9 := Tryd.sizeOf9
  v9 := Tryd.zeroValue9
  t46 := Tryd.underlying67
  a46 := Tryd.isAgg67
  z46 := Tryd.sizeOf67
  v46 := Tryd.zeroValue67
  t53 := Tryd.underlying22
  a53 := Tryd.isAgg22
  z53 := Tryd.sizeOf22
  v53 := Tryd.zeroValue22 }
end Go.Proofs.YtpdleggpmhlagaaDoor
/- The package wide: one number less another one, and how often a number goes into another one. -/
set_option linter.unusedSimpArgs false
set_option linter.unusedVariables false
set_option linter.unusedSectionVars false
set_option maxRecDepth 20000
set_option maxHeartbeats 4000000
namespace Go.Proofs.YtpdleggpmhlagaaDoor
open Go Go.J
attribute [local irreducible] At AtQ AtM AtM1 PR Ct Pu Rd Res.blk Res.own Res.ex RVs RV
namespace Wide
def dE (x y : Nat) : Int := if x < y then 1 else 0
theorem sub64 {n : Nat} {F : Fr} {C : World → Prop} {x y z : Operand} {ts : Array TypeId} {a b c : Int} (hx : ev F x = some (.int .u64 a)) (hy : ev F y = some (.int .u64 b)) (hz : ev F z = some (.int .u64 c)) (h0 : 0 ≤ a ∧ a < 18446744073709551616) (h1 : 0 ≤ b ∧ b < 18446744073709551616) (h2 : 0 ≤ c) (h3 : c ≤ 1) :
    PR Tryd.prog n F C (.call ⟨.value (.func 53), #[x, y, z], ts⟩) (.tuple #[.int .u64 ((a - b - c) % 18446744073709551616), .int .u64 (-((a - b - c) / 18446744073709551616))]) :=
  pr_extern (xs := [x, y, z]) (vs := [.int .u64 a, .int .u64 b, .int .u64 c]) (e := sub64Entry) Tryd.func53 (by kernel_rfl) (by kernel_rfl) (by kernel_rfl) (by kernel_rfl) (by simp [evs, hx, hy, hz]) fun w => by
    obtain ⟨p, rfl⟩ : ∃ p : Nat, a = (p : Int) := ⟨a.toNat, by omega⟩
    obtain ⟨q, rfl⟩ : ∃ q : Nat, b = (q : Int) := ⟨b.toNat, by omega⟩
    obtain ⟨k, rfl⟩ : ∃ k : Nat, c = (k : Int) := ⟨c.toNat, by omega⟩
    have e := run_sub64 p q k (by omega) w (P := Tryd.prog)
    have e1 : ((p + 18446744073709551616 - q - k) % 18446744073709551616 : Nat) = (((p : Int) - q - k) % 18446744073709551616).toNat := by omega
    have e2 : (((p + 18446744073709551616 - q - k) % 18446744073709551616 : Nat) : Int) = ((p : Int) - q - k) % 18446744073709551616 := by omega
    have e3 : ((if p < q + k then 1 else 0 : Nat) : Int) = -(((p : Int) - q - k) / 18446744073709551616) := by split <;> omega
    rw [e2, e3] at e
    exact e
theorem sub (x y : Nat) (hx : x < 340282366920938463463374607431768211456) (hy : y < 340282366920938463463374607431768211456) : Pu Tryd.prog 48 #[wv x, wv y] (.tuple #[wv (x - y), .int .i64 (dE x y)]) := Pu.intro fun m => by
  by_cases h : x < y
  · have e1 : x - y = 0 := by omega
    have e2 : dE x y = 1 := if_pos h
    rw [e1, e2]
    refine Ct.enterV (by rfl) Tryd.func48 rfl Tryd.ntmps48 rfl (fun w0 Rest => ?_)
    (repeat' (first | refine zss ?_ | ((first | (with_reducible first | apply At.val | apply AtQ.val)); (first | exact sub64 (by rfl) (by rfl) (by rfl) (by omega) (by omega) (by omega) (by omega) | exact zprA); exact rfl) | refine zs0 ?_ | ((with_reducible first | apply AtM1.callp | apply AtQ.callp | apply At.callp); kernel_rfl; exact rfl; exact rfl; exact sure1 _ _ _ (by omega)) | ((with_reducible apply At.box (d := 2)); exact rfl; exact rfl; exact rfl; intro b2) | ((with_reducible apply At.box (d := 3)); exact rfl; exact rfl; exact rfl; intro b3) | ((with_reducible apply At.alloc (d := 4)); exact rfl; exact rfl; intro b4) | (refine zsp ?_ ?_ <;> (intro hc; (try simp only [zhcs, reduceCtorEq] at hc); (try (exfalso; first | contradiction | omega | exact absurd rfl hc | exact absurd (by decide) hc))))))
    all_goals ((with_reducible apply At.retV (B := [])); exact rfl; (repeat' (first | exact RVs.nil | (with_reducible apply RVs.cons) | exact rv_tmp (by rfl) | exact rv_cellN (by rfl) (by repeat constructor) (by rfl) (by rfl) (by rfl) | exact rv_cell1 (by rfl) (by repeat constructor) (by rfl) (by rfl) | exact rv_cellA (by rfl) (by repeat constructor) (by rfl) (by rfl) zlq)); exact zml; exact zkp; exact ⟨rfl, rfl, rfl⟩)
  · have e2 : dE x y = 0 := if_neg h
    rw [e2]
    refine Ct.enterV (by rfl) Tryd.func48 rfl Tryd.ntmps48 rfl (fun w0 Rest => ?_)
    (repeat' (first | refine zss ?_ | ((first | (with_reducible first | apply At.val | apply AtQ.val)); (first | exact sub64 (by rfl) (by rfl) (by rfl) (by omega) (by omega) (by omega) (by omega) | exact zprA); exact rfl) | refine zs0 ?_ | ((with_reducible first | apply AtM1.callp | apply AtQ.callp | apply At.callp); kernel_rfl; exact rfl; exact rfl; exact sure0 _ _ _ (by omega)) | ((with_reducible apply At.box (d := 2)); exact rfl; exact rfl; exact rfl; intro b2) | ((with_reducible apply At.box (d := 3)); exact rfl; exact rfl; exact rfl; intro b3) | ((with_reducible apply At.alloc (d := 4)); exact rfl; exact rfl; intro b4) | (refine zsp ?_ ?_ <;> (intro hc; (try simp only [zhcs, reduceCtorEq] at hc); (try (exfalso; first | contradiction | omega | exact absurd rfl hc | exact absurd (by decide) hc))))))
    all_goals ((with_reducible apply At.retV (B := [])); exact rfl; (repeat' (first | exact RVs.nil | (with_reducible apply RVs.cons) | exact rv_tmp (by rfl) | exact rv_cellN (by rfl) (by repeat constructor) (by rfl) (by rfl) (by rfl) | exact rv_cell1 (by rfl) (by repeat constructor) (by rfl) (by rfl) | exact rv_cellA (by rfl) (by repeat constructor) (by rfl) (by rfl) zlq)); exact zml; exact zkp; exact ⟨congrArg (fun v => Value.tuple #[v, .int .i64 0]) (wd_mk (by omega) (by omega)), rfl, rfl⟩)
theorem lz (y : Nat) (h : y < 18446744073709551616) : Pu Tryd.prog 60 #[.int .u64 (y : Int)] (.int .i64 (64 - (Lib.bitLen y : Int))) := by
  have := Pu.of_same fun w => Any.bits_LeadingZeros64 laysn134 (y : Int) w (by omega) (by omega)
  rw [Int.toNat_natCast] at this
  exact this
end Wide
end Go.Proofs.YtpdleggpmhlagaaDoor
/- How often a number of 64 bits goes into one of 128. -/
set_option linter.unusedSimpArgs false
set_option linter.unusedVariables false
set_option linter.unusedSectionVars false
set_option maxRecDepth 20000
set_option maxHeartbeats 4000000
namespace Go.Proofs.YtpdleggpmhlagaaDoor
open Go Go.J
attribute [local irreducible] At AtQ AtM AtM1 PR Ct Pu Rd Res.blk Res.own Res.ex RVs RV
namespace Wide
structure KS where
  (q : Nat) (r : Nat)
theorem u_in {a : Int} (h : 0 ≤ a ∧ a < 18446744073709551616) : IntKind.wrap .u64 a = a := by rw [IntKind.wrap_u64]; omega
theorem u_inN {a : Nat} (h : a < 18446744073709551616) : IntKind.wrap .u64 (a : Int) = (a : Int) := u_in (by omega)
theorem u_quo {a b : Nat} (h : a / b < 18446744073709551616) : IntKind.wrap .u64 ((a : Int).tdiv (b : Int)) = ((a / b : Nat) : Int) := by rw [← Int.ofNat_tdiv]; exact u_inN h
theorem u_rem (a b : Nat) : (a : Int).tmod (b : Int) = ((a % b : Nat) : Int) := (Int.ofNat_tmod a b).symm
theorem u_mul {a b : Nat} (h : a * b < 18446744073709551616) : IntKind.wrap .u64 ((a : Int) * (b : Int)) = ((a * b : Nat) : Int) := by rw [← Int.natCast_mul]; exact u_inN h
theorem u_mulw (a b : Nat) : IntKind.wrap .u64 ((a : Int) * (b : Int)) = ((a * b % 18446744073709551616 : Nat) : Int) := by rw [← Int.natCast_mul, IntKind.wrap_u64, Int.natCast_emod]; rfl
theorem u_add {a b : Nat} (h : a + b < 18446744073709551616) : IntKind.wrap .u64 ((a : Int) + (b : Int)) = ((a + b : Nat) : Int) := by rw [← Int.natCast_add]; exact u_inN h
theorem u_sub {a b : Nat} (h : b ≤ a) (ha : a < 18446744073709551616) : IntKind.wrap .u64 ((a : Int) - (b : Int)) = ((a - b : Nat) : Int) := by rw [IntKind.wrap_u64]; omega
theorem u_shl (a k : Nat) : IntKind.wrap .u64 ((a : Int) * 2 ^ ((k : Int)).toNat) = ((a * 2 ^ k % 18446744073709551616 : Nat) : Int) := by
  rw [Int.toNat_natCast, show ((2 : Int) ^ k) = ((2 ^ k : Nat) : Int) by rw [Int.natCast_pow]; rfl]
  exact u_mulw _ _
theorem u_shr (a k : Nat) : (a : Int) / 2 ^ ((k : Int)).toNat = ((a / 2 ^ k : Nat) : Int) := by
  rw [Int.toNat_natCast, show ((2 : Int) ^ k) = ((2 ^ k : Nat) : Int) by rw [Int.natCast_pow]; rfl, Int.natCast_ediv]
theorem u_shr32 (a : Nat) : (a : Int) / 2 ^ ((32 : Int)).toNat = ((a / 4294967296 : Nat) : Int) := u_shr a 32
theorem u_low (a : Nat) (h : a < 18446744073709551616) : bits .and .u64 (a : Int) 4294967295 = ((a % 4294967296 : Nat) : Int) := by rw [and_low32 _ (by omega) (by omega)]; rfl
theorem u_left {T P R : Nat} (h1 : P ≤ T) (h2 : T - P = R) (hR : R < 18446744073709551616) : IntKind.wrap .u64 (((T % 18446744073709551616 : Nat) : Int) - ((P % 18446744073709551616 : Nat) : Int)) = (R : Int) := by rw [IntKind.wrap_u64]; omega
theorem u_top (u d : Nat) : IntKind.wrap .u64 (((u * 4294967296 % 18446744073709551616 : Nat) : Int) + (d : Int)) = (((u * 4294967296 + d) % 18446744073709551616 : Nat) : Int) := by rw [IntKind.wrap_u64]; omega
set_option maxHeartbeats 4000000 in
theorem div64 (h l y V : Nat) (hV : V = h * 18446744073709551616 + l) (hy : h < y) (hyb : y < 18446744073709551616) (hl : l < 18446744073709551616) :
    Pu Tryd.prog 55 #[.int .u64 (h : Int), .int .u64 (l : Int), .int .u64 (y : Int)] (.tuple #[.int .u64 ((V / y : Nat) : Int), .int .u64 ((V % y : Nat) : Int)]) := Pu.intro fun m => by
  by_cases h0 : h = 0
  · subst h0
    rw [Nat.zero_mul, Nat.zero_add] at hV
    subst hV
    have f1 := u_quo (a := V) (b := y) (Nat.lt_of_le_of_lt (Nat.div_le_self _ _) hl)
    have f2 := u_rem V y
    refine Ct.enterV (by rfl) Tryd.func55 rfl Tryd.ntmps55 rfl (fun w0 Rest => ?_)
    (repeat' (first | refine zss ?_ | ((first | (with_reducible first | apply At.val | apply AtQ.val)); (first | exact pr_quo (by rfl) (by rfl) (by omega) f1 | exact pr_rem (by rfl) (by rfl) (by omega) f2 | exact zprA); exact rfl) | refine zs0 ?_ | (refine zsp ?_ ?_ <;> (intro hc; (try simp only [zhcs, reduceCtorEq] at hc); (try (exfalso; first | omega | contradiction | omega | exact absurd rfl hc | exact absurd (by decide) hc))))))
    all_goals ((with_reducible apply At.retB2 (B := [])); (iterate 3 exact rfl); exact zml; exact zkp; exact ⟨rfl, rfl, rfl⟩)
  · obtain ⟨hb1, hb0, hY1, hY2⟩ := lead y (by omega) hyb
    have hlz := lz y hyb
    obtain ⟨b, hb⟩ : ∃ b, b = Lib.bitLen y := ⟨_, rfl⟩
    rw [← hb] at hb1 hb0 hY1 hY2 hlz
    obtain ⟨s, hs⟩ : ∃ s, s = 64 - b := ⟨_, rfl⟩
    have hsb : s + b = 64 := by omega
    rw [show (64 - (b : Int)) = (s : Int) by omega] at hlz
    rw [← hs] at hY1 hY2
    have hk : 0 < 2 ^ s := Nat.pow_pos (by decide)
    obtain ⟨up, lo⟩ := shift_up h l s b hsb
    rw [← hV] at up lo
    obtain ⟨sd, sm⟩ := shift_div V y (2 ^ s) hk
    have hsh := u_shl y s
    rw [Nat.mod_eq_of_lt hY2] at hsh
    have hA : h * 2 ^ s < y * 2 ^ s := Nat.mul_lt_mul_of_pos_right hy hk
    have hfA := u_shl h s
    rw [Nat.mod_eq_of_lt (by omega)] at hfA
    have hfC := u_shr l b
    have hC : l / 2 ^ b < 2 ^ s := by
      rw [Nat.div_lt_iff_lt_mul (Nat.pow_pos (by decide)), ← Nat.pow_add, hsb]; exact hl
    have hor : bits .or .u64 ((h * 2 ^ s : Nat) : Int) ((l / 2 ^ b : Nat) : Int) = ((h * 2 ^ s + l / 2 ^ b : Nat) : Int) := by
      have : l / 2 ^ b ≤ l := Nat.div_le_self _ _
      rw [u64_or_nat _ _ (by omega) (by omega), nat_join s _ _ (Nat.mul_mod_left _ _) hC]
    have hfE := u_shl l s
    have hu : V * 2 ^ s / 18446744073709551616 < y * 2 ^ s := by
      rw [Nat.div_lt_iff_lt_mul (by decide), Nat.mul_right_comm]
      exact Nat.mul_lt_mul_of_pos_right (by omega) hk
    have hsplit := Nat.div_add_mod (V * 2 ^ s) 18446744073709551616
    rw [up] at hu hsplit
    rw [lo] at hsplit
    generalize h * 2 ^ s = A at *
    generalize l / 2 ^ b = C at *
    generalize l * 2 ^ s % 18446744073709551616 = E at *
    generalize V * 2 ^ s = W at *
    generalize y * 2 ^ s = Y at *
    have hEl : E < 18446744073709551616 := by rw [← lo]; exact Nat.mod_lt _ (by decide)
    obtain ⟨u, hue⟩ : ∃ u, u = A + C := ⟨_, rfl⟩
    rw [← hue] at hor hu hsplit
    obtain ⟨y1, hy1⟩ : ∃ y1, y1 = Y / 4294967296 := ⟨_, rfl⟩
    obtain ⟨y0, hy0⟩ : ∃ y0, y0 = Y % 4294967296 := ⟨_, rfl⟩
    obtain ⟨d1, hd1⟩ : ∃ d1, d1 = E / 4294967296 := ⟨_, rfl⟩
    obtain ⟨d0, hd0⟩ : ∃ d0, d0 = E % 4294967296 := ⟨_, rfl⟩
    have hYy : y1 * 4294967296 + y0 = Y := by omega
    have hEd : E = d1 * 4294967296 + d0 := by omega
    have K1 : KnH u d1 y1 y0 := ⟨by omega, by omega, by omega, by omega, by omega⟩
    obtain ⟨a1, a2⟩ := kn_all (u := u) (d1 := d1) (d0 := d0) (Y := Y) (by omega)
    rw [← hEd, Nat.mul_comm u, hsplit] at a1 a2
    obtain ⟨q1, hq1⟩ : ∃ q1, (u * 4294967296 + d1) / Y = q1 := ⟨_, rfl⟩
    obtain ⟨r1, hr1⟩ : ∃ r1, (u * 4294967296 + d1) % Y = r1 := ⟨_, rfl⟩
    obtain ⟨l1, l2⟩ := kn_left (T := u * 4294967296 + d1) (by omega) hq1
    have hr1Y : r1 < Y := by rw [← hr1]; exact Nat.mod_lt _ (by omega)
    rw [hr1] at l2
    rw [hq1, hr1] at a1
    rw [hr1] at a2
    have K2 : KnH r1 d0 y1 y0 := ⟨by omega, by omega, by omega, by omega, by omega⟩
    obtain ⟨q0, hq0⟩ : ∃ q0, (r1 * 4294967296 + d0) / Y = q0 := ⟨_, rfl⟩
    obtain ⟨r0, hr0⟩ : ∃ r0, (r1 * 4294967296 + d0) % Y = r0 := ⟨_, rfl⟩
    obtain ⟨k1, k2⟩ := kn_left (T := r1 * 4294967296 + d0) (by omega) hq0
    have hr0Y : r0 < Y := by rw [← hr0]; exact Nat.mod_lt _ (by omega)
    rw [hr0] at k2
    rw [hq0] at a1
    rw [hr0] at a2
    have hqb1 := kn_digit K1
    have hqb0 := kn_digit K2
    rw [hYy, hq1] at hqb1
    rw [hYy, hq0] at hqb0
    have I1 := kn_init K1
    have I2 := kn_init K2
    have e1 : u / y1 * y1 + u % y1 = u := I1.eq
    have e2 : r1 / y1 * y1 + r1 % y1 = r1 := I2.eq
    have hy10 : y1 ≠ 0 := by omega
    have g1 := u_shr32 Y
    have g2 := u_low Y hY2
    have g3 := u_shr32 E
    have g4 := u_low E hEl
    rw [← hy1] at g1
    rw [← hy0] at g2
    rw [← hd1] at g3
    rw [← hd0] at g4
    have m1 := u_quo (a := u) (b := y1) (Nat.lt_of_le_of_lt (Nat.div_le_self _ _) (by omega))
    have m2 := u_mul (a := u / y1) (b := y1) (by omega)
    have m3 : IntKind.wrap .u64 ((u : Int) - ((u / y1 * y1 : Nat) : Int)) = ((u % y1 : Nat) : Int) := by
      generalize u / y1 * y1 = X at e1 ⊢
      generalize u % y1 = Z at e1 ⊢
      rw [IntKind.wrap_u64]; omega
    have n1 := u_quo (a := r1) (b := y1) (Nat.lt_of_le_of_lt (Nat.div_le_self _ _) (by omega))
    have n2 := u_mul (a := r1 / y1) (b := y1) (by omega)
    have n3 : IntKind.wrap .u64 ((r1 : Int) - ((r1 / y1 * y1 : Nat) : Int)) = ((r1 % y1 : Nat) : Int) := by
      generalize r1 / y1 * y1 = X at e2 ⊢
      generalize r1 % y1 = Z at e2 ⊢
      rw [IntKind.wrap_u64]; omega
    have t1 := u_mulw u 4294967296
    have t2 := u_top u d1
    have t3 := u_mulw q1 Y
    have t4 := u_left l1 l2 (by omega)
    have v1 := u_mulw r1 4294967296
    have v2 := u_top r1 d0
    have v3 := u_mulw q0 Y
    have v4 := u_left k1 k2 (by omega)
    have v5 := u_mul (a := q1) (b := 4294967296) (by omega)
    have v6 := u_add (a := q1 * 4294967296) (b := q0) (by omega)
    have v7 := u_shr r0 s
    have z1 : V / y = q1 * 4294967296 + q0 := sd.symm.trans a1
    have z2 : V % y = r0 / 2 ^ s := by rw [← sm, a2]
    rw [z1, z2]
    clear z1 z2 sd sm a1 a2 up lo hsplit hV I1 I2 e1 e2 hb
    have hsub : IntKind.wrap .u64 (64 - (s : Int)) = (b : Int) := by rw [IntKind.wrap_u64]; omega
    refine Ct.enterV (by rfl) Tryd.func55 rfl Tryd.ntmps55 rfl (fun w0 Rest => ?_)
    (repeat' (first | ((refine At.cutb (id := 0) (σ := Nat) [2, 8, 9, 10, 11, 13, 14] (fun s F0 => (15, .int .u64 (s : Int)) :: F0) (fun s => m) (fun s => Rest) (fun s => s = q1) (by rfl) ?_ ?_)) | refine zss ?_ | ((first | (with_reducible first | apply At.val | apply AtQ.val)); (first | exact pr_sub (by rfl) (by rfl) hsub | exact pr_shlv (by rfl) (by rfl) (by omega) (by simp only [IntKind.bits]; omega) hsh | exact pr_shlv (by rfl) (by rfl) (by omega) (by simp only [IntKind.bits]; omega) hfA | exact pr_shlv (by rfl) (by rfl) (by omega) (by simp only [IntKind.bits]; omega) hfE | exact pr_shrv (by rfl) (by rfl) (by omega) (by simp only [IntKind.bits]; omega) g1 | exact pr_shrv (by rfl) (by rfl) (by omega) (by simp only [IntKind.bits]; omega) g3 | exact pr_shrv (by rfl) (by rfl) (by omega) (by simp only [IntKind.bits]; omega) hfC | exact pr_and (by rfl) (by rfl) g2 | exact pr_and (by rfl) (by rfl) g4 | exact pr_or (by rfl) (by rfl) hor | exact pr_quo (by rfl) (by rfl) (by omega) m1 | exact pr_mul (by rfl) (by rfl) m2 | exact pr_sub (by rfl) (by rfl) m3 | exact zprA); exact rfl) | refine zs0 ?_ | ((with_reducible first | apply AtM1.callp | apply AtQ.callp | apply At.callp); kernel_rfl; exact rfl; exact rfl; exact hlz) | (refine zsp ?_ ?_ <;> (intro hc; (try simp only [zhcs, reduceCtorEq] at hc); (try (exfalso; first | omega | contradiction | omega | exact absurd rfl hc | exact absurd (by decide) hc))))))
    · clear m1 m2 m3 n1 n2 n3 t1 t2 t3 t4 v1 v2 v3 v4 v5 v6 v7 g1 g2 g3 g4 hsh hfA hfC hfE hor hsub hlz k1 k2 l1 l2
      (refine At.loopk (σ := KS) [2, 8, 9, 10, 11, 13, 14] (fun s F0 => (15, .int .u64 (s.q : Int)) :: (16, .int .u64 (s.r : Int)) :: F0) (fun s => m) (fun s => Rest) (fun s => Kn u d1 y1 y0 s.q s.r) (fun s => s.q) ⟨u / y1, u % y1⟩ (by rfl) ?_ zsubs zml zente ?_)
      · exact kn_init K1
      rintro ⟨q, r⟩ kn
      dsimp only at kn ⊢
      have hle := kn_le K1 kn
      have hlt := kn.lt
      by_cases hC : 4294967296 ≤ q ∨ r * 4294967296 + d1 < q * y0
      · obtain ⟨hpos, hst⟩ : 0 < q ∧ (r + y1 < 4294967296 → Kn u d1 y1 y0 (q - 1) (r + y1)) := ⟨Nat.lt_of_le_of_lt (Nat.zero_le _) (kn_lt K1 kn hC), fun hr => (kn_step K1 kn hC hr).2⟩
        have o1 : IntKind.wrap .u64 ((q : Int) - 1) = ((q - 1 : Nat) : Int) := by rw [IntKind.wrap_u64]; omega
        have o2 := u_add (a := r) (b := y1) (by omega)
        by_cases hr : r + y1 < 4294967296
        · by_cases hq : 4294967296 ≤ q
          · (repeat' (first | refine zss ?_ | ((first | (with_reducible first | apply At.val | apply AtQ.val)); (first | exact pr_sub (by rfl) (by rfl) o1 | exact pr_add (by rfl) (by rfl) o2 | exact zprA); exact rfl) | refine zs0 ?_ | (refine zsp ?_ ?_ <;> (intro hc; (try simp only [zhcs, reduceCtorEq] at hc); (try (exfalso; first | omega | contradiction | omega | exact absurd rfl hc | exact absurd (by decide) hc))))))
            all_goals ((with_reducible refine At.reachk (⟨q - 1, r + y1⟩) ?_ ?_ ?_ ?_); exact zsubs; exact zml; exact zente; exact ⟨hst hr, by dsimp only; omega⟩)
          · have hn := hC.resolve_left hq
            have p1 := u_mul (a := q) (b := y0) (by have : q * y0 ≤ 4294967295 * 4294967295 := Nat.mul_le_mul (by omega) (by omega); omega)
            have p2 : IntKind.wrap .u64 (4294967296 * (r : Int)) = ((r * 4294967296 : Nat) : Int) := by rw [IntKind.wrap_u64]; omega
            have p3 := u_add (a := r * 4294967296) (b := d1) (by omega)
            generalize q * y0 = X at hn p1
            (repeat' (first | refine zss ?_ | ((first | (with_reducible first | apply At.val | apply AtQ.val)); (first | exact pr_sub (by rfl) (by rfl) o1 | exact pr_add (by rfl) (by rfl) o2 | exact pr_mul (by rfl) (by rfl) p1 | exact pr_mul (by rfl) (by rfl) p2 | exact pr_add (by rfl) (by rfl) p3 | exact zprA); exact rfl) | refine zs0 ?_ | (refine zsp ?_ ?_ <;> (intro hc; (try simp only [zhcs, reduceCtorEq] at hc); (try (exfalso; first | omega | contradiction | omega | exact absurd rfl hc | exact absurd (by decide) hc))))))
            all_goals ((with_reducible refine At.reachk (⟨q - 1, r + y1⟩) ?_ ?_ ?_ ?_); exact zsubs; exact zml; exact zente; exact ⟨hst hr, by dsimp only; omega⟩)
        · have hbr := kn_break K1 kn hC (by omega)
          rw [hYy, hq1] at hbr
          by_cases hq : 4294967296 ≤ q
          · (repeat' (first | refine zss ?_ | ((first | (with_reducible first | apply At.val | apply AtQ.val)); (first | exact pr_sub (by rfl) (by rfl) o1 | exact pr_add (by rfl) (by rfl) o2 | exact zprA); exact rfl) | refine zs0 ?_ | (refine zsp ?_ ?_ <;> (intro hc; (try simp only [zhcs, reduceCtorEq] at hc); (try (exfalso; first | omega | contradiction | omega | exact absurd rfl hc | exact absurd (by decide) hc))))))
            all_goals ((with_reducible refine At.reachk ((q - 1)) ?_ ?_ ?_ ?_); exact zsubs; exact zml; exact zente; exact hbr.symm)
          · have hn := hC.resolve_left hq
            have p1 := u_mul (a := q) (b := y0) (by have : q * y0 ≤ 4294967295 * 4294967295 := Nat.mul_le_mul (by omega) (by omega); omega)
            have p2 : IntKind.wrap .u64 (4294967296 * (r : Int)) = ((r * 4294967296 : Nat) : Int) := by rw [IntKind.wrap_u64]; omega
            have p3 := u_add (a := r * 4294967296) (b := d1) (by omega)
            generalize q * y0 = X at hn p1
            (repeat' (first | refine zss ?_ | ((first | (with_reducible first | apply At.val | apply AtQ.val)); (first | exact pr_sub (by rfl) (by rfl) o1 | exact pr_add (by rfl) (by rfl) o2 | exact pr_mul (by rfl) (by rfl) p1 | exact pr_mul (by rfl) (by rfl) p2 | exact pr_add (by rfl) (by rfl) p3 | exact zprA); exact rfl) | refine zs0 ?_ | (refine zsp ?_ ?_ <;> (intro hc; (try simp only [zhcs, reduceCtorEq] at hc); (try (exfalso; first | omega | contradiction | omega | exact absurd rfl hc | exact absurd (by decide) hc))))))
            all_goals ((with_reducible refine At.reachk ((q - 1)) ?_ ?_ ?_ ?_); exact zsubs; exact zml; exact zente; exact hbr.symm)
      · have hbr := kn_stop K1 kn (by omega)
        rw [hYy, hq1] at hbr
        have hq : q < 4294967296 := by omega
        have hn : ¬ r * 4294967296 + d1 < q * y0 := fun x => hC (.inr x)
        have p1 := u_mul (a := q) (b := y0) (by have : q * y0 ≤ 4294967295 * 4294967295 := Nat.mul_le_mul (by omega) (by omega); omega)
        have p2 : IntKind.wrap .u64 (4294967296 * (r : Int)) = ((r * 4294967296 : Nat) : Int) := by rw [IntKind.wrap_u64]; omega
        have p3 := u_add (a := r * 4294967296) (b := d1) (by omega)
        clear hC
        generalize q * y0 = X at hn p1
        (repeat' (first | refine zss ?_ | ((first | (with_reducible first | apply At.val | apply AtQ.val)); (first | exact pr_mul (by rfl) (by rfl) p1 | exact pr_mul (by rfl) (by rfl) p2 | exact pr_add (by rfl) (by rfl) p3 | exact zprA); exact rfl) | refine zs0 ?_ | (refine zsp ?_ ?_ <;> (intro hc; (try simp only [zhcs, reduceCtorEq] at hc); (try (exfalso; first | omega | contradiction | omega | exact absurd rfl hc | exact absurd (by decide) hc))))))
        all_goals ((with_reducible refine At.reachk (q) ?_ ?_ ?_ ?_); exact zsubs; exact zml; exact zente; exact hbr.symm)
    · rintro z rfl
      clear m1 m2 m3 g1 g2 g3 g4 hsh hfA hfC hfE hor hsub hlz
      (repeat' (first | ((refine At.cutb (id := 2) (σ := Nat) [2, 8, 14, 15, 17] (fun s F0 => (18, .int .u64 (s : Int)) :: F0) (fun s => m) (fun s => Rest) (fun s => s = q0) (by rfl) ?_ ?_)) | refine zss ?_ | ((first | (with_reducible first | apply At.val | apply AtQ.val)); (first | exact pr_mul (by rfl) (by rfl) t1 | exact pr_add (by rfl) (by rfl) t2 | exact pr_mul (by rfl) (by rfl) t3 | exact pr_sub (by rfl) (by rfl) t4 | exact pr_quo (by rfl) (by rfl) (by omega) n1 | exact pr_mul (by rfl) (by rfl) n2 | exact pr_sub (by rfl) (by rfl) n3 | exact zprA); exact rfl) | refine zs0 ?_ | (refine zsp ?_ ?_ <;> (intro hc; (try simp only [zhcs, reduceCtorEq] at hc); (try (exfalso; first | omega | contradiction | omega | exact absurd rfl hc | exact absurd (by decide) hc))))))
      · clear n1 n2 n3 v1 v2 v3 v4 v5 v6 v7 k1 k2 l1 l2
        (refine At.loopk (σ := KS) [2, 8, 9, 10, 14, 15, 17] (fun s F0 => (18, .int .u64 (s.q : Int)) :: (16, .int .u64 (s.r : Int)) :: F0) (fun s => m) (fun s => Rest) (fun s => Kn r1 d0 y1 y0 s.q s.r) (fun s => s.q) ⟨r1 / y1, r1 % y1⟩ (by rfl) ?_ zsubs zml zente ?_)
        · exact kn_init K2
        rintro ⟨q, r⟩ kn
        dsimp only at kn ⊢
        have hle := kn_le K2 kn
        have hlt := kn.lt
        by_cases hC : 4294967296 ≤ q ∨ r * 4294967296 + d0 < q * y0
        · obtain ⟨hpos, hst⟩ : 0 < q ∧ (r + y1 < 4294967296 → Kn r1 d0 y1 y0 (q - 1) (r + y1)) := ⟨Nat.lt_of_le_of_lt (Nat.zero_le _) (kn_lt K2 kn hC), fun hr => (kn_step K2 kn hC hr).2⟩
          have o1 : IntKind.wrap .u64 ((q : Int) - 1) = ((q - 1 : Nat) : Int) := by rw [IntKind.wrap_u64]; omega
          have o2 := u_add (a := r) (b := y1) (by omega)
          by_cases hr : r + y1 < 4294967296
          · by_cases hq : 4294967296 ≤ q
            · (repeat' (first | refine zss ?_ | ((first | (with_reducible first | apply At.val | apply AtQ.val)); (first | exact pr_sub (by rfl) (by rfl) o1 | exact pr_add (by rfl) (by rfl) o2 | exact zprA); exact rfl) | refine zs0 ?_ | (refine zsp ?_ ?_ <;> (intro hc; (try simp only [zhcs, reduceCtorEq] at hc); (try (exfalso; first | omega | contradiction | omega | exact absurd rfl hc | exact absurd (by decide) hc))))))
              all_goals ((with_reducible refine At.reachk (⟨q - 1, r + y1⟩) ?_ ?_ ?_ ?_); exact zsubs; exact zml; exact zente; exact ⟨hst hr, by dsimp only; omega⟩)
            · have hn := hC.resolve_left hq
              have p1 := u_mul (a := q) (b := y0) (by have : q * y0 ≤ 4294967295 * 4294967295 := Nat.mul_le_mul (by omega) (by omega); omega)
              have p2 : IntKind.wrap .u64 (4294967296 * (r : Int)) = ((r * 4294967296 : Nat) : Int) := by rw [IntKind.wrap_u64]; omega
              have p3 := u_add (a := r * 4294967296) (b := d0) (by omega)
              generalize q * y0 = X at hn p1
              (repeat' (first | refine zss ?_ | ((first | (with_reducible first | apply At.val | apply AtQ.val)); (first | exact pr_sub (by rfl) (by rfl) o1 | exact pr_add (by rfl) (by rfl) o2 | exact pr_mul (by rfl) (by rfl) p1 | exact pr_mul (by rfl) (by rfl) p2 | exact pr_add (by rfl) (by rfl) p3 | exact zprA); exact rfl) | refine zs0 ?_ | (refine zsp ?_ ?_ <;> (intro hc; (try simp only [zhcs, reduceCtorEq] at hc); (try (exfalso; first | omega | contradiction | omega | exact absurd rfl hc | exact absurd (by decide) hc))))))
              all_goals ((with_reducible refine At.reachk (⟨q - 1, r + y1⟩) ?_ ?_ ?_ ?_); exact zsubs; exact zml; exact zente; exact ⟨hst hr, by dsimp only; omega⟩)
          · have hbr := kn_break K2 kn hC (by omega)
            rw [hYy, hq0] at hbr
            by_cases hq : 4294967296 ≤ q
            · (repeat' (first | refine zss ?_ | ((first | (with_reducible first | apply At.val | apply AtQ.val)); (first | exact pr_sub (by rfl) (by rfl) o1 | exact pr_add (by rfl) (by rfl) o2 | exact zprA); exact rfl) | refine zs0 ?_ | (refine zsp ?_ ?_ <;> (intro hc; (try simp only [zhcs, reduceCtorEq] at hc); (try (exfalso; first | omega | contradiction | omega | exact absurd rfl hc | exact absurd (by decide) hc))))))
              all_goals ((with_reducible refine At.reachk ((q - 1)) ?_ ?_ ?_ ?_); exact zsubs; exact zml; exact zente; exact hbr.symm)
            · have hn := hC.resolve_left hq
              have p1 := u_mul (a := q) (b := y0) (by have : q * y0 ≤ 4294967295 * 4294967295 := Nat.mul_le_mul (by omega) (by omega); omega)
              have p2 : IntKind.wrap .u64 (4294967296 * (r : Int)) = ((r * 4294967296 : Nat) : Int) := by rw [IntKind.wrap_u64]; omega
              have p3 := u_add (a := r * 4294967296) (b := d0) (by omega)
              generalize q * y0 = X at hn p1
              (repeat' (first | refine zss ?_ | ((first | (with_reducible first | apply At.val | apply AtQ.val)); (first | exact pr_sub (by rfl) (by rfl) o1 | exact pr_add (by rfl) (by rfl) o2 | exact pr_mul (by rfl) (by rfl) p1 | exact pr_mul (by rfl) (by rfl) p2 | exact pr_add (by rfl) (by rfl) p3 | exact zprA); exact rfl) | refine zs0 ?_ | (refine zsp ?_ ?_ <;> (intro hc; (try simp only [zhcs, reduceCtorEq] at hc); (try (exfalso; first | omega | contradiction | omega | exact absurd rfl hc | exact absurd (by decide) hc))))))
              all_goals ((with_reducible refine At.reachk ((q - 1)) ?_ ?_ ?_ ?_); exact zsubs; exact zml; exact zente; exact hbr.symm)
        · have hbr := kn_stop K2 kn (by omega)
          rw [hYy, hq0] at hbr
          have hq : q < 4294967296 := by omega
          have hn : ¬ r * 4294967296 + d0 < q * y0 := fun x => hC (.inr x)
          have p1 := u_mul (a := q) (b := y0) (by have : q * y0 ≤ 4294967295 * 4294967295 := Nat.mul_le_mul (by omega) (by omega); omega)
          have p2 : IntKind.wrap .u64 (4294967296 * (r : Int)) = ((r * 4294967296 : Nat) : Int) := by rw [IntKind.wrap_u64]; omega
          have p3 := u_add (a := r * 4294967296) (b := d0) (by omega)
          clear hC
          generalize q * y0 = X at hn p1
          (repeat' (first | refine zss ?_ | ((first | (with_reducible first | apply At.val | apply AtQ.val)); (first | exact pr_mul (by rfl) (by rfl) p1 | exact pr_mul (by rfl) (by rfl) p2 | exact pr_add (by rfl) (by rfl) p3 | exact zprA); exact rfl) | refine zs0 ?_ | (refine zsp ?_ ?_ <;> (intro hc; (try simp only [zhcs, reduceCtorEq] at hc); (try (exfalso; first | omega | contradiction | omega | exact absurd rfl hc | exact absurd (by decide) hc))))))
          all_goals ((with_reducible refine At.reachk (q) ?_ ?_ ?_ ?_); exact zsubs; exact zml; exact zente; exact hbr.symm)
      · rintro z rfl
        (repeat' (first | refine zss ?_ | ((first | (with_reducible first | apply At.val | apply AtQ.val)); (first | exact pr_mul (by rfl) (by rfl) v1 | exact pr_add (by rfl) (by rfl) v2 | exact pr_mul (by rfl) (by rfl) v3 | exact pr_sub (by rfl) (by rfl) v4 | exact pr_mul (by rfl) (by rfl) v5 | exact pr_add (by rfl) (by rfl) v6 | exact pr_shrv (by rfl) (by rfl) (by omega) (by simp only [IntKind.bits]; omega) v7 | exact zprA); exact rfl) | refine zs0 ?_ | (refine zsp ?_ ?_ <;> (intro hc; (try simp only [zhcs, reduceCtorEq] at hc); (try (exfalso; first | omega | contradiction | omega | exact absurd rfl hc | exact absurd (by decide) hc))))))
        all_goals ((with_reducible apply At.retB2 (B := [])); (iterate 3 exact rfl); exact zml; exact zkp; exact ⟨rfl, rfl, rfl⟩)
end Wide
end Go.Proofs.YtpdleggpmhlagaaDoor
/- Ratios (plain): noughts at the end of a number, the greatest common divisor by halving. -/
set_option linter.unusedSimpArgs false
set_option linter.unusedVariables false
set_option linter.unusedSectionVars false
set_option maxRecDepth 20000
set_option maxHeartbeats 4000000
namespace Go.Proofs.YtpdleggpmhlagaaDoor
open Go
namespace Ra
/-- how many noughts a number of 128 bits ends in -/
def nt (x : Nat) : Nat := if x % 18446744073709551616 = 0 then 64 + Lib.ctz 64 (x / 18446744073709551616) else Lib.ctz 64 (x % 18446744073709551616)
/-- what is left of it without them -/
def od (x : Nat) : Nat := x / 2 ^ nt x
theorem ctz_at {y : Nat} (h0 : y ≠ 0) (h : y < 18446744073709551616) : ∃ k, y = 2 ^ Lib.ctz 64 y * (2 * k + 1) ∧ Lib.ctz 64 y < 64 := by
  unfold Lib.ctz
  rw [if_neg h0]
  exact Lib.ctzFrom_spec 64 y (Nat.pos_of_ne_zero h0) h
theorem nt_spec {x : Nat} (h0 : x ≠ 0) (hx : x < 340282366920938463463374607431768211456) : ∃ k, x = 2 ^ nt x * (2 * k + 1) ∧ nt x < 128 := by
  unfold nt
  have hd := Nat.div_add_mod x 18446744073709551616
  by_cases h : x % 18446744073709551616 = 0
  · rw [if_pos h]
    rw [h, Nat.add_zero] at hd
    obtain ⟨k, h1, h2⟩ := ctz_at (y := x / 18446744073709551616) (fun e => h0 (by rw [e] at hd; omega)) (by omega)
    refine ⟨k, ?_, by omega⟩
    rw [Nat.pow_add, Nat.mul_assoc, ← h1]
    exact hd.symm
  · rw [if_neg h]
    obtain ⟨k, h1, h2⟩ := ctz_at (y := x % 18446744073709551616) h (by omega)
    generalize Lib.ctz 64 (x % 18446744073709551616) = c at h1 h2
    refine ⟨x / 18446744073709551616 * 2 ^ (63 - c) + k, ?_, by omega⟩
    have e : (18446744073709551616 : Nat) = 2 ^ c * (2 * 2 ^ (63 - c)) := by
      rw [← Nat.pow_succ', ← Nat.pow_add, show c + (63 - c).succ = 64 by omega]
    rw [show 2 * (x / 18446744073709551616 * 2 ^ (63 - c) + k) + 1 = x / 18446744073709551616 * (2 * 2 ^ (63 - c)) + (2 * k + 1) by
      rw [Nat.mul_add, Nat.mul_left_comm, Nat.add_assoc]]
    rw [Nat.mul_add, ← h1, Nat.mul_left_comm, ← e, Nat.mul_comm]
    exact hd.symm
theorem od_spec {x : Nat} (h0 : x ≠ 0) (hx : x < 340282366920938463463374607431768211456) : x = 2 ^ nt x * od x ∧ od x % 2 = 1 := by
  obtain ⟨k, h1, _⟩ := nt_spec h0 hx
  have e : od x = 2 * k + 1 := by
    unfold od
    conv => lhs; lhs; rw [h1]
    exact Nat.mul_div_cancel_left _ (Nat.two_pow_pos _)
  rw [e]
  exact ⟨h1, by omega⟩
theorem odd_co {a : Nat} (h : a % 2 = 1) (i : Nat) : (2 ^ i).Coprime a := by
  refine Nat.Coprime.pow_left i ?_
  show Nat.gcd 2 a = 1
  rw [Nat.gcd_rec, h]; rfl
theorem gcd_od {a b : Nat} (h : a % 2 = 1) (h0 : b ≠ 0) (hb : b < 340282366920938463463374607431768211456) : Nat.gcd a (od b) = Nat.gcd a b := by
  conv => rhs; rw [(od_spec h0 hb).1]
  rw [Nat.gcd_comm a (2 ^ nt b * od b), Nat.Coprime.gcd_mul_left_cancel _ (odd_co h _), Nat.gcd_comm]
/-- a step of the halving -/
theorem gcd_step {a b : Nat} (h : a % 2 = 1) (h0 : b ≠ 0) (hb : b < 340282366920938463463374607431768211456) :
    Nat.gcd (min a (od b)) (max a (od b) - min a (od b)) = Nat.gcd a b ∧ min a (od b) % 2 = 1 ∧ min a (od b) + (max a (od b) - min a (od b)) < a + b := by
  obtain ⟨h1, h2⟩ := od_spec h0 hb
  have hle : od b ≤ b := by
    conv => rhs; rw [h1]
    exact Nat.le_mul_of_pos_left _ (Nat.two_pow_pos _)
  rw [← gcd_od h h0 hb]
  generalize od b = c at h2 hle
  rcases Nat.le_total a c with hac | hac
  · rw [Nat.min_eq_left hac, Nat.max_eq_right hac]
    exact ⟨Nat.gcd_sub_self_right hac, h, by omega⟩
  · rw [Nat.min_eq_right hac, Nat.max_eq_left hac, Nat.gcd_comm a c]
    exact ⟨Nat.gcd_sub_self_right hac, h2, by omega⟩
/-- what the halving comes to -/
theorem gcd_end {a b : Nat} (ha0 : a ≠ 0) (ha : a < 340282366920938463463374607431768211456) (hb0 : b ≠ 0) (hb : b < 340282366920938463463374607431768211456) : 2 ^ min (nt a) (nt b) * Nat.gcd (od a) b = Nat.gcd a b := by
  obtain ⟨h1, h2⟩ := od_spec ha0 ha
  obtain ⟨h3, h4⟩ := od_spec hb0 hb
  have e1 : Nat.gcd (od a) b = Nat.gcd (od a) (od b) := (gcd_od h2 hb0 hb).symm
  rw [e1]
  generalize od a = u at h1 h2
  generalize od b = v at h3 h4
  generalize nt a = i at h1
  generalize nt b = j at h3
  subst h1 h3
  rcases Nat.le_total i j with hij | hij
  · obtain ⟨k, rfl⟩ := Nat.exists_eq_add_of_le hij
    rw [Nat.min_eq_left hij, Nat.pow_add, Nat.mul_assoc, Nat.gcd_mul_left, Nat.gcd_comm u (2 ^ k * v), Nat.Coprime.gcd_mul_left_cancel _ (odd_co h2 _), Nat.gcd_comm v u]
  · obtain ⟨k, rfl⟩ := Nat.exists_eq_add_of_le hij
    rw [Nat.min_eq_right hij, Nat.pow_add, Nat.mul_assoc, Nat.gcd_mul_left, Nat.Coprime.gcd_mul_left_cancel _ (odd_co h4 _)]
theorem pow64 {k : Nat} (hk : k ≤ 64) : (18446744073709551616 : Nat) = 2 ^ k * 2 ^ (64 - k) := by
  rw [← Nat.pow_add, show k + (64 - k) = 64 by omega]
theorem or_add {a b i : Nat} (hb : b < 2 ^ i) : a * 2 ^ i ||| b = a * 2 ^ i + b := by
  rw [← Nat.shiftLeft_eq, Nat.shiftLeft_add_eq_or_of_lt hb]
/-- a number without its last k digits, in parts -/
theorem dn_parts {x k : Nat} (hk : k ≤ 64) : x / 2 ^ k / 18446744073709551616 = x / 18446744073709551616 / 2 ^ k ∧ x / 2 ^ k % 18446744073709551616 = (x / 18446744073709551616 % 2 ^ k) * 2 ^ (64 - k) + x % 18446744073709551616 / 2 ^ k ∧ x % 18446744073709551616 / 2 ^ k < 2 ^ (64 - k) := by
  have hd := Nat.div_add_mod x 18446744073709551616
  have hl : x % 18446744073709551616 < 18446744073709551616 := Nat.mod_lt _ (by decide)
  have e := pow64 hk
  have hA := Nat.two_pow_pos k
  generalize x / 18446744073709551616 = h at hd ⊢
  generalize x % 18446744073709551616 = l at hd hl ⊢
  generalize 18446744073709551616 = D at hd hl e ⊢
  generalize 2 ^ k = A at e hA ⊢
  generalize 2 ^ (64 - k) = B at e ⊢
  subst e
  have h1 : x / A = h * B + l / A := by
    rw [← hd, Nat.mul_assoc, Nat.mul_add_div hA, Nat.mul_comm B h]
  have h2 : l / A < B := Nat.div_lt_of_lt_mul hl
  have h3 : h * B = A * B * (h / A) + h % A * B := by
    conv => lhs; rw [← Nat.div_add_mod h A]
    rw [Nat.add_mul, Nat.mul_right_comm]
  have h4 : h % A * B + l / A < A * B := by
    have := Nat.mod_lt h hA
    calc h % A * B + l / A < h % A * B + B := by omega
      _ = (h % A + 1) * B := by rw [Nat.add_mul, Nat.one_mul]
      _ ≤ A * B := Nat.mul_le_mul_right _ this
  refine ⟨?_, ?_, h2⟩
  · rw [h1, h3, Nat.add_assoc, Nat.mul_add_div (by omega), Nat.div_eq_of_lt h4, Nat.add_zero]
  · rw [h1, h3, Nat.add_assoc, Nat.mul_add_mod, Nat.mod_eq_of_lt h4]
theorem dn_far {x k : Nat} (hx : x < 340282366920938463463374607431768211456) (hk : 64 ≤ k) : x / 2 ^ k / 18446744073709551616 = 0 ∧ x / 2 ^ k % 18446744073709551616 = x / 18446744073709551616 / 2 ^ (k - 64) := by
  have e : x / 2 ^ k = x / 18446744073709551616 / 2 ^ (k - 64) := by
    rw [Nat.div_div_eq_div_mul, show (18446744073709551616 : Nat) = 2 ^ 64 from rfl, ← Nat.pow_add, show 64 + (k - 64) = k by omega]
  have h1 : x / 18446744073709551616 / 2 ^ (k - 64) ≤ x / 18446744073709551616 := Nat.div_le_self _ _
  rw [e]
  generalize x / 18446744073709551616 / 2 ^ (k - 64) = q at h1 ⊢
  omega
/-- a number with k noughts more, in parts -/
theorem up_parts {x k : Nat} (hk : k ≤ 64) : x * 2 ^ k / 18446744073709551616 = x / 18446744073709551616 * 2 ^ k + x % 18446744073709551616 / 2 ^ (64 - k) ∧ x * 2 ^ k % 18446744073709551616 = x % 18446744073709551616 * 2 ^ k % 18446744073709551616 ∧ x % 18446744073709551616 / 2 ^ (64 - k) < 2 ^ k := by
  have hd := Nat.div_add_mod x 18446744073709551616
  have hl : x % 18446744073709551616 < 18446744073709551616 := Nat.mod_lt _ (by decide)
  have e := pow64 hk
  have hA := Nat.two_pow_pos k
  have hB := Nat.two_pow_pos (64 - k)
  have hmm : x * 2 ^ k % 18446744073709551616 = x % 18446744073709551616 * 2 ^ k % 18446744073709551616 := by rw [Nat.mod_mul_mod]
  refine ⟨?_, hmm, ?_⟩
  · generalize x / 18446744073709551616 = h at hd ⊢
    generalize x % 18446744073709551616 = l at hd hl ⊢
    generalize 18446744073709551616 = D at hd hl e ⊢
    generalize 2 ^ k = A at e hA ⊢
    generalize 2 ^ (64 - k) = B at e hB ⊢
    subst e
    rw [← hd, Nat.add_mul, Nat.mul_assoc, Nat.mul_add_div (Nat.mul_pos hA hB), Nat.mul_comm A B, Nat.mul_div_mul_right _ _ hA]
  · exact Nat.div_lt_of_lt_mul (by rw [Nat.mul_comm, ← e]; exact hl)
theorem up_far {x k : Nat} (hx : x * 2 ^ k < 340282366920938463463374607431768211456) (hk : 64 ≤ k) : x * 2 ^ k / 18446744073709551616 = x % 18446744073709551616 * 2 ^ (k - 64) % 18446744073709551616 ∧ x * 2 ^ k % 18446744073709551616 = 0 := by
  have e : x * 2 ^ k = x * 2 ^ (k - 64) * 18446744073709551616 := by
    rw [show (18446744073709551616 : Nat) = 2 ^ 64 from rfl, Nat.mul_assoc, ← Nat.pow_add, show k - 64 + 64 = k by omega]
  rw [e] at hx ⊢
  have hp := Nat.two_pow_pos (k - 64)
  have h1 : x ≤ x * 2 ^ (k - 64) := Nat.le_mul_of_pos_right _ hp
  generalize hq : x * 2 ^ (k - 64) = q at hx h1 ⊢
  have h2 : x % 18446744073709551616 = x := Nat.mod_eq_of_lt (by omega)
  rw [h2, hq]
  omega
end Ra
end Go.Proofs.YtpdleggpmhlagaaDoor
/- How many noughts a word of 64 bits ends in: math/bits.TrailingZeros64, with its table. -/
set_option linter.unusedSimpArgs false
set_option linter.unusedVariables false
set_option linter.unusedSectionVars false
set_option maxRecDepth 20000
set_option maxHeartbeats 4000000
namespace Go.Proofs.YtpdleggpmhlagaaDoor
open Go Go.J
attribute [local irreducible] At AtQ AtM AtM1 PR Ct Pu Rd Res.blk Res.own Res.ex RVs RV
namespace Ra
open Wide
/-- the table as it was laid -/
def TZ (m : Mem) : Prop := ∀ w : World, (∀ k o, m k = some o → w.heap[k]? = some o) → TabAt 1 Lib.deBruijn64tab w
theorem TZ.mono {m m' : Mem} (h : TZ m) (hm : m.le m') : TZ m' := fun w hw => h w fun k o hk => hw k o (hm k o hk)
theorem pr_load_tz {n : Nat} {w0 : World} {F : Fr} {m : Mem} {Rs : List Res} {x : Operand} {t : TypeId} {j k : Nat} (h : TZ m) (hx : ev F x = some (.pointer (some ⟨1, j, none⟩))) (ht : isAggB Tryd.prog t = some false) (hj : j < 64) (hv : Lib.deBruijn64tab.getD j 0 = k) :
    PR Tryd.prog n F (HW w0 m Rs) (.load t x) (.int .u8 (k : Int)) := pr_load1 ht hx fun w hw => by
  have := h w hw.mem j hj
  rw [hv] at this
  exact this
theorem tz {m : Mem} (ht : TZ m) (x : Nat) (hx : x < 18446744073709551616) : Rd Tryd.prog 47 #[.int .u64 (x : Int)] m [] (.int .i64 ((Lib.ctz 64 x : Nat) : Int)) := by
  unfold Rd
  by_cases h0 : x = 0
  · subst h0
    rw [show Lib.ctz 64 0 = 64 from rfl]
    refine Ct.enterV (by rfl) Tryd.func47 rfl Tryd.ntmps47 rfl (fun w0 Rest => ?_)
    (repeat' (first | refine zss ?_ | ((first | (with_reducible first | apply At.val | apply AtQ.val)); (exact zprA); exact rfl) | refine zsM ?_ | (refine zsp ?_ ?_ <;> (intro hc; (try simp only [zhcs, reduceCtorEq] at hc); (try (exfalso; first | omega | contradiction | omega | exact absurd rfl hc | exact absurd (by decide) hc))))))
    all_goals ((with_reducible apply At.retB1 (B := [])); exact rfl; exact rfl; exact zml; exact zkp; exact ⟨rfl, rfl, rfl⟩)
  · obtain ⟨hlow, hk⟩ := Lib.lowest_bit 64 x h0 hx
    rw [show (2 : Nat) ^ 64 = 18446744073709551616 from rfl] at hlow
    obtain ⟨hi, htab⟩ := Lib.deBruijn64_at _ hk
    have e1 : IntKind.wrap .u64 (0 - (x : Int)) = ((18446744073709551616 - x : Nat) : Int) := by rw [IntKind.wrap_u64]; omega
    have e2 : bits .and .u64 (x : Int) ((18446744073709551616 - x : Nat) : Int) = ((2 ^ Lib.ctz 64 x : Nat) : Int) := by rw [bits_and_u64_nat x _ hx (by omega), hlow]
    generalize Lib.ctz 64 x = c at hk hi htab e2 ⊢
    generalize hz : 2 ^ c = z at hi htab e2
    have e3 : IntKind.wrap .u64 ((z : Int) * 285870213051353865) = ((z * 285870213051353865 % 18446744073709551616 : Nat) : Int) := u_mulw z 285870213051353865
    generalize z * 285870213051353865 % 18446744073709551616 = y at hi htab e3
    have e4 : (y : Int) / 2 ^ ((58 : Int)).toNat = ((y / 288230376151711744 : Nat) : Int) := u_shr y 58
    generalize y / 288230376151711744 = j at hi htab e4
    have e5 : IntKind.wrap .i64 ((c : Nat) : Int) = (c : Int) := IntWalk.i64_in _ (by omega)
    have h0' : ¬ (x : Int) = 0 := by omega
    clear hlow hz
    refine Ct.enterV (by rfl) Tryd.func47 rfl Tryd.ntmps47 rfl (fun w0 Rest => ?_)
    (repeat' (first | refine zss ?_ | ((first | (with_reducible first | apply At.val | apply AtQ.val)); (first | exact pr_neg (by rfl) e1 | exact pr_and (by rfl) (by rfl) e2 | exact pr_mul (by rfl) (by rfl) e3 | exact pr_shrv (by rfl) (by rfl) (by decide) (by decide) e4 | exact pr_indexArr1 (by rfl) (by rfl) (by rfl) (by rfl) hi | exact pr_load_tz ht (by rfl) (by rfl) hi htab | exact pr_conv ⟨_, rfl⟩ (by rfl) (by rfl) e5 | exact zprA); exact rfl) | refine zsM ?_ | (refine zsp ?_ ?_ <;> (intro hc; (try simp only [zhcs, reduceCtorEq] at hc); (try (exfalso; first | omega | contradiction | omega | exact absurd rfl hc | exact absurd (by decide) hc))))))
    all_goals ((with_reducible apply At.retB1 (B := [])); exact rfl; exact rfl; exact zml; exact zkp; exact ⟨rfl, rfl, rfl⟩)
end Ra
end Go.Proofs.YtpdleggpmhlagaaDoor
/- Ratios: none, noughts, down, up, less. -/
set_option linter.unusedSimpArgs false
set_option linter.unusedVariables false
set_option linter.unusedSectionVars false
set_option maxRecDepth 20000
set_option maxHeartbeats 4000000
namespace Go.Proofs.YtpdleggpmhlagaaDoor
open Go Go.J
attribute [local irreducible] At AtQ AtM AtM1 PR Ct Pu Rd Res.blk Res.own Res.ex RVs RV
namespace Ra
open Wide
theorem wd_dec (a b : Nat) : decide (a = b) = andL [decide (((a / 18446744073709551616 : Nat) : Int) = ((b / 18446744073709551616 : Nat) : Int)), decide (((a % 18446744073709551616 : Nat) : Int) = ((b % 18446744073709551616 : Nat) : Int))] := by
  by_cases h : a = b
  · subst h; simp [andL]
  · rw [decide_eq_false h]
    by_cases h1 : ((a / 18446744073709551616 : Nat) : Int) = ((b / 18446744073709551616 : Nat) : Int)
    · rw [decide_eq_true h1, decide_eq_false (by omega)]; rfl
    · rw [decide_eq_false h1]; rfl
theorem pr_weq {n : Nat} {F : Fr} {C : World → Prop} {x y : Operand} {u : TypeId} {a b : Nat} (hx : ev F x = some (wv a)) (hy : ev F y = some (wv b)) : PR Tryd.prog n F C (.binOp .eql 24 x y u) (.bool (decide (a = b))) := by
  rw [wd_dec]
  exact pr_aggeq2 hx hy (by rfl) (by kernel_rfl) (by kernel_rfl) (by rfl)
theorem pr_wne {n : Nat} {F : Fr} {C : World → Prop} {x y : Operand} {u : TypeId} {a b : Nat} (hx : ev F x = some (wv a)) (hy : ev F y = some (wv b)) : PR Tryd.prog n F C (.binOp .neq 24 x y u) (.bool (!decide (a = b))) := by
  rw [wd_dec]
  exact pr_aggne2 hx hy (by rfl) (by kernel_rfl) (by kernel_rfl) (by rfl)
theorem hi_shl (h : Nat) {k : Nat} (hk : k ≤ 64) : h * 2 ^ (64 - k) % 18446744073709551616 = h % 2 ^ k * 2 ^ (64 - k) := by
  rw [pow64 hk, Nat.mul_mod_mul_right]
theorem none_ (x : Nat) : Pu Tryd.prog 24 #[wv x] (.bool (decide (x = 0))) := Pu.intro fun m => by
  by_cases h : x = 0
  · subst h
    refine Ct.enterV (by rfl) Tryd.func24 rfl Tryd.ntmps24 rfl (fun w0 Rest => ?_)
    (repeat' (first | refine zss ?_ | ((first | (with_reducible first | apply At.val | apply AtQ.val)); (first | exact pr_weq (a := 0) (b := 0) (by rfl) (by rfl) | exact zprA); exact rfl) | refine zs0 ?_ | ((with_reducible apply At.box (d := 1)); exact rfl; exact rfl; exact rfl; intro b1) | (refine zsp ?_ ?_ <;> (intro hc; (try simp only [zhcs, reduceCtorEq] at hc); (try (exfalso; first | contradiction | omega | exact absurd rfl hc | exact absurd (by decide) hc))))))
    all_goals ((with_reducible apply At.retB1 (B := [])); exact rfl; exact rfl; exact zml; exact zkp; exact ⟨rfl, rfl, rfl⟩)
  · refine Ct.enterV (by rfl) Tryd.func24 rfl Tryd.ntmps24 rfl (fun w0 Rest => ?_)
    (repeat' (first | refine zss ?_ | ((first | (with_reducible first | apply At.val | apply AtQ.val)); (first | exact pr_weq (a := x) (b := 0) (by rfl) (by rfl) | exact zprA); exact rfl) | refine zs0 ?_ | ((with_reducible apply At.box (d := 1)); exact rfl; exact rfl; exact rfl; intro b1) | (refine zsp ?_ ?_ <;> (intro hc; (try simp only [zhcs, reduceCtorEq] at hc); (try (exfalso; first | contradiction | omega | exact absurd rfl hc | exact absurd (by decide) hc))))))
    all_goals ((with_reducible apply At.retB1 (B := [])); exact rfl; exact rfl; exact zml; exact zkp; exact ⟨rfl, rfl, rfl⟩)
theorem ctz_le {y : Nat} (hy : y < 18446744073709551616) : Lib.ctz 64 y ≤ 64 := by
  by_cases h : y = 0
  · subst h; exact Nat.le_refl _
  · obtain ⟨_, _, h2⟩ := ctz_at h hy; omega
theorem noughts {m : Mem} (ht : TZ m) (x : Nat) (hx : x < 340282366920938463463374607431768211456) : Rd Tryd.prog 28 #[wv x] m [] (.int .i64 ((nt x : Nat) : Int)) := by
  unfold Rd
  have hl : x % 18446744073709551616 < 18446744073709551616 := Nat.mod_lt _ (by decide)
  have hc : ∀ y, y < 18446744073709551616 → Lib.ctz 64 y ≤ 64 := fun y hy => ctz_le hy
  unfold nt
  by_cases h : x % 18446744073709551616 = 0
  · rw [if_pos h]
    have k1 := fun (m' : Mem) (hm' : m.le m') => tz (m := m') (ht.mono hm') (x / 18446744073709551616) (by omega)
    have e1 := hc (x / 18446744073709551616) (by omega)
    generalize Lib.ctz 64 (x / 18446744073709551616) = c at k1 e1
    have e2 : IntKind.wrap .i64 (64 + (c : Int)) = ((64 + c : Nat) : Int) := by rw [show 64 + (c : Int) = ((64 + c : Nat) : Int) by omega]; exact IntWalk.i64_in _ (by omega)
    clear hc
    refine Ct.enterV (by rfl) Tryd.func28 rfl Tryd.ntmps28 rfl (fun w0 Rest => ?_)
    (repeat' (first | refine zss ?_ | ((first | (with_reducible first | apply At.val | apply AtQ.val)); (first | exact pr_add (by rfl) (by rfl) e2 | exact zprA); exact rfl) | refine zs0 ?_ | ((with_reducible first | apply AtM1.cr | apply AtQ.cr | apply At.cr); exact rfl; exact rfl; exact fun _ hmm => k1 _ hmm; exact ztk; kernel_rfl) | ((with_reducible apply At.box (d := 1)); exact rfl; exact rfl; exact rfl; intro b1) | (refine zsp ?_ ?_ <;> (intro hc; (try simp only [zhcs, reduceCtorEq] at hc); (try (exfalso; first | omega | contradiction | omega | exact absurd rfl hc | exact absurd (by decide) hc))))))
    all_goals ((with_reducible apply At.retB1 (B := [])); exact rfl; exact rfl; exact zml; exact zkp; exact ⟨rfl, rfl, rfl⟩)
  · rw [if_neg h]
    have k1 := fun (m' : Mem) (hm' : m.le m') => tz (m := m') (ht.mono hm') (x % 18446744073709551616) hl
    clear hc
    refine Ct.enterV (by rfl) Tryd.func28 rfl Tryd.ntmps28 rfl (fun w0 Rest => ?_)
    (repeat' (first | refine zss ?_ | ((first | (with_reducible first | apply At.val | apply AtQ.val)); (exact zprA); exact rfl) | refine zs0 ?_ | ((with_reducible first | apply AtM1.cr | apply AtQ.cr | apply At.cr); exact rfl; exact rfl; exact fun _ hmm => k1 _ hmm; exact ztk; kernel_rfl) | ((with_reducible apply At.box (d := 1)); exact rfl; exact rfl; exact rfl; intro b1) | (refine zsp ?_ ?_ <;> (intro hc; (try simp only [zhcs, reduceCtorEq] at hc); (try (exfalso; first | omega | contradiction | omega | exact absurd rfl hc | exact absurd (by decide) hc))))))
    all_goals ((with_reducible apply At.retB1 (B := [])); exact rfl; exact rfl; exact zml; exact zkp; exact ⟨rfl, rfl, rfl⟩)
theorem down (x k : Nat) (hx : x < 340282366920938463463374607431768211456) (hk : k < 128) : Pu Tryd.prog 29 #[wv x, .int .i64 (k : Int)] (wv (x / 2 ^ k)) := Pu.intro fun m => by
  by_cases h : 64 ≤ k
  · obtain ⟨p1, p2⟩ := dn_far hx h
    have e1 : IntKind.wrap .i64 ((k : Int) - 64) = ((k - 64 : Nat) : Int) := by rw [show (k : Int) - 64 = ((k - 64 : Nat) : Int) by omega]; exact IntWalk.i64_in _ (by omega)
    have e2 := u_shr (x / 18446744073709551616) (k - 64)
    refine Ct.enterV (by rfl) Tryd.func29 rfl Tryd.ntmps29 rfl (fun w0 Rest => ?_)
    (repeat' (first | refine zss ?_ | ((first | (with_reducible first | apply At.val | apply AtQ.val)); (first | exact pr_sub (by rfl) (by rfl) e1 | exact pr_shrv (by rfl) (by rfl) (by omega) (by simp only [IntKind.bits]; omega) e2 | exact zprA); exact rfl) | refine zs0 ?_ | ((with_reducible apply At.box (d := 2)); exact rfl; exact rfl; exact rfl; intro b2) | ((with_reducible apply At.alloc (d := 4)); exact rfl; exact rfl; intro b4) | (refine zsp ?_ ?_ <;> (intro hc; (try simp only [zhcs, reduceCtorEq] at hc); (try (exfalso; first | omega | contradiction | omega | exact absurd rfl hc | exact absurd (by decide) hc))))))
    all_goals ((with_reducible apply At.retV (B := [])); exact rfl; (repeat' (first | exact RVs.nil | (with_reducible apply RVs.cons) | exact rv_tmp (by rfl) | exact rv_cellN (by rfl) (by repeat constructor) (by rfl) (by rfl) (by rfl) | exact rv_cell1 (by rfl) (by repeat constructor) (by rfl) (by rfl) | exact rv_cellA (by rfl) (by repeat constructor) (by rfl) (by rfl) zlq)); exact zml; exact zkp; exact ⟨wd_mk (by rw [p1]; rfl) (by rw [p2]), rfl, rfl⟩)
  · obtain ⟨p1, p2, p3⟩ := dn_parts (x := x) (k := k) (by omega)
    have e0 : IntKind.wrap .i64 (64 - (k : Int)) = ((64 - k : Nat) : Int) := by rw [show 64 - (k : Int) = ((64 - k : Nat) : Int) by omega]; exact IntWalk.i64_in _ (by omega)
    have e1 := u_shr (x / 18446744073709551616) k
    have e2 := u_shr (x % 18446744073709551616) k
    have e3 := u_shl (x / 18446744073709551616) (64 - k)
    have e4 : bits .or .u64 ((x % 18446744073709551616 / 2 ^ k : Nat) : Int) ((x / 18446744073709551616 * 2 ^ (64 - k) % 18446744073709551616 : Nat) : Int) = ((x / 2 ^ k % 18446744073709551616 : Nat) : Int) := by
      have hb : x % 18446744073709551616 / 2 ^ k ≤ x % 18446744073709551616 := Nat.div_le_self _ _
      rw [bits_or_u64_nat _ _ (by omega) (Nat.mod_lt _ (by decide)), p2]
      rw [hi_shl _ (show k ≤ 64 by omega), Nat.or_comm, or_add p3]
    refine Ct.enterV (by rfl) Tryd.func29 rfl Tryd.ntmps29 rfl (fun w0 Rest => ?_)
    (repeat' (first | ((with_reducible apply At.mixed (id := 3) 16 (.q 0 (.q 1 (.q 2 (.q 3 (.q 4 (.q 5 (.q 6 (.q 7 (.q 8 (.q 9 (.q 10 (.q 11 (.q 12 (.q 13 (.q 14 (.x 15 .done))))))))))))))))); exact rfl; kernel_rfl; kernel_rfl; kernel_rfl) | refine zsx ?_ | refine zss ?_ | ((with_reducible apply AtM.bo); exact rfl; exact rfl; exact rfl) | ((first | (with_reducible first | apply At.val | apply AtQ.val) | ((with_reducible first | apply AtM1.valz | apply AtM1.val); exact rfl) | ((with_reducible apply AtM1.val); exact rfl)); (first | exact pr_sub (by rfl) (by rfl) e0 | exact pr_shrv (by rfl) (by rfl) (by omega) (by simp only [IntKind.bits]; omega) e1 | exact pr_shrv (by rfl) (by rfl) (by omega) (by simp only [IntKind.bits]; omega) e2 | exact pr_shlv (by rfl) (by rfl) (by omega) (by simp only [IntKind.bits]; omega) e3 | exact pr_or (by rfl) (by rfl) e4 | exact zprA); exact rfl) | refine zs0 ?_ | refine zx0 ?_ | ((with_reducible apply At.box (d := 2)); exact rfl; exact rfl; exact rfl; intro b2) | ((with_reducible apply At.alloc (d := 4)); exact rfl; exact rfl; intro b4) | (refine zsp ?_ ?_ <;> (intro hc; (try simp only [zhcs, reduceCtorEq] at hc); (try (exfalso; first | omega | contradiction | omega | exact absurd rfl hc | exact absurd (by decide) hc))))))
    all_goals ((with_reducible apply At.retV (B := [])); exact rfl; (repeat' (first | exact RVs.nil | (with_reducible apply RVs.cons) | exact rv_tmp (by rfl) | exact rv_cellN (by rfl) (by repeat constructor) (by rfl) (by rfl) (by rfl) | exact rv_cell1 (by rfl) (by repeat constructor) (by rfl) (by rfl) | exact rv_cellA (by rfl) (by repeat constructor) (by rfl) (by rfl) zlq)); exact zml; exact zkp; exact ⟨wd_mk (by rw [p1]) rfl, rfl, rfl⟩)
theorem lessR (x y : Nat) (hx : x < 340282366920938463463374607431768211456) (hy : y < 340282366920938463463374607431768211456) : Pu Tryd.prog 31 #[wv x, wv y] (wv (x - y)) := Pu.intro fun m => by
  have k1 := sub x y hx hy
  refine Ct.enterV (by rfl) Tryd.func31 rfl Tryd.ntmps31 rfl (fun w0 Rest => ?_)
  (repeat' (first | refine zss ?_ | ((first | (with_reducible first | apply At.val | apply AtQ.val)); (exact zprA); exact rfl) | refine zs0 ?_ | ((with_reducible first | apply AtM1.callp | apply AtQ.callp | apply At.callp); kernel_rfl; exact rfl; exact rfl; exact k1) | ((with_reducible apply At.box (d := 2)); exact rfl; exact rfl; exact rfl; intro b2) | ((with_reducible apply At.box (d := 3)); exact rfl; exact rfl; exact rfl; intro b3) | ((with_reducible apply At.alloc (d := 4)); exact rfl; exact rfl; intro b4) | ((with_reducible apply At.alloc (d := 5)); exact rfl; exact rfl; intro b5) | (refine zsp ?_ ?_ <;> (intro hc; (try simp only [zhcs, reduceCtorEq] at hc); (try (exfalso; first | contradiction | omega | exact absurd rfl hc | exact absurd (by decide) hc))))))
  all_goals ((with_reducible apply At.retV (B := [])); exact rfl; (repeat' (first | exact RVs.nil | (with_reducible apply RVs.cons) | exact rv_tmp (by rfl) | exact rv_cellN (by rfl) (by repeat constructor) (by rfl) (by rfl) (by rfl) | exact rv_cell1 (by rfl) (by repeat constructor) (by rfl) (by rfl) | exact rv_cellA (by rfl) (by repeat constructor) (by rfl) (by rfl) zlq)); exact zml; exact zkp; exact ⟨rfl, rfl, rfl⟩)
theorem up (x k : Nat) (hx : x * 2 ^ k < 340282366920938463463374607431768211456) (h0 : x < 340282366920938463463374607431768211456) (hk : k < 128) : Pu Tryd.prog 32 #[wv x, .int .i64 (k : Int)] (wv (x * 2 ^ k)) := Pu.intro fun m => by
  by_cases h : 64 ≤ k
  · obtain ⟨p1, p2⟩ := up_far hx h
    have e1 : IntKind.wrap .i64 ((k : Int) - 64) = ((k - 64 : Nat) : Int) := by rw [show (k : Int) - 64 = ((k - 64 : Nat) : Int) by omega]; exact IntWalk.i64_in _ (by omega)
    have e2 := u_shl (x % 18446744073709551616) (k - 64)
    refine Ct.enterV (by rfl) Tryd.func32 rfl Tryd.ntmps32 rfl (fun w0 Rest => ?_)
    (repeat' (first | refine zss ?_ | ((first | (with_reducible first | apply At.val | apply AtQ.val)); (first | exact pr_sub (by rfl) (by rfl) e1 | exact pr_shlv (by rfl) (by rfl) (by omega) (by simp only [IntKind.bits]; omega) e2 | exact zprA); exact rfl) | refine zs0 ?_ | ((with_reducible apply At.box (d := 2)); exact rfl; exact rfl; exact rfl; intro b2) | ((with_reducible apply At.alloc (d := 4)); exact rfl; exact rfl; intro b4) | (refine zsp ?_ ?_ <;> (intro hc; (try simp only [zhcs, reduceCtorEq] at hc); (try (exfalso; first | omega | contradiction | omega | exact absurd rfl hc | exact absurd (by decide) hc))))))
    all_goals ((with_reducible apply At.retV (B := [])); exact rfl; (repeat' (first | exact RVs.nil | (with_reducible apply RVs.cons) | exact rv_tmp (by rfl) | exact rv_cellN (by rfl) (by repeat constructor) (by rfl) (by rfl) (by rfl) | exact rv_cell1 (by rfl) (by repeat constructor) (by rfl) (by rfl) | exact rv_cellA (by rfl) (by repeat constructor) (by rfl) (by rfl) zlq)); exact zml; exact zkp; exact ⟨wd_mk (by rw [p1]) (by rw [p2]; rfl), rfl, rfl⟩)
  · obtain ⟨p1, p2, p3⟩ := up_parts (x := x) (k := k) (by omega)
    have e0 : IntKind.wrap .i64 (64 - (k : Int)) = ((64 - k : Nat) : Int) := by rw [show 64 - (k : Int) = ((64 - k : Nat) : Int) by omega]; exact IntWalk.i64_in _ (by omega)
    have hh : x / 18446744073709551616 * 2 ^ k < 18446744073709551616 := by
      have : x * 2 ^ k / 18446744073709551616 < 18446744073709551616 := Nat.div_lt_of_lt_mul hx
      rw [p1] at this
      exact Nat.lt_of_le_of_lt (Nat.le_add_right _ _) this
    have e1 := u_shl (x / 18446744073709551616) k
    rw [Nat.mod_eq_of_lt hh] at e1
    have e2 := u_shl (x % 18446744073709551616) k
    have e3 := u_shr (x % 18446744073709551616) (64 - k)
    have e4 : bits .or .u64 ((x / 18446744073709551616 * 2 ^ k : Nat) : Int) ((x % 18446744073709551616 / 2 ^ (64 - k) : Nat) : Int) = ((x * 2 ^ k / 18446744073709551616 : Nat) : Int) := by
      have hb : x % 18446744073709551616 / 2 ^ (64 - k) ≤ x % 18446744073709551616 := Nat.div_le_self _ _
      rw [bits_or_u64_nat _ _ hh (Nat.lt_of_le_of_lt hb (Nat.mod_lt _ (by decide))), p1, or_add p3]
    refine Ct.enterV (by rfl) Tryd.func32 rfl Tryd.ntmps32 rfl (fun w0 Rest => ?_)
    (repeat' (first | ((with_reducible apply At.mixed (id := 3) 16 (.q 0 (.q 1 (.q 2 (.q 3 (.q 4 (.q 5 (.q 6 (.q 7 (.q 8 (.q 9 (.q 10 (.q 11 (.q 12 (.q 13 (.q 14 (.x 15 .done))))))))))))))))); exact rfl; kernel_rfl; kernel_rfl; kernel_rfl) | refine zsx ?_ | refine zss ?_ | ((with_reducible apply AtM.bo); exact rfl; exact rfl; exact rfl) | ((first | (with_reducible first | apply At.val | apply AtQ.val) | ((with_reducible first | apply AtM1.valz | apply AtM1.val); exact rfl) | ((with_reducible apply AtM1.val); exact rfl)); (first | exact pr_sub (by rfl) (by rfl) e0 | exact pr_shrv (by rfl) (by rfl) (by omega) (by simp only [IntKind.bits]; omega) e3 | exact pr_shlv (by rfl) (by rfl) (by omega) (by simp only [IntKind.bits]; omega) e1 | exact pr_shlv (by rfl) (by rfl) (by omega) (by simp only [IntKind.bits]; omega) e2 | exact pr_or (by rfl) (by rfl) e4 | exact zprA); exact rfl) | refine zs0 ?_ | refine zx0 ?_ | ((with_reducible apply At.box (d := 2)); exact rfl; exact rfl; exact rfl; intro b2) | ((with_reducible apply At.alloc (d := 4)); exact rfl; exact rfl; intro b4) | (refine zsp ?_ ?_ <;> (intro hc; (try simp only [zhcs, reduceCtorEq] at hc); (try (exfalso; first | omega | contradiction | omega | exact absurd rfl hc | exact absurd (by decide) hc))))))
    all_goals ((with_reducible apply At.retV (B := [])); exact rfl; (repeat' (first | exact RVs.nil | (with_reducible apply RVs.cons) | exact rv_tmp (by rfl) | exact rv_cellN (by rfl) (by repeat constructor) (by rfl) (by rfl) (by rfl) | exact rv_cell1 (by rfl) (by repeat constructor) (by rfl) (by rfl) | exact rv_cellA (by rfl) (by repeat constructor) (by rfl) (by rfl) zlq)); exact zml; exact zkp; exact ⟨wd_mk rfl (by rw [p2]), rfl, rfl⟩)
end Ra
end Go.Proofs.YtpdleggpmhlagaaDoor
/- Ratios: the greatest common divisor, by halving. -/
set_option linter.unusedSimpArgs false
set_option linter.unusedVariables false
set_option linter.unusedSectionVars false
set_option maxRecDepth 20000
set_option maxHeartbeats 4000000
namespace Go.Proofs.YtpdleggpmhlagaaDoor
open Go Go.J
attribute [local irreducible] At AtQ AtM AtM1 PR Ct Pu Rd Res.blk Res.own Res.ex RVs RV
namespace Ra
open Wide
theorem pr_minN {n : Nat} {F : Fr} {C : World → Prop} {x y : Operand} {k : IntKind} {p q : Nat} {ts : Array TypeId} (hx : ev F x = some (.int k (p : Int))) (hy : ev F y = some (.int k (q : Int))) : PR Tryd.prog n F C (.call ⟨.builtin .min, #[x, y], ts⟩) (.int k ((min p q : Nat) : Int)) := by
  rw [show ((min p q : Nat) : Int) = min (p : Int) (q : Int) by omega]
  exact pr_minI hx hy
theorem or_zero' (a : Nat) (h : a < 18446744073709551616) : bits .or .u64 (a : Int) 0 = (a : Int) := by
  have := bits_or_u64_nat a 0 h (by decide)
  rw [Nat.or_zero] at this
  exact this
theorem zero_or' (a : Nat) (h : a < 18446744073709551616) : bits .or .u64 0 (a : Int) = (a : Int) := by
  have := bits_or_u64_nat 0 a (by decide) h
  rw [Nat.zero_or] at this
  exact this
structure GS where
  (a b : Nat)
theorem gcd {m : Mem} (ht : TZ m) (x y : Nat) (hx : x < 340282366920938463463374607431768211456) (hy : y < 340282366920938463463374607431768211456) : Rd Tryd.prog 14 #[wv x, wv y] m [] (wv (Nat.gcd x y)) := by
  unfold Rd
  have hxh : x / 18446744073709551616 < 18446744073709551616 := by omega
  have hyh : y / 18446744073709551616 < 18446744073709551616 := by omega
  have n1 := none_ x
  have n2 := none_ y
  by_cases h0 : x = 0
  · rw [decide_eq_true h0] at n1
    subst h0
    rw [Nat.gcd_zero_left]
    have e1 := zero_or' _ hyh
    have e2 := zero_or' _ (show y % 18446744073709551616 < 18446744073709551616 by omega)
    refine Ct.enterV (by rfl) Tryd.func14 rfl Tryd.ntmps14 rfl (fun w0 Rest => ?_)
    (repeat' (first | refine zss ?_ | ((first | (with_reducible first | apply At.val | apply AtQ.val)); (first | exact pr_or (by rfl) (by rfl) e1 | exact pr_or (by rfl) (by rfl) e2); exact rfl) | refine zs0 ?_ | ((with_reducible first | apply AtM1.callp | apply AtQ.callp | apply At.callp); kernel_rfl; exact rfl; exact rfl; exact n1) | ((with_reducible first | apply AtM1.callp | apply AtQ.callp | apply At.callp); kernel_rfl; exact rfl; exact rfl; exact n2) | ((with_reducible apply At.box (d := 2)); exact rfl; exact rfl; exact rfl; intro b2) | ((with_reducible apply At.box (d := 3)); exact rfl; exact rfl; exact rfl; intro b3) | ((with_reducible apply At.alloc (d := 4)); exact rfl; exact rfl; intro b4) | (refine zsp ?_ ?_ <;> (intro hc; (try simp only [zhcs, reduceCtorEq] at hc); (try (exfalso; first | contradiction | omega | exact absurd rfl hc | exact absurd (by decide) hc))))))
    all_goals ((with_reducible apply At.retV (B := [])); exact rfl; (repeat' (first | exact RVs.nil | (with_reducible apply RVs.cons) | exact rv_tmp (by rfl) | exact rv_cellN (by rfl) (by repeat constructor) (by rfl) (by rfl) (by rfl) | exact rv_cell1 (by rfl) (by repeat constructor) (by rfl) (by rfl))); exact zml; exact zkp; exact ⟨rfl, rfl, rfl⟩)
  rw [decide_eq_false h0] at n1
  by_cases h1 : y = 0
  · rw [decide_eq_true h1] at n2
    subst h1
    rw [Nat.gcd_zero_right]
    have e1 := or_zero' _ hxh
    have e2 := or_zero' _ (show x % 18446744073709551616 < 18446744073709551616 by omega)
    refine Ct.enterV (by rfl) Tryd.func14 rfl Tryd.ntmps14 rfl (fun w0 Rest => ?_)
    (repeat' (first | refine zss ?_ | ((first | (with_reducible first | apply At.val | apply AtQ.val)); (first | exact pr_or (by rfl) (by rfl) e1 | exact pr_or (by rfl) (by rfl) e2); exact rfl) | refine zs0 ?_ | ((with_reducible first | apply AtM1.callp | apply AtQ.callp | apply At.callp); kernel_rfl; exact rfl; exact rfl; exact n1) | ((with_reducible first | apply AtM1.callp | apply AtQ.callp | apply At.callp); kernel_rfl; exact rfl; exact rfl; exact n2) | ((with_reducible apply At.box (d := 2)); exact rfl; exact rfl; exact rfl; intro b2) | ((with_reducible apply At.box (d := 3)); exact rfl; exact rfl; exact rfl; intro b3) | ((with_reducible apply At.alloc (d := 4)); exact rfl; exact rfl; intro b4) | (refine zsp ?_ ?_ <;> (intro hc; (try simp only [zhcs, reduceCtorEq] at hc); (try (exfalso; first | contradiction | omega | exact absurd rfl hc | exact absurd (by decide) hc))))))
    all_goals ((with_reducible apply At.retV (B := [])); exact rfl; (repeat' (first | exact RVs.nil | (with_reducible apply RVs.cons) | exact rv_tmp (by rfl) | exact rv_cellN (by rfl) (by repeat constructor) (by rfl) (by rfl) (by rfl) | exact rv_cell1 (by rfl) (by repeat constructor) (by rfl) (by rfl))); exact zml; exact zkp; exact ⟨rfl, rfl, rfl⟩)
  rw [decide_eq_false h1] at n2
  have k1 := fun (m' : Mem) (hm' : m.le m') => noughts (m := m') (ht.mono hm') x hx
  have k2 := fun (m' : Mem) (hm' : m.le m') => noughts (m := m') (ht.mono hm') y hy
  obtain ⟨_, _, q1⟩ := nt_spec h0 hx
  obtain ⟨_, _, q2⟩ := nt_spec h1 hy
  have kd := down x (nt x) hx q1
  have hend := gcd_end h0 hx h1 hy
  obtain ⟨o1, o2⟩ := od_spec h0 hx
  have hox : od x < 340282366920938463463374607431768211456 := Nat.lt_of_le_of_lt (Nat.div_le_self _ _) hx
  have hG : Nat.gcd x y < 340282366920938463463374607431768211456 := Nat.lt_of_le_of_lt (Nat.gcd_le_left y (by omega)) hx
  generalize Nat.gcd x y = G at hend hG ⊢
  have kd' : Pu Tryd.prog 29 #[wv x, .int .i64 ((nt x : Nat) : Int)] (wv (od x)) := kd
  clear kd
  generalize od x = u at kd' hend o2 hox
  refine Ct.enterV (by rfl) Tryd.func14 rfl Tryd.ntmps14 rfl (fun w0 Rest => ?_)
  (repeat' (first | ((with_reducible apply At.mixed (id := 4) 5 (.q 0 (.q 1 (.q 2 (.q 3 (.x 4 .done)))))); exact rfl; kernel_rfl; kernel_rfl; kernel_rfl) | ((with_reducible apply At.mixed (id := 6) 5 (.q 0 (.q 1 (.q 2 (.q 3 (.x 4 .done)))))); exact rfl; kernel_rfl; kernel_rfl; kernel_rfl) | refine zsx ?_ | refine zss ?_ | ((with_reducible apply AtM.bo); exact rfl; exact rfl; exact rfl) | ((first | (with_reducible first | apply At.val | apply AtQ.val) | ((with_reducible first | apply AtM1.valz | apply AtM1.val); exact rfl) | ((with_reducible apply AtM1.val); exact rfl)); (exact pr_minN (by rfl) (by rfl)); exact rfl) | refine zs0 ?_ | refine zx0 ?_ | ((with_reducible first | apply AtM1.callp | apply AtQ.callp | apply At.callp); kernel_rfl; exact rfl; exact rfl; exact n1) | ((with_reducible first | apply AtM1.callp | apply AtQ.callp | apply At.callp); kernel_rfl; exact rfl; exact rfl; exact n2) | ((with_reducible first | apply AtM1.cr | apply AtQ.cr | apply At.cr); exact rfl; exact rfl; exact fun _ hmm => k1 _ hmm; exact ztk; kernel_rfl) | ((with_reducible first | apply AtM1.cr | apply AtQ.cr | apply At.cr); exact rfl; exact rfl; exact fun _ hmm => k2 _ hmm; exact ztk; kernel_rfl) | ((with_reducible first | apply AtM1.callp | apply AtQ.callp | apply At.callp); kernel_rfl; exact rfl; exact rfl; exact kd') | ((with_reducible apply At.box (d := 2)); exact rfl; exact rfl; exact rfl; intro b2) | ((with_reducible apply At.box (d := 3)); exact rfl; exact rfl; exact rfl; intro b3) | ((with_reducible apply At.alloc (d := 4)); exact rfl; exact rfl; intro b4) | (refine zsp ?_ ?_ <;> (intro hc; (try simp only [zhcs, reduceCtorEq] at hc); (try (exfalso; first | contradiction | omega | exact absurd rfl hc | exact absurd (by decide) hc))))))
  clear k1 k2 n1 n2 kd' hx hxh hyh
  (refine At.loopk (σ := GS) [2, 3, 4, 5] (fun s F0 => F0) (fun s => m) (fun s => .blk b2 24 (wd s.a) :: .blk b3 24 (wd s.b) :: .blk b4 24 (wd 0) :: Rest) (fun s => s.a % 2 = 1 ∧ s.a < 340282366920938463463374607431768211456 ∧ s.b < 340282366920938463463374607431768211456 ∧ Nat.gcd s.a s.b = Nat.gcd u y) (fun s => s.a + s.b) ⟨u, y⟩ (by rfl) ?_ zsubs zml zente ?_)
  · exact ⟨o2, hox, hy, rfl⟩
  rintro ⟨a, b⟩ ⟨g1, g2, g3, g4⟩
  dsimp only at g1 g2 g3 g4 ⊢
  have n3 := none_ b
  by_cases hb : b = 0
  · rw [decide_eq_true hb] at n3
    subst hb
    rw [Nat.gcd_zero_right] at g4
    rw [← g4, Nat.mul_comm] at hend
    have ku := up a (min (nt x) (nt y)) (by rw [hend]; exact hG) g2 (by omega)
    rw [hend] at ku
    (repeat' (first | refine zss ?_ | refine zs0 ?_ | ((with_reducible first | apply AtM1.callp | apply AtQ.callp | apply At.callp); kernel_rfl; exact rfl; exact rfl; exact n3) | ((with_reducible first | apply AtM1.callp | apply AtQ.callp | apply At.callp); kernel_rfl; exact rfl; exact rfl; exact ku) | ((with_reducible apply At.box (d := 2)); exact rfl; exact rfl; exact rfl; intro b2) | ((with_reducible apply At.box (d := 3)); exact rfl; exact rfl; exact rfl; intro b3) | ((with_reducible apply At.alloc (d := 4)); exact rfl; exact rfl; intro b4) | (refine zsp ?_ ?_ <;> (intro hc; (try simp only [zhcs, reduceCtorEq] at hc); (try (exfalso; first | contradiction | omega | exact absurd rfl hc | exact absurd (by decide) hc))))))
    all_goals ((with_reducible apply At.retV (B := [])); exact rfl; (repeat' (first | exact RVs.nil | (with_reducible apply RVs.cons) | exact rv_tmp (by rfl) | exact rv_cellN (by rfl) (by repeat constructor) (by rfl) (by rfl) (by rfl) | exact rv_cell1 (by rfl) (by repeat constructor) (by rfl) (by rfl))); exact zml; exact zkp; exact ⟨rfl, rfl, rfl⟩)
  · rw [decide_eq_false hb] at n3
    obtain ⟨s1, s2, s3⟩ := gcd_step g1 hb g3
    obtain ⟨_, _, q3⟩ := nt_spec hb g3
    have k3 := fun (m' : Mem) (hm' : m.le m') => noughts (m := m') (ht.mono hm') b g3
    have kd : Pu Tryd.prog 29 #[wv b, .int .i64 ((nt b : Nat) : Int)] (wv (od b)) := down b (nt b) g3 q3
    have hob : od b < 340282366920938463463374607431768211456 := Nat.lt_of_le_of_lt (Nat.div_le_self _ _) g3
    generalize od b = c at s1 s2 s3 kd hob
    have kl := less c a
    clear q3
    by_cases hc2 : c < a
    · rw [decide_eq_true hc2] at kl
      rw [Nat.min_eq_right (Nat.le_of_lt hc2), Nat.max_eq_left (Nat.le_of_lt hc2)] at s1 s3
      rw [Nat.min_eq_right (Nat.le_of_lt hc2)] at s2
      have km := lessR a c g2 hob
      (repeat' (first | ((with_reducible apply At.mixed (id := 4) 5 (.q 0 (.q 1 (.q 2 (.q 3 (.x 4 .done)))))); exact rfl; kernel_rfl; kernel_rfl; kernel_rfl) | ((with_reducible apply At.mixed (id := 6) 5 (.q 0 (.q 1 (.q 2 (.q 3 (.x 4 .done)))))); exact rfl; kernel_rfl; kernel_rfl; kernel_rfl) | refine zsx ?_ | refine zss ?_ | ((with_reducible apply AtM.bo); exact rfl; exact rfl; exact rfl) | refine zs0 ?_ | refine zx0 ?_ | ((with_reducible first | apply AtM1.callp | apply AtQ.callp | apply At.callp); kernel_rfl; exact rfl; exact rfl; exact n3) | ((with_reducible first | apply AtM1.cr | apply AtQ.cr | apply At.cr); exact rfl; exact rfl; exact fun _ hmm => k3 _ hmm; exact ztk; kernel_rfl) | ((with_reducible first | apply AtM1.callp | apply AtQ.callp | apply At.callp); kernel_rfl; exact rfl; exact rfl; exact kd) | ((with_reducible first | apply AtM1.callp | apply AtQ.callp | apply At.callp); kernel_rfl; exact rfl; exact rfl; exact kl) | ((with_reducible first | apply AtM1.callp | apply AtQ.callp | apply At.callp); kernel_rfl; exact rfl; exact rfl; exact km) | ((with_reducible apply At.box (d := 2)); exact rfl; exact rfl; exact rfl; intro b2) | ((with_reducible apply At.box (d := 3)); exact rfl; exact rfl; exact rfl; intro b3) | ((with_reducible apply At.alloc (d := 4)); exact rfl; exact rfl; intro b4) | (refine zsp ?_ ?_ <;> (intro hc; (try simp only [zhcs, reduceCtorEq] at hc); (try (exfalso; first | contradiction | omega | exact absurd rfl hc | exact absurd (by decide) hc))))))
      all_goals ((with_reducible refine At.reachk ((⟨c, a - c⟩ : GS)) ?_ ?_ ?_ ?_); exact zsubs; exact zml; exact zente; exact ⟨⟨s2, hob, Nat.lt_of_le_of_lt (Nat.sub_le _ _) g2, s1.trans g4⟩, s3⟩)
    · rw [decide_eq_false hc2] at kl
      have hle := Nat.le_of_not_lt hc2
      rw [Nat.min_eq_left hle, Nat.max_eq_right hle] at s1 s3
      have km := lessR c a hob g2
      (repeat' (first | ((with_reducible apply At.mixed (id := 4) 5 (.q 0 (.q 1 (.q 2 (.q 3 (.x 4 .done)))))); exact rfl; kernel_rfl; kernel_rfl; kernel_rfl) | ((with_reducible apply At.mixed (id := 6) 5 (.q 0 (.q 1 (.q 2 (.q 3 (.x 4 .done)))))); exact rfl; kernel_rfl; kernel_rfl; kernel_rfl) | refine zsx ?_ | refine zss ?_ | ((with_reducible apply AtM.bo); exact rfl; exact rfl; exact rfl) | refine zs0 ?_ | refine zx0 ?_ | ((with_reducible first | apply AtM1.callp | apply AtQ.callp | apply At.callp); kernel_rfl; exact rfl; exact rfl; exact n3) | ((with_reducible first | apply AtM1.cr | apply AtQ.cr | apply At.cr); exact rfl; exact rfl; exact fun _ hmm => k3 _ hmm; exact ztk; kernel_rfl) | ((with_reducible first | apply AtM1.callp | apply AtQ.callp | apply At.callp); kernel_rfl; exact rfl; exact rfl; exact kd) | ((with_reducible first | apply AtM1.callp | apply AtQ.callp | apply At.callp); kernel_rfl; exact rfl; exact rfl; exact kl) | ((with_reducible first | apply AtM1.callp | apply AtQ.callp | apply At.callp); kernel_rfl; exact rfl; exact rfl; exact km) | ((with_reducible apply At.box (d := 2)); exact rfl; exact rfl; exact rfl; intro b2) | ((with_reducible apply At.box (d := 3)); exact rfl; exact rfl; exact rfl; intro b3) | ((with_reducible apply At.alloc (d := 4)); exact rfl; exact rfl; intro b4) | (refine zsp ?_ ?_ <;> (intro hc; (try simp only [zhcs, reduceCtorEq] at hc); (try (exfalso; first | contradiction | omega | exact absurd rfl hc | exact absurd (by decide) hc))))))
      all_goals ((with_reducible refine At.reachk ((⟨a, c - a⟩ : GS)) ?_ ?_ ?_ ?_); exact zsubs; exact zml; exact zente; exact ⟨⟨g1, g2, Nat.lt_of_le_of_lt (Nat.sub_le _ _) hob, s1.trans g4⟩, s3⟩)
end Ra
end Go.Proofs.YtpdleggpmhlagaaDoor
/- Ratios: one number by another, and the check. -/
set_option linter.unusedSimpArgs false
set_option linter.unusedVariables false
set_option linter.unusedSectionVars false
set_option maxRecDepth 20000
set_option maxHeartbeats 4000000
namespace Go.Proofs.YtpdleggpmhlagaaDoor
open Go Go.J
attribute [local irreducible] At AtQ AtM AtM1 PR Ct Pu Rd Res.blk Res.own Res.ex RVs RV
namespace Ra
open Wide
theorem times_ (x y : Nat) (hx : x < 340282366920938463463374607431768211456) (hy : y < 340282366920938463463374607431768211456) : Pu Tryd.prog 35 #[wv x, wv y] (.tuple #[wv (sV (x * y)), .int .i64 (sE (x * y))]) := Pu.intro fun m => by
  by_cases h1 : x < 18446744073709551616
  · have z1 : x / 18446744073709551616 = 0 := by omega
    have z2 : x % 18446744073709551616 = x := by omega
    have k1 := times y x hy h1
    rw [Nat.mul_comm] at k1
    rw [show wv x = .agg #[.int .u64 0, .int .u64 (x : Int)] from (wd_mk (by rw [z1]; rfl) (by rw [z2])).symm]
    refine Ct.enterV (by rfl) Tryd.func35 rfl Tryd.ntmps35 rfl (fun w0 Rest => ?_)
    (repeat' (first | refine zss ?_ | refine zs0 ?_ | ((with_reducible first | apply AtM1.callp | apply AtQ.callp | apply At.callp); kernel_rfl; exact rfl; exact rfl; exact k1) | ((with_reducible apply At.box (d := 2)); exact rfl; exact rfl; exact rfl; intro b2) | ((with_reducible apply At.box (d := 3)); exact rfl; exact rfl; exact rfl; intro b3) | ((with_reducible apply At.alloc (d := 4)); exact rfl; exact rfl; intro b4) | (refine zsp ?_ ?_ <;> (intro hc; (try simp only [zhcs, reduceCtorEq] at hc); (try (exfalso; first | contradiction | omega | exact absurd rfl hc | exact absurd (by decide) hc))))))
    all_goals ((with_reducible apply At.retV (B := [])); exact rfl; (repeat' (first | exact RVs.nil | (with_reducible apply RVs.cons) | exact rv_tmp (by rfl) | exact rv_cellN (by rfl) (by repeat constructor) (by rfl) (by rfl) (by rfl) | exact rv_cell1 (by rfl) (by repeat constructor) (by rfl) (by rfl))); exact zml; exact zkp; exact ⟨rfl, rfl, rfl⟩)
  · have n1 : ¬ ((x / 18446744073709551616 : Nat) : Int) = 0 := by omega
    by_cases h2 : y < 18446744073709551616
    · have z1 : y / 18446744073709551616 = 0 := by omega
      have z2 : y % 18446744073709551616 = y := by omega
      have k1 := times x y hx h2
      rw [show wv y = .agg #[.int .u64 0, .int .u64 (y : Int)] from (wd_mk (by rw [z1]; rfl) (by rw [z2])).symm]
      refine Ct.enterV (by rfl) Tryd.func35 rfl Tryd.ntmps35 rfl (fun w0 Rest => ?_)
      (repeat' (first | refine zss ?_ | refine zs0 ?_ | ((with_reducible first | apply AtM1.callp | apply AtQ.callp | apply At.callp); kernel_rfl; exact rfl; exact rfl; exact k1) | ((with_reducible apply At.box (d := 2)); exact rfl; exact rfl; exact rfl; intro b2) | ((with_reducible apply At.box (d := 3)); exact rfl; exact rfl; exact rfl; intro b3) | ((with_reducible apply At.alloc (d := 4)); exact rfl; exact rfl; intro b4) | (refine zsp ?_ ?_ <;> (intro hc; (try simp only [zhcs, reduceCtorEq] at hc); (try (exfalso; first | (first | omega | exact absurd hc n1) | contradiction | omega | exact absurd rfl hc | exact absurd (by decide) hc))))))
      all_goals ((with_reducible apply At.retV (B := [])); exact rfl; (repeat' (first | exact RVs.nil | (with_reducible apply RVs.cons) | exact rv_tmp (by rfl) | exact rv_cellN (by rfl) (by repeat constructor) (by rfl) (by rfl) (by rfl) | exact rv_cell1 (by rfl) (by repeat constructor) (by rfl) (by rfl))); exact zml; exact zkp; exact ⟨rfl, rfl, rfl⟩)
    · have n2 : ¬ ((y / 18446744073709551616 : Nat) : Int) = 0 := by omega
      have hb : 340282366920938463463374607431768211456 ≤ x * y := Nat.le_trans (by decide : 340282366920938463463374607431768211456 ≤ 18446744073709551616 * 18446744073709551616) (Nat.mul_le_mul (by omega) (by omega))
      rw [show sV (x * y) = 0 from if_neg (Nat.not_lt.2 hb), show sE (x * y) = 1 from if_neg (Nat.not_lt.2 hb)]
      refine Ct.enterV (by rfl) Tryd.func35 rfl Tryd.ntmps35 rfl (fun w0 Rest => ?_)
      (repeat' (first | refine zss ?_ | refine zs0 ?_ | ((with_reducible apply At.box (d := 2)); exact rfl; exact rfl; exact rfl; intro b2) | ((with_reducible apply At.box (d := 3)); exact rfl; exact rfl; exact rfl; intro b3) | ((with_reducible apply At.alloc (d := 4)); exact rfl; exact rfl; intro b4) | (refine zsp ?_ ?_ <;> (intro hc; (try simp only [zhcs, reduceCtorEq] at hc); (try (exfalso; first | (first | omega | exact absurd hc n1 | exact absurd hc n2) | contradiction | omega | exact absurd rfl hc | exact absurd (by decide) hc))))))
      all_goals ((with_reducible apply At.retV (B := [])); exact rfl; (repeat' (first | exact RVs.nil | (with_reducible apply RVs.cons) | exact rv_tmp (by rfl) | exact rv_cellN (by rfl) (by repeat constructor) (by rfl) (by rfl) (by rfl) | exact rv_cell1 (by rfl) (by repeat constructor) (by rfl) (by rfl))); exact zml; exact zkp; exact ⟨rfl, rfl, rfl⟩)
/-- a ratio's value -/
abbrev rv (n d : Nat) : Value := .agg (wd n ++ wd d).toArray
def chk (n d : Nat) : Int := if d = 0 ∨ Nat.gcd n d ≠ 1 then 2 else 0
theorem check {m : Mem} (ht : TZ m) (n d : Nat) (hn : n < 340282366920938463463374607431768211456) (hd : d < 340282366920938463463374607431768211456) : Rd Tryd.prog 16 #[rv n d] m [] (.int .i64 (chk n d)) := by
  unfold Rd
  have k1 := none_ d
  have k2 := fun (m' : Mem) (hm' : m.le m') => gcd (m := m') (ht.mono hm') n d hn hd
  have k3 := of_ 1 (by decide)
  unfold chk
  by_cases h0 : d = 0
  · rw [decide_eq_true h0] at k1
    rw [if_pos (.inl h0)]
    refine Ct.enterV (by rfl) Tryd.func16 rfl Tryd.ntmps16 rfl (fun w0 Rest => ?_)
    (repeat' (first | refine zss ?_ | refine zs0 ?_ | ((with_reducible first | apply AtM1.callp | apply AtQ.callp | apply At.callp); kernel_rfl; exact rfl; exact rfl; exact k1) | ((with_reducible apply At.box (d := 1)); exact rfl; exact rfl; exact rfl; intro b1) | (refine zsp ?_ ?_ <;> (intro hc; (try simp only [zhcs, reduceCtorEq] at hc); (try (exfalso; first | contradiction | omega | exact absurd rfl hc | exact absurd (by decide) hc))))))
    all_goals ((with_reducible apply At.retB1 (B := [])); exact rfl; exact rfl; exact zml; exact zkp; exact ⟨rfl, rfl, rfl⟩)
  · rw [decide_eq_false h0] at k1
    obtain ⟨g, hg⟩ : ∃ g, Nat.gcd n d = g := ⟨_, rfl⟩
    rw [hg] at k2
    by_cases h1 : g = 1
    · rw [if_neg (by rw [hg]; rintro (h | h); exact h0 h; exact h h1)]
      clear hg
      subst h1
      refine Ct.enterV (by rfl) Tryd.func16 rfl Tryd.ntmps16 rfl (fun w0 Rest => ?_)
      (repeat' (first | refine zss ?_ | ((first | (with_reducible first | apply At.val | apply AtQ.val)); (exact pr_wne (a := 1) (b := 1) (by rfl) (by rfl)); exact rfl) | refine zs0 ?_ | ((with_reducible first | apply AtM1.callp | apply AtQ.callp | apply At.callp); kernel_rfl; exact rfl; exact rfl; exact k1) | ((with_reducible first | apply AtM1.cr | apply AtQ.cr | apply At.cr); exact rfl; exact rfl; exact fun _ hmm => k2 _ hmm; exact ztk; kernel_rfl) | ((with_reducible first | apply AtM1.callp | apply AtQ.callp | apply At.callp); kernel_rfl; exact rfl; exact rfl; exact k3) | ((with_reducible apply At.box (d := 1)); exact rfl; exact rfl; exact rfl; intro b1) | (refine zsp ?_ ?_ <;> (intro hc; (try simp only [zhcs, reduceCtorEq] at hc); (try (exfalso; first | contradiction | omega | exact absurd rfl hc | exact absurd (by decide) hc))))))
      all_goals ((with_reducible apply At.retB1 (B := [])); exact rfl; exact rfl; exact zml; exact zkp; exact ⟨rfl, rfl, rfl⟩)
    · rw [if_pos (by rw [hg]; exact .inr h1)]
      have e : (!decide (g = 1)) = true := by rw [decide_eq_false h1]; rfl
      have pw : ∀ {n' : Nat} {F : Fr} {C : World → Prop} {x y : Operand} {u : TypeId}, ev F x = some (wv g) → ev F y = some (wv 1) → PR Tryd.prog n' F C (.binOp .neq 24 x y u) (.bool true) := fun hx hy => by rw [← e]; exact pr_wne hx hy
      refine Ct.enterV (by rfl) Tryd.func16 rfl Tryd.ntmps16 rfl (fun w0 Rest => ?_)
      (repeat' (first | refine zss ?_ | ((first | (with_reducible first | apply At.val | apply AtQ.val)); (exact pw (by rfl) (by rfl)); exact rfl) | refine zs0 ?_ | ((with_reducible first | apply AtM1.callp | apply AtQ.callp | apply At.callp); kernel_rfl; exact rfl; exact rfl; exact k1) | ((with_reducible first | apply AtM1.cr | apply AtQ.cr | apply At.cr); exact rfl; exact rfl; exact fun _ hmm => k2 _ hmm; exact ztk; kernel_rfl) | ((with_reducible first | apply AtM1.callp | apply AtQ.callp | apply At.callp); kernel_rfl; exact rfl; exact rfl; exact k3) | ((with_reducible apply At.box (d := 1)); exact rfl; exact rfl; exact rfl; intro b1) | (refine zsp ?_ ?_ <;> (intro hc; (try simp only [zhcs, reduceCtorEq] at hc); (try (exfalso; first | contradiction | omega | exact absurd rfl hc | exact absurd (by decide) hc))))))
      all_goals ((with_reducible apply At.retB1 (B := [])); exact rfl; exact rfl; exact zml; exact zkp; exact ⟨rfl, rfl, rfl⟩)
end Ra
end Go.Proofs.YtpdleggpmhlagaaDoor
/- Ratios: which is less. -/
set_option linter.unusedSimpArgs false
set_option linter.unusedVariables false
set_option linter.unusedSectionVars false
set_option maxRecDepth 20000
set_option maxHeartbeats 4000000
namespace Go.Proofs.YtpdleggpmhlagaaDoor
open Go Go.J
attribute [local irreducible] At AtQ AtM AtM1 PR Ct Pu Rd Res.blk Res.own Res.ex RVs RV
namespace Ra
open Wide
def les (a b c d : Nat) : Bool × Int := if chk a b ≠ 0 ∨ chk c d ≠ 0 then (false, 2) else if sE (a * d) ≠ 0 ∨ sE (c * b) ≠ 0 then (false, 1) else (decide (a * d < c * b), 0)
theorem sE_zero {x : Nat} (h : sE x = 0) : sV x = x := by
  unfold sE at h
  unfold sV
  by_cases k : x < 340282366920938463463374607431768211456
  · rw [if_pos k]
  · rw [if_neg k] at h; exact absurd h (by decide)
theorem lessT {m : Mem} (ht : TZ m) (a b c d : Nat) (ha : a < 340282366920938463463374607431768211456) (hb : b < 340282366920938463463374607431768211456) (hc' : c < 340282366920938463463374607431768211456) (hd : d < 340282366920938463463374607431768211456) :
    Rd Tryd.prog 20 #[rv a b, rv c d] m [] (.tuple #[.bool (les a b c d).1, .int .i64 (les a b c d).2]) := by
  unfold Rd
  have k1 := fun (m' : Mem) (hm' : m.le m') => check (m := m') (ht.mono hm') a b ha hb
  have k2 := fun (m' : Mem) (hm' : m.le m') => check (m := m') (ht.mono hm') c d hc' hd
  have k3 := times_ a d ha hd
  have k4 := times_ c b hc' hb
  have k5 := less (sV (a * d)) (sV (c * b))
  unfold les
  by_cases h1 : chk a b = 0
  rotate_left
  · rw [if_pos (.inl h1)]
    generalize chk a b = e1 at k1 h1
    refine Ct.enterV (by rfl) Tryd.func20 rfl Tryd.ntmps20 rfl (fun w0 Rest => ?_)
    (repeat' (first | refine zss ?_ | refine zs0 ?_ | ((with_reducible first | apply AtM1.cr | apply AtQ.cr | apply At.cr); exact rfl; exact rfl; exact fun _ hmm => k1 _ hmm; exact ztk; kernel_rfl) | ((with_reducible apply At.box (d := 2)); exact rfl; exact rfl; exact rfl; intro b2) | ((with_reducible apply At.box (d := 3)); exact rfl; exact rfl; exact rfl; intro b3) | ((with_reducible apply At.alloc (d := 6)); exact rfl; exact rfl; intro b6) | ((with_reducible apply At.alloc (d := 8)); exact rfl; exact rfl; intro b8) | (refine zsp ?_ ?_ <;> (intro hc; (try simp only [zhcs, reduceCtorEq] at hc); (try (exfalso; first | (first | omega | exact absurd hc h1) | contradiction | omega | exact absurd rfl hc | exact absurd (by decide) hc))))))
    all_goals ((with_reducible apply At.retV (B := [])); exact rfl; (repeat' (first | exact RVs.nil | (with_reducible apply RVs.cons) | exact rv_tmp (by rfl) | exact rv_cellN (by rfl) (by repeat constructor) (by rfl) (by rfl) (by rfl) | exact rv_cell1 (by rfl) (by repeat constructor) (by rfl) (by rfl))); exact zml; exact zkp; exact ⟨rfl, rfl, rfl⟩)
  by_cases h2 : chk c d = 0
  rotate_left
  · rw [if_pos (.inr h2)]
    rw [h1] at k1
    generalize chk c d = e2 at k2 h2
    refine Ct.enterV (by rfl) Tryd.func20 rfl Tryd.ntmps20 rfl (fun w0 Rest => ?_)
    (repeat' (first | refine zss ?_ | refine zs0 ?_ | ((with_reducible first | apply AtM1.cr | apply AtQ.cr | apply At.cr); exact rfl; exact rfl; exact fun _ hmm => k1 _ hmm; exact ztk; kernel_rfl) | ((with_reducible first | apply AtM1.cr | apply AtQ.cr | apply At.cr); exact rfl; exact rfl; exact fun _ hmm => k2 _ hmm; exact ztk; kernel_rfl) | ((with_reducible apply At.box (d := 2)); exact rfl; exact rfl; exact rfl; intro b2) | ((with_reducible apply At.box (d := 3)); exact rfl; exact rfl; exact rfl; intro b3) | ((with_reducible apply At.alloc (d := 6)); exact rfl; exact rfl; intro b6) | ((with_reducible apply At.alloc (d := 8)); exact rfl; exact rfl; intro b8) | (refine zsp ?_ ?_ <;> (intro hc; (try simp only [zhcs, reduceCtorEq] at hc); (try (exfalso; first | (first | omega | exact absurd hc h2) | contradiction | omega | exact absurd rfl hc | exact absurd (by decide) hc))))))
    all_goals ((with_reducible apply At.retV (B := [])); exact rfl; (repeat' (first | exact RVs.nil | (with_reducible apply RVs.cons) | exact rv_tmp (by rfl) | exact rv_cellN (by rfl) (by repeat constructor) (by rfl) (by rfl) (by rfl) | exact rv_cell1 (by rfl) (by repeat constructor) (by rfl) (by rfl))); exact zml; exact zkp; exact ⟨rfl, rfl, rfl⟩)
  rw [if_neg (by rintro (h | h); exact h h1; exact h h2)]
  rw [h1] at k1
  rw [h2] at k2
  by_cases h3 : sE (a * d) = 0
  rotate_left
  · rw [if_pos (.inl h3)]
    generalize sE (a * d) = e3 at k3 h3
    refine Ct.enterV (by rfl) Tryd.func20 rfl Tryd.ntmps20 rfl (fun w0 Rest => ?_)
    (repeat' (first | refine zss ?_ | refine zs0 ?_ | ((with_reducible first | apply AtM1.cr | apply AtQ.cr | apply At.cr); exact rfl; exact rfl; exact fun _ hmm => k1 _ hmm; exact ztk; kernel_rfl) | ((with_reducible first | apply AtM1.cr | apply AtQ.cr | apply At.cr); exact rfl; exact rfl; exact fun _ hmm => k2 _ hmm; exact ztk; kernel_rfl) | ((with_reducible first | apply AtM1.callp | apply AtQ.callp | apply At.callp); kernel_rfl; exact rfl; exact rfl; exact k3) | ((with_reducible first | apply AtM1.callp | apply AtQ.callp | apply At.callp); kernel_rfl; exact rfl; exact rfl; exact k4) | ((with_reducible apply At.box (d := 2)); exact rfl; exact rfl; exact rfl; intro b2) | ((with_reducible apply At.box (d := 3)); exact rfl; exact rfl; exact rfl; intro b3) | ((with_reducible apply At.alloc (d := 6)); exact rfl; exact rfl; intro b6) | ((with_reducible apply At.alloc (d := 8)); exact rfl; exact rfl; intro b8) | (refine zsp ?_ ?_ <;> (intro hc; (try simp only [zhcs, reduceCtorEq] at hc); (try (exfalso; first | (first | omega | exact absurd hc h3) | contradiction | omega | exact absurd rfl hc | exact absurd (by decide) hc))))))
    all_goals ((with_reducible apply At.retV (B := [])); exact rfl; (repeat' (first | exact RVs.nil | (with_reducible apply RVs.cons) | exact rv_tmp (by rfl) | exact rv_cellN (by rfl) (by repeat constructor) (by rfl) (by rfl) (by rfl) | exact rv_cell1 (by rfl) (by repeat constructor) (by rfl) (by rfl))); exact zml; exact zkp; exact ⟨rfl, rfl, rfl⟩)
  by_cases h4 : sE (c * b) = 0
  rotate_left
  · rw [if_pos (.inr h4)]
    rw [h3] at k3
    generalize sE (c * b) = e4 at k4 h4
    refine Ct.enterV (by rfl) Tryd.func20 rfl Tryd.ntmps20 rfl (fun w0 Rest => ?_)
    (repeat' (first | refine zss ?_ | refine zs0 ?_ | ((with_reducible first | apply AtM1.cr | apply AtQ.cr | apply At.cr); exact rfl; exact rfl; exact fun _ hmm => k1 _ hmm; exact ztk; kernel_rfl) | ((with_reducible first | apply AtM1.cr | apply AtQ.cr | apply At.cr); exact rfl; exact rfl; exact fun _ hmm => k2 _ hmm; exact ztk; kernel_rfl) | ((with_reducible first | apply AtM1.callp | apply AtQ.callp | apply At.callp); kernel_rfl; exact rfl; exact rfl; exact k3) | ((with_reducible first | apply AtM1.callp | apply AtQ.callp | apply At.callp); kernel_rfl; exact rfl; exact rfl; exact k4) | ((with_reducible apply At.box (d := 2)); exact rfl; exact rfl; exact rfl; intro b2) | ((with_reducible apply At.box (d := 3)); exact rfl; exact rfl; exact rfl; intro b3) | ((with_reducible apply At.alloc (d := 6)); exact rfl; exact rfl; intro b6) | ((with_reducible apply At.alloc (d := 8)); exact rfl; exact rfl; intro b8) | (refine zsp ?_ ?_ <;> (intro hc; (try simp only [zhcs, reduceCtorEq] at hc); (try (exfalso; first | (first | omega | exact absurd hc h4) | contradiction | omega | exact absurd rfl hc | exact absurd (by decide) hc))))))
    all_goals ((with_reducible apply At.retV (B := [])); exact rfl; (repeat' (first | exact RVs.nil | (with_reducible apply RVs.cons) | exact rv_tmp (by rfl) | exact rv_cellN (by rfl) (by repeat constructor) (by rfl) (by rfl) (by rfl) | exact rv_cell1 (by rfl) (by repeat constructor) (by rfl) (by rfl))); exact zml; exact zkp; exact ⟨rfl, rfl, rfl⟩)
  rw [if_neg (by rintro (h | h); exact h h3; exact h h4)]
  rw [sE_zero h3, sE_zero h4] at k5
  rw [sE_zero h3, h3] at k3
  rw [sE_zero h4, h4] at k4
  refine Ct.enterV (by rfl) Tryd.func20 rfl Tryd.ntmps20 rfl (fun w0 Rest => ?_)
  (repeat' (first | refine zss ?_ | refine zs0 ?_ | ((with_reducible first | apply AtM1.cr | apply AtQ.cr | apply At.cr); exact rfl; exact rfl; exact fun _ hmm => k1 _ hmm; exact ztk; kernel_rfl) | ((with_reducible first | apply AtM1.cr | apply AtQ.cr | apply At.cr); exact rfl; exact rfl; exact fun _ hmm => k2 _ hmm; exact ztk; kernel_rfl) | ((with_reducible first | apply AtM1.callp | apply AtQ.callp | apply At.callp); kernel_rfl; exact rfl; exact rfl; exact k3) | ((with_reducible first | apply AtM1.callp | apply AtQ.callp | apply At.callp); kernel_rfl; exact rfl; exact rfl; exact k4) | ((with_reducible first | apply AtM1.callp | apply AtQ.callp | apply At.callp); kernel_rfl; exact rfl; exact rfl; exact k5) | ((with_reducible apply At.box (d := 2)); exact rfl; exact rfl; exact rfl; intro b2) | ((with_reducible apply At.box (d := 3)); exact rfl; exact rfl; exact rfl; intro b3) | ((with_reducible apply At.alloc (d := 6)); exact rfl; exact rfl; intro b6) | ((with_reducible apply At.alloc (d := 8)); exact rfl; exact rfl; intro b8) | (refine zsp ?_ ?_ <;> (intro hc; (try simp only [zhcs, reduceCtorEq] at hc); (try (exfalso; first | contradiction | omega | exact absurd rfl hc | exact absurd (by decide) hc))))))
  all_goals ((with_reducible apply At.retV (B := [])); exact rfl; (repeat' (first | exact RVs.nil | (with_reducible apply RVs.cons) | exact rv_tmp (by rfl) | exact rv_cellN (by rfl) (by repeat constructor) (by rfl) (by rfl) (by rfl) | exact rv_cell1 (by rfl) (by repeat constructor) (by rfl) (by rfl))); exact zml; exact zkp; exact ⟨rfl, rfl, rfl⟩)
end Ra
end Go.Proofs.YtpdleggpmhlagaaDoor
/- Ratios: how long a number is. -/
set_option linter.unusedSimpArgs false
set_option linter.unusedVariables false
set_option linter.unusedSectionVars false
set_option maxRecDepth 20000
set_option maxHeartbeats 4000000
namespace Go.Proofs.YtpdleggpmhlagaaDoor
open Go Go.J
attribute [local irreducible] At AtQ AtM AtM1 PR Ct Pu Rd Res.blk Res.own Res.ex RVs RV
namespace Ra
open Wide
theorem len64 (y : Nat) (h : y < 18446744073709551616) : Pu Tryd.prog 52 #[.int .u64 (y : Int)] (.int .i64 (Lib.bitLen y : Int)) := by
  have := Pu.of_same fun w => Any.bits_Len64 { laysn134 with } (y : Int) w (by omega) (by omega)
  rw [Int.toNat_natCast] at this
  exact this
/-- how many digits of base two -/
def ln (x : Nat) : Nat := if x / 18446744073709551616 = 0 then Lib.bitLen (x % 18446744073709551616) else 64 + Lib.bitLen (x / 18446744073709551616)
theorem long (x : Nat) (hx : x < 340282366920938463463374607431768211456) : Pu Tryd.prog 41 #[wv x] (.int .i64 (ln x : Int)) := Pu.intro fun m => by
  have hh : x / 18446744073709551616 < 18446744073709551616 := by omega
  unfold ln
  by_cases h : x / 18446744073709551616 = 0
  · rw [if_pos h]
    have k1 := len64 (x % 18446744073709551616) (Nat.mod_lt _ (by decide))
    refine Ct.enterV (by rfl) Tryd.func41 rfl Tryd.ntmps41 rfl (fun w0 Rest => ?_)
    (repeat' (first | refine zss ?_ | refine zs0 ?_ | ((with_reducible first | apply AtM1.callp | apply AtQ.callp | apply At.callp); kernel_rfl; exact rfl; exact rfl; exact k1) | ((with_reducible apply At.box (d := 1)); exact rfl; exact rfl; exact rfl; intro b1) | (refine zsp ?_ ?_ <;> (intro hc; (try simp only [zhcs, reduceCtorEq] at hc); (try (exfalso; first | omega | contradiction | omega | exact absurd rfl hc | exact absurd (by decide) hc))))))
    all_goals ((with_reducible apply At.retB1 (B := [])); exact rfl; exact rfl; exact zml; exact zkp; exact ⟨rfl, rfl, rfl⟩)
  · rw [if_neg h]
    have k1 := len64 (x / 18446744073709551616) hh
    have e1 : Lib.bitLen (x / 18446744073709551616) ≤ 64 := Lib.bitLen_le _ 64 (by omega) (by omega)
    generalize Lib.bitLen (x / 18446744073709551616) = c at k1 e1
    have e2 : IntKind.wrap .i64 (64 + (c : Int)) = ((64 + c : Nat) : Int) := by rw [show 64 + (c : Int) = ((64 + c : Nat) : Int) by omega]; exact IntWalk.i64_in _ (by omega)
    have n1 : ¬ ((x / 18446744073709551616 : Nat) : Int) = 0 := by omega
    refine Ct.enterV (by rfl) Tryd.func41 rfl Tryd.ntmps41 rfl (fun w0 Rest => ?_)
    (repeat' (first | refine zss ?_ | ((first | (with_reducible first | apply At.val | apply AtQ.val)); (exact pr_add (by rfl) (by rfl) e2); exact rfl) | refine zs0 ?_ | ((with_reducible first | apply AtM1.callp | apply AtQ.callp | apply At.callp); kernel_rfl; exact rfl; exact rfl; exact k1) | ((with_reducible apply At.box (d := 1)); exact rfl; exact rfl; exact rfl; intro b1) | (refine zsp ?_ ?_ <;> (intro hc; (try simp only [zhcs, reduceCtorEq] at hc); (try (exfalso; first | (first | omega | exact absurd hc n1) | contradiction | omega | exact absurd rfl hc | exact absurd (by decide) hc))))))
    all_goals ((with_reducible apply At.retB1 (B := [])); exact rfl; exact rfl; exact zml; exact zkp; exact ⟨rfl, rfl, rfl⟩)
end Ra
end Go.Proofs.YtpdleggpmhlagaaDoor
/- Ratios (plain): how often, by shifting and taking away. -/
set_option linter.unusedSimpArgs false
set_option linter.unusedVariables false
set_option linter.unusedSectionVars false
set_option maxRecDepth 20000
set_option maxHeartbeats 4000000
namespace Go.Proofs.YtpdleggpmhlagaaDoor
open Go Go.J
namespace Ra
theorem len_bounds {y : Nat} (h0 : y ≠ 0) (h : y < 18446744073709551616) : 1 ≤ Lib.bitLen y ∧ 2 ^ (Lib.bitLen y - 1) ≤ y ∧ y < 2 ^ Lib.bitLen y ∧ Lib.bitLen y ≤ 64 := by
  obtain ⟨h1, h2, h3⟩ := Lib.bitLenAux_bounds 64 y h h0
  exact ⟨h1, h2, h3, Lib.bitLen_le y 64 (Nat.le_refl _) h⟩
theorem ln_bounds {x : Nat} (h0 : x ≠ 0) (hx : x < 340282366920938463463374607431768211456) : 1 ≤ ln x ∧ 2 ^ (ln x - 1) ≤ x ∧ x < 2 ^ ln x ∧ ln x ≤ 128 := by
  unfold ln
  have hd := Nat.div_add_mod x 18446744073709551616
  have hm : x % 18446744073709551616 < 18446744073709551616 := Nat.mod_lt _ (by decide)
  by_cases h : x / 18446744073709551616 = 0
  · rw [if_pos h]
    rw [h, Nat.mul_zero, Nat.zero_add] at hd
    rw [hd] at hm ⊢
    obtain ⟨h1, h2, h3, h4⟩ := len_bounds h0 hm
    exact ⟨h1, h2, h3, by omega⟩
  · rw [if_neg h]
    obtain ⟨h1, h2, h3, h4⟩ := len_bounds h (by omega)
    generalize x / 18446744073709551616 = q at h h1 h2 h3 h4 hd ⊢
    generalize Lib.bitLen q = c at h1 h2 h3 h4 ⊢
    refine ⟨by omega, ?_, ?_, by omega⟩
    · rw [show 64 + c - 1 = 64 + (c - 1) by omega, Nat.pow_add]
      have := Nat.mul_le_mul_left (2 ^ 64) h2
      rw [show (2 : Nat) ^ 64 = 18446744073709551616 from rfl] at this ⊢
      omega
    · rw [Nat.pow_add]
      have := Nat.mul_le_mul_left (2 ^ 64) (Nat.succ_le_of_lt h3)
      rw [show (2 : Nat) ^ 64 = 18446744073709551616 from rfl] at this ⊢
      omega
/-- the longest shift -/
theorem sh_fits {a d k : Nat} (ha0 : a ≠ 0) (ha : a < 340282366920938463463374607431768211456) (hd0 : d ≠ 0) (hd : d < 340282366920938463463374607431768211456) (hk : k + ln d ≤ ln a) : d * 2 ^ k < 340282366920938463463374607431768211456 ∧ k < 128 := by
  obtain ⟨_, _, _, a4⟩ := ln_bounds ha0 ha
  obtain ⟨d1, _, d3, _⟩ := ln_bounds hd0 hd
  refine ⟨?_, by omega⟩
  have h1 : d * 2 ^ k < 2 ^ ln d * 2 ^ k := Nat.mul_lt_mul_of_pos_right d3 (Nat.two_pow_pos k)
  rw [← Nat.pow_add] at h1
  have h2 : 2 ^ (ln d + k) ≤ 2 ^ 128 := Nat.pow_le_pow_right (by decide) (by omega)
  rw [show (2 : Nat) ^ 128 = 340282366920938463463374607431768211456 from rfl] at h2
  omega
theorem sh_start {a d k : Nat} (ha0 : a ≠ 0) (ha : a < 340282366920938463463374607431768211456) (hd0 : d ≠ 0) (hd : d < 340282366920938463463374607431768211456) (hk : ln a + 1 ≤ k + ln d) : a < d * 2 ^ k := by
  obtain ⟨_, _, a3, _⟩ := ln_bounds ha0 ha
  obtain ⟨d1, d2, _, _⟩ := ln_bounds hd0 hd
  have h1 : 2 ^ (ln d - 1) * 2 ^ k ≤ d * 2 ^ k := Nat.mul_le_mul_right _ d2
  rw [← Nat.pow_add] at h1
  have h2 : 2 ^ ln a ≤ 2 ^ (ln d - 1 + k) := Nat.pow_le_pow_right (by decide) (by omega)
  omega
/-- what is true ahead of the shift by s - 1 -/
def Wi (a d s q r : Nat) : Prop := a = q * 2 ^ s * d + r ∧ r < d * 2 ^ s
theorem wi_no {a d k q r : Nat} (h : Wi a d (k + 1) q r) (hr : r < d * 2 ^ k) : Wi a d k (q * 2) r := by
  obtain ⟨h1, _⟩ := h
  refine ⟨?_, hr⟩
  rw [Nat.mul_assoc q 2, ← Nat.pow_succ']
  exact h1
theorem wi_yes {a d k q r : Nat} (h : Wi a d (k + 1) q r) (hr : ¬ r < d * 2 ^ k) : Wi a d k (q * 2 + 1) (r - d * 2 ^ k) := by
  obtain ⟨h1, h2⟩ := h
  have e1 : d * 2 ^ (k + 1) = 2 * (d * 2 ^ k) := by rw [Nat.pow_succ', Nat.mul_left_comm]
  have e2 : (q * 2 + 1) * 2 ^ k * d = q * 2 ^ (k + 1) * d + d * 2 ^ k := by
    rw [Nat.add_mul, Nat.one_mul, Nat.add_mul, Nat.mul_assoc q 2, ← Nat.pow_succ', Nat.mul_comm (2 ^ k) d]
  refine ⟨?_, by omega⟩
  rw [e2]
  omega
theorem wi_end {a d q r : Nat} (h : Wi a d 0 q r) : q = a / d := by
  obtain ⟨h1, h2⟩ := h
  rw [Nat.pow_zero, Nat.mul_one] at h1 h2
  rw [h1, Nat.mul_comm q d, Nat.mul_add_div (by omega), Nat.div_eq_of_lt h2, Nat.add_zero]
/-- the bit k set, in the words -/
theorem or_bit (q k : Nat) : (q * 2 ^ (k + 1) + 2 ^ k) / 18446744073709551616 = q * 2 ^ (k + 1) / 18446744073709551616 ||| 2 ^ k / 18446744073709551616 ∧ (q * 2 ^ (k + 1) + 2 ^ k) % 18446744073709551616 = q * 2 ^ (k + 1) % 18446744073709551616 ||| 2 ^ k % 18446744073709551616 := by
  have e : q * 2 ^ (k + 1) + 2 ^ k = q * 2 ^ (k + 1) ||| 2 ^ k := by
    rw [← Nat.shiftLeft_eq, Nat.shiftLeft_add_eq_or_of_lt (Nat.pow_lt_pow_right (by decide) (Nat.lt_succ_self k))]
  rw [e]
  exact ⟨Nat.or_div_two_pow (n := 64), Nat.or_mod_two_pow (n := 64)⟩
end Ra
end Go.Proofs.YtpdleggpmhlagaaDoor
/- Ratios: how often one number goes into another. -/
set_option linter.unusedSimpArgs false
set_option linter.unusedVariables false
set_option linter.unusedSectionVars false
set_option maxRecDepth 20000
set_option maxHeartbeats 4000000
namespace Go.Proofs.YtpdleggpmhlagaaDoor
open Go Go.J
attribute [local irreducible] At AtQ AtM AtM1 PR Ct Pu Rd Res.blk Res.own Res.ex RVs RV
namespace Ra
open Wide
structure WS where
  (t : Int) (Q q r : Nat)
theorem whole (a d : Nat) (ha : a < 340282366920938463463374607431768211456) (hd : d < 340282366920938463463374607431768211456) (hd0 : d ≠ 0) : Pu Tryd.prog 25 #[wv a, wv d] (wv (a / d)) := Pu.intro fun m => by
  have l1 := long a ha
  have l2 := long d hd
  have hla : ln a ≤ 128 ∧ (a = 0 → ln a = 0) := by
    by_cases h : a = 0
    · subst h; exact ⟨by decide, fun _ => by decide⟩
    · exact ⟨(ln_bounds h ha).2.2.2, fun k => absurd k h⟩
  have hld := ln_bounds hd0 hd
  have hld1 : 1 ≤ ln d := hld.1
  have hld4 : ln d ≤ 128 := hld.2.2.2
  clear hld
  have hst : Wi a d (((ln a : Int) - (ln d : Int)) + 1).toNat 0 a := by
    refine ⟨by simp, ?_⟩
    by_cases h : a = 0
    · have := Nat.mul_le_mul_left d (Nat.two_pow_pos (((ln a : Int) - (ln d : Int)) + 1).toNat)
      omega
    · exact sh_start h ha hd0 hd (by omega)
  have hfit := fun k => @sh_fits a d k
  obtain ⟨la, hlae⟩ : ∃ la, ln a = la := ⟨_, rfl⟩
  obtain ⟨ld, hlde⟩ : ∃ ld, ln d = ld := ⟨_, rfl⟩
  rw [hlae] at hla l1
  rw [hlde] at hld1 hld4 l2
  rw [hlae, hlde] at hst
  have e0 : IntKind.wrap .i64 ((la : Int) - (ld : Int)) = (la : Int) - (ld : Int) := IntWalk.i64_in _ (by omega)
  refine Ct.enterV (by rfl) Tryd.func25 rfl Tryd.ntmps25 rfl (fun w0 Rest => ?_)
  (repeat' (first | refine zss ?_ | ((first | (with_reducible first | apply At.val | apply AtQ.val)); (exact pr_sub (by rfl) (by rfl) e0); exact rfl) | refine zs0 ?_ | ((with_reducible first | apply AtM1.callp | apply AtQ.callp | apply At.callp); kernel_rfl; exact rfl; exact rfl; exact l1) | ((with_reducible first | apply AtM1.callp | apply AtQ.callp | apply At.callp); kernel_rfl; exact rfl; exact rfl; exact l2) | fail | ((with_reducible apply At.box (d := 2)); exact rfl; exact rfl; exact rfl; intro b2) | ((with_reducible apply At.box (d := 3)); exact rfl; exact rfl; exact rfl; intro b3) | ((with_reducible apply At.alloc (d := 4)); exact rfl; exact rfl; intro b4) | ((with_reducible apply At.alloc (d := 5)); exact rfl; exact rfl; intro b5) | ((with_reducible apply At.alloc (d := 7)); exact rfl; exact rfl; intro b7) | ((with_reducible apply At.alloc (d := 8)); exact rfl; exact rfl; intro b8) | (refine zsp ?_ ?_ <;> (intro hc; (try simp only [zhcs, reduceCtorEq] at hc); (try (exfalso; first | contradiction | omega | exact absurd rfl hc | exact absurd (by decide) hc))))))
  clear l1 l2 e0
  rw [show ([.int .u64 0, .int .u64 0] : List Value) = wd 0 from rfl]
  (refine At.loopk (σ := WS) [2, 3, 4, 5] (fun s F0 => (6, .int .i64 s.t) :: F0) (fun s => m) (fun s => .blk b2 24 (wd s.r) :: .blk b3 24 (wd d) :: .blk b4 24 (wd 0) :: .blk b5 24 (wd s.Q) :: Rest) (fun s => -200 ≤ s.t ∧ s.t + ld ≤ la ∧ s.r ≤ a ∧ s.Q = s.q * 2 ^ (s.t + 1).toNat ∧ Wi a d (s.t + 1).toNat s.q s.r) (fun s => (s.t + 1).toNat) ⟨(la : Int) - (ld : Int), 0, 0, a⟩ (by rfl) ?_ zsubs zml zente ?_)
  · exact ⟨by dsimp only; omega, by dsimp only; omega, Nat.le_refl _, by simp, hst⟩
  rintro ⟨t, Q, q, r⟩ ⟨g1, g2, g3, g4, g5⟩
  dsimp only at g1 g2 g3 g4 g5 ⊢
  by_cases h : 0 ≤ t
  · obtain ⟨k, rfl⟩ : ∃ k : Nat, t = (k : Int) := ⟨t.toNat, by omega⟩
    rw [show ((k : Int) + 1).toNat = k + 1 by omega] at g4 g5
    have a0 : a ≠ 0 := fun e => by have := hla.2 e; omega
    obtain ⟨f1, f2⟩ := hfit k a0 ha hd0 hd (by omega)
    have ku := up d k f1 hd f2
    have kl := less r (d * 2 ^ k)
    have em : IntKind.wrap .i64 ((k : Int) - 1) = (k : Int) - 1 := IntWalk.i64_in _ (by omega)
    by_cases hr : r < d * 2 ^ k
    · rw [decide_eq_true hr] at kl
      have hn := wi_no g5 hr
      clear hfit hst
      generalize d * 2 ^ k = X at ku kl f1 hr
      (repeat' (first | refine zss ?_ | ((first | (with_reducible first | apply At.val | apply AtQ.val)); (exact pr_sub (by rfl) (by rfl) em); exact rfl) | refine zs0 ?_ | ((with_reducible first | apply AtM1.callp | apply AtQ.callp | apply At.callp); kernel_rfl; exact rfl; exact rfl; exact ku) | ((with_reducible first | apply AtM1.callp | apply AtQ.callp | apply At.callp); kernel_rfl; exact rfl; exact rfl; exact kl) | ((with_reducible apply At.box (d := 2)); exact rfl; exact rfl; exact rfl; intro b2) | ((with_reducible apply At.box (d := 3)); exact rfl; exact rfl; exact rfl; intro b3) | ((with_reducible apply At.alloc (d := 4)); exact rfl; exact rfl; intro b4) | ((with_reducible apply At.alloc (d := 5)); exact rfl; exact rfl; intro b5) | ((with_reducible apply At.alloc (d := 7)); exact rfl; exact rfl; intro b7) | ((with_reducible apply At.alloc (d := 8)); exact rfl; exact rfl; intro b8) | (refine zsp ?_ ?_ <;> (intro hc; (try simp only [zhcs, reduceCtorEq] at hc); (try (exfalso; first | omega | contradiction | omega | exact absurd rfl hc | exact absurd (by decide) hc))))))
      all_goals ((with_reducible refine At.reachk ((⟨(k : Int) - 1, Q, q * 2, r⟩ : WS)) ?_ ?_ ?_ ?_); exact zsubs; exact zml; exact zente; exact ⟨⟨by dsimp only; omega, by dsimp only; omega, g3, by dsimp only; rw [show ((k : Int) - 1 + 1).toNat = k by omega, g4, Nat.pow_succ', Nat.mul_assoc], by dsimp only; rw [show ((k : Int) - 1 + 1).toNat = k by omega]; exact hn⟩, by dsimp only; omega⟩)
    · rw [decide_eq_false hr] at kl
      have hy := wi_yes g5 hr
      have h1p : 2 ^ k < 340282366920938463463374607431768211456 := by
        have := Nat.le_mul_of_pos_left (2 ^ k) (Nat.pos_of_ne_zero hd0)
        omega
      have k1 := of_ 1 (by decide)
      have kv := up 1 k (by rw [Nat.one_mul]; exact h1p) (by decide) f2
      rw [Nat.one_mul] at kv
      have km := lessR r (d * 2 ^ k) (Nat.lt_of_le_of_lt g3 ha) f1
      have ob := or_bit q k
      rw [← g4] at ob
      have hQ : Q < 340282366920938463463374607431768211456 := by
        have h1 := g5.1
        rw [← g4] at h1
        have := Nat.le_mul_of_pos_right Q (Nat.pos_of_ne_zero hd0)
        omega
      have p1 : bits .or .u64 ((Q / 18446744073709551616 : Nat) : Int) ((2 ^ k / 18446744073709551616 : Nat) : Int) = (((Q + 2 ^ k) / 18446744073709551616 : Nat) : Int) := by rw [bits_or_u64_nat _ _ (by omega) (by omega), ob.1]
      have p2 : bits .or .u64 ((Q % 18446744073709551616 : Nat) : Int) ((2 ^ k % 18446744073709551616 : Nat) : Int) = (((Q + 2 ^ k) % 18446744073709551616 : Nat) : Int) := by rw [bits_or_u64_nat _ _ (by omega) (by omega), ob.2]
      have hq : Q + 2 ^ k = (q * 2 + 1) * 2 ^ k := by rw [g4, Nat.add_mul, Nat.one_mul, Nat.pow_succ', Nat.mul_assoc]
      clear hfit hst ob
      generalize d * 2 ^ k = X at ku kl f1 hr hy km
      generalize Q + 2 ^ k = Q2 at p1 p2 hq
      obtain ⟨Z, hZ⟩ : ∃ Z, 2 ^ k = Z := ⟨_, rfl⟩
      rw [hZ] at kv p1 p2 hq h1p
      (repeat' (first | refine zss ?_ | ((first | (with_reducible first | apply At.val | apply AtQ.val)); (first | exact pr_sub (by rfl) (by rfl) em | exact pr_or (by rfl) (by rfl) p1 | exact pr_or (by rfl) (by rfl) p2); exact rfl) | refine zs0 ?_ | ((with_reducible first | apply AtM1.callp | apply AtQ.callp | apply At.callp); kernel_rfl; exact rfl; exact rfl; exact ku) | ((with_reducible first | apply AtM1.callp | apply AtQ.callp | apply At.callp); kernel_rfl; exact rfl; exact rfl; exact kl) | ((with_reducible first | apply AtM1.callp | apply AtQ.callp | apply At.callp); kernel_rfl; exact rfl; exact rfl; exact km) | ((with_reducible first | apply AtM1.callp | apply AtQ.callp | apply At.callp); kernel_rfl; exact rfl; exact rfl; exact k1) | ((with_reducible first | apply AtM1.callp | apply AtQ.callp | apply At.callp); kernel_rfl; exact rfl; exact rfl; exact kv) | ((with_reducible apply At.box (d := 2)); exact rfl; exact rfl; exact rfl; intro b2) | ((with_reducible apply At.box (d := 3)); exact rfl; exact rfl; exact rfl; intro b3) | ((with_reducible apply At.alloc (d := 4)); exact rfl; exact rfl; intro b4) | ((with_reducible apply At.alloc (d := 5)); exact rfl; exact rfl; intro b5) | ((with_reducible apply At.alloc (d := 7)); exact rfl; exact rfl; intro b7) | ((with_reducible apply At.alloc (d := 8)); exact rfl; exact rfl; intro b8) | (refine zsp ?_ ?_ <;> (intro hc; (try simp only [zhcs, reduceCtorEq] at hc); (try (exfalso; first | omega | contradiction | omega | exact absurd rfl hc | exact absurd (by decide) hc))))))
      all_goals ((with_reducible refine At.reachk ((⟨(k : Int) - 1, Q2, q * 2 + 1, r - X⟩ : WS)) ?_ ?_ ?_ ?_); exact zsubs; exact zml; exact zente; exact ⟨⟨by dsimp only; omega, by dsimp only; omega, by dsimp only; omega, by dsimp only; rw [show ((k : Int) - 1 + 1).toNat = k by omega, hZ]; exact hq, by dsimp only; rw [show ((k : Int) - 1 + 1).toNat = k by omega]; exact hy⟩, by dsimp only; omega⟩)
  · rw [show (t + 1).toNat = 0 by omega] at g4 g5
    rw [Nat.pow_zero, Nat.mul_one, wi_end g5] at g4
    subst g4
    (repeat' (first | refine zss ?_ | refine zs0 ?_ | ((with_reducible apply At.box (d := 2)); exact rfl; exact rfl; exact rfl; intro b2) | ((with_reducible apply At.box (d := 3)); exact rfl; exact rfl; exact rfl; intro b3) | ((with_reducible apply At.alloc (d := 4)); exact rfl; exact rfl; intro b4) | ((with_reducible apply At.alloc (d := 5)); exact rfl; exact rfl; intro b5) | ((with_reducible apply At.alloc (d := 7)); exact rfl; exact rfl; intro b7) | ((with_reducible apply At.alloc (d := 8)); exact rfl; exact rfl; intro b8) | (refine zsp ?_ ?_ <;> (intro hc; (try simp only [zhcs, reduceCtorEq] at hc); (try (exfalso; first | omega | contradiction | omega | exact absurd rfl hc | exact absurd (by decide) hc))))))
    all_goals ((with_reducible apply At.retV (B := [])); exact rfl; (repeat' (first | exact RVs.nil | (with_reducible apply RVs.cons) | exact rv_tmp (by rfl) | exact rv_cellN (by rfl) (by repeat constructor) (by rfl) (by rfl) (by rfl) | exact rv_cell1 (by rfl) (by repeat constructor) (by rfl) (by rfl))); exact zml; exact zkp; exact ⟨rfl, rfl, rfl⟩)
end Ra
end Go.Proofs.YtpdleggpmhlagaaDoor
/- Ratios: Floor, Reduce. -/
set_option linter.unusedSimpArgs false
set_option linter.unusedVariables false
set_option linter.unusedSectionVars false
set_option maxRecDepth 20000
set_option maxHeartbeats 4000000
namespace Go.Proofs.YtpdleggpmhlagaaDoor
open Go Go.J
attribute [local irreducible] At AtQ AtM AtM1 PR Ct Pu Rd Res.blk Res.own Res.ex RVs RV
namespace Ra
open Wide
def flo (n d : Nat) : Nat × Int := if d = 0 then (0, 2) else (n / d, 0)
theorem floor (n d : Nat) (hn : n < 340282366920938463463374607431768211456) (hd : d < 340282366920938463463374607431768211456) : Pu Tryd.prog 11 #[rv n d] (.tuple #[wv (flo n d).1, .int .i64 (flo n d).2]) := Pu.intro fun m => by
  have k1 := none_ d
  unfold flo
  by_cases h : d = 0
  · rw [decide_eq_true h] at k1
    rw [if_pos h]
    refine Ct.enterV (by rfl) Tryd.func11 rfl Tryd.ntmps11 rfl (fun w0 Rest => ?_)
    (repeat' (first | refine zss ?_ | refine zs0 ?_ | ((with_reducible first | apply AtM1.callp | apply AtQ.callp | apply At.callp); kernel_rfl; exact rfl; exact rfl; exact k1) | ((with_reducible apply At.box (d := 1)); exact rfl; exact rfl; exact rfl; intro b1) | ((with_reducible apply At.alloc (d := 2)); exact rfl; exact rfl; intro b2) | (refine zsp ?_ ?_ <;> (intro hc; (try simp only [zhcs, reduceCtorEq] at hc); (try (exfalso; first | contradiction | omega | exact absurd rfl hc | exact absurd (by decide) hc))))))
    all_goals ((with_reducible apply At.retV (B := [])); exact rfl; (repeat' (first | exact RVs.nil | (with_reducible apply RVs.cons) | exact rv_tmp (by rfl) | exact rv_cellN (by rfl) (by repeat constructor) (by rfl) (by rfl) (by rfl) | exact rv_cell1 (by rfl) (by repeat constructor) (by rfl) (by rfl))); exact zml; exact zkp; exact ⟨rfl, rfl, rfl⟩)
  · rw [decide_eq_false h] at k1
    rw [if_neg h]
    have k2 := whole n d hn hd h
    refine Ct.enterV (by rfl) Tryd.func11 rfl Tryd.ntmps11 rfl (fun w0 Rest => ?_)
    (repeat' (first | refine zss ?_ | refine zs0 ?_ | ((with_reducible first | apply AtM1.callp | apply AtQ.callp | apply At.callp); kernel_rfl; exact rfl; exact rfl; exact k1) | ((with_reducible first | apply AtM1.callp | apply AtQ.callp | apply At.callp); kernel_rfl; exact rfl; exact rfl; exact k2) | ((with_reducible apply At.box (d := 1)); exact rfl; exact rfl; exact rfl; intro b1) | ((with_reducible apply At.alloc (d := 2)); exact rfl; exact rfl; intro b2) | (refine zsp ?_ ?_ <;> (intro hc; (try simp only [zhcs, reduceCtorEq] at hc); (try (exfalso; first | contradiction | omega | exact absurd rfl hc | exact absurd (by decide) hc))))))
    all_goals ((with_reducible apply At.retV (B := [])); exact rfl; (repeat' (first | exact RVs.nil | (with_reducible apply RVs.cons) | exact rv_tmp (by rfl) | exact rv_cellN (by rfl) (by repeat constructor) (by rfl) (by rfl) (by rfl) | exact rv_cell1 (by rfl) (by repeat constructor) (by rfl) (by rfl))); exact zml; exact zkp; exact ⟨rfl, rfl, rfl⟩)
def red (n d : Nat) : (Nat × Nat) × Int := if d = 0 then ((0, 0), 1) else ((n / Nat.gcd n d, d / Nat.gcd n d), 0)
theorem reduce {m : Mem} (ht : TZ m) (n d : Nat) (hn : n < 340282366920938463463374607431768211456) (hd : d < 340282366920938463463374607431768211456) : Rd Tryd.prog 7 #[wv n, wv d] m [] (.tuple #[rv (red n d).1.1 (red n d).1.2, .int .i64 (red n d).2]) := by
  unfold Rd
  have k1 := none_ d
  unfold red
  by_cases h : d = 0
  · rw [decide_eq_true h] at k1
    rw [if_pos h]
    refine Ct.enterV (by rfl) Tryd.func7 rfl Tryd.ntmps7 rfl (fun w0 Rest => ?_)
    (repeat' (first | refine zss ?_ | refine zs0 ?_ | ((with_reducible first | apply AtM1.callp | apply AtQ.callp | apply At.callp); kernel_rfl; exact rfl; exact rfl; exact k1) | ((with_reducible apply At.box (d := 2)); exact rfl; exact rfl; exact rfl; intro b2) | ((with_reducible apply At.box (d := 3)); exact rfl; exact rfl; exact rfl; intro b3) | ((with_reducible apply At.alloc (d := 4)); exact rfl; exact rfl; intro b4) | ((with_reducible apply At.alloc (d := 6)); exact rfl; exact rfl; intro b6) | (refine zsp ?_ ?_ <;> (intro hc; (try simp only [zhcs, reduceCtorEq] at hc); (try (exfalso; first | contradiction | omega | exact absurd rfl hc | exact absurd (by decide) hc))))))
    all_goals ((with_reducible apply At.retV (B := [])); exact rfl; (repeat' (first | exact RVs.nil | (with_reducible apply RVs.cons) | exact rv_tmp (by rfl) | exact rv_cellN (by rfl) (by repeat constructor) (by rfl) (by rfl) (by rfl) | exact rv_cell1 (by rfl) (by repeat constructor) (by rfl) (by rfl))); exact zml; exact zkp; exact ⟨rfl, rfl, rfl⟩)
  · rw [decide_eq_false h] at k1
    rw [if_neg h]
    have k2 := fun (m' : Mem) (hm' : m.le m') => gcd (m := m') (ht.mono hm') n d hn hd
    have hg0 : Nat.gcd n d ≠ 0 := fun e => h (Nat.eq_zero_of_gcd_eq_zero_right e)
    have hg : Nat.gcd n d < 340282366920938463463374607431768211456 := Nat.lt_of_le_of_lt (Nat.gcd_le_right n (Nat.pos_of_ne_zero h) : Nat.gcd n d ≤ d) hd
    generalize Nat.gcd n d = g at k2 hg0 hg ⊢
    have k3 := whole n g hn hg hg0
    have k4 := whole d g hd hg hg0
    refine Ct.enterV (by rfl) Tryd.func7 rfl Tryd.ntmps7 rfl (fun w0 Rest => ?_)
    (repeat' (first | ((with_reducible apply At.mixed (id := 4) 9 (.q 0 (.q 1 (.q 2 (.q 3 (.q 4 (.q 5 (.q 6 (.x 7 (.q 8 .done)))))))))); exact rfl; kernel_rfl; kernel_rfl; kernel_rfl) | refine zsx ?_ | refine zss ?_ | ((with_reducible apply AtM.bo); exact rfl; exact rfl; exact rfl) | refine zs0 ?_ | refine zx0 ?_ | ((with_reducible first | apply AtM1.callp | apply AtQ.callp | apply At.callp); kernel_rfl; exact rfl; exact rfl; exact k1) | ((with_reducible first | apply AtM1.cr | apply AtQ.cr | apply At.cr); exact rfl; exact rfl; exact fun _ hmm => k2 _ hmm; exact ztk; kernel_rfl) | ((with_reducible first | apply AtM1.callp | apply AtQ.callp | apply At.callp); kernel_rfl; exact rfl; exact rfl; exact k3) | ((with_reducible first | apply AtM1.callp | apply AtQ.callp | apply At.callp); kernel_rfl; exact rfl; exact rfl; exact k4) | ((with_reducible apply At.box (d := 2)); exact rfl; exact rfl; exact rfl; intro b2) | ((with_reducible apply At.box (d := 3)); exact rfl; exact rfl; exact rfl; intro b3) | ((with_reducible apply At.alloc (d := 4)); exact rfl; exact rfl; intro b4) | ((with_reducible apply At.alloc (d := 6)); exact rfl; exact rfl; intro b6) | (refine zsp ?_ ?_ <;> (intro hc; (try simp only [zhcs, reduceCtorEq] at hc); (try (exfalso; first | contradiction | omega | exact absurd rfl hc | exact absurd (by decide) hc))))))
    all_goals ((with_reducible apply At.retV (B := [])); exact rfl; (repeat' (first | exact RVs.nil | (with_reducible apply RVs.cons) | exact rv_tmp (by rfl) | exact rv_cellN (by rfl) (by repeat constructor) (by rfl) (by rfl) (by rfl) | exact rv_cell1 (by rfl) (by repeat constructor) (by rfl) (by rfl))); exact zml; exact zkp; exact ⟨rfl, rfl, rfl⟩)
end Ra
end Go.Proofs.YtpdleggpmhlagaaDoor
/- Ratios: Rate. -/
set_option linter.unusedSimpArgs false
set_option linter.unusedVariables false
set_option linter.unusedSectionVars false
set_option maxRecDepth 20000
set_option maxHeartbeats 4000000
namespace Go.Proofs.YtpdleggpmhlagaaDoor
open Go Go.J
attribute [local irreducible] At AtQ AtM AtM1 PR Ct Pu Rd Res.blk Res.own Res.ex RVs RV
namespace Ra
open Wide
def rat (x k : Nat) : (Nat × Nat) × Int := if k = 0 then ((0, 0), 12) else if sE (x * 1000) ≠ 0 then ((0, 0), sE (x * 1000)) else red (x * 1000) k
theorem sE_cases (x : Nat) : sE x = 0 ∨ sE x = 1 := by
  unfold sE
  by_cases h : x < 340282366920938463463374607431768211456
  · rw [if_pos h]; exact .inl rfl
  · rw [if_neg h]; exact .inr rfl
theorem rate {m : Mem} (ht : TZ m) (x k : Nat) (hx : x < 340282366920938463463374607431768211456) (hk : k < 18446744073709551616) : Rd Tryd.prog 9 #[wv x, .int .u64 (k : Int)] m [] (.tuple #[rv (rat x k).1.1 (rat x k).1.2, .int .i64 (rat x k).2]) := by
  unfold Rd
  unfold rat
  by_cases h : k = 0
  · rw [if_pos h]
    subst h
    refine Ct.enterV (by rfl) Tryd.func9 rfl Tryd.ntmps9 rfl (fun w0 Rest => ?_)
    (repeat' (first | refine zss ?_ | refine zs0 ?_ | ((with_reducible apply At.box (d := 2)); exact rfl; exact rfl; exact rfl; intro b2) | ((with_reducible apply At.alloc (d := 4)); exact rfl; exact rfl; intro b4) | ((with_reducible apply At.alloc (d := 6)); exact rfl; exact rfl; intro b6) | (refine zsp ?_ ?_ <;> (intro hc; (try simp only [zhcs, reduceCtorEq] at hc); (try (exfalso; first | omega | contradiction | omega | exact absurd rfl hc | exact absurd (by decide) hc))))))
    all_goals ((with_reducible apply At.retV (B := [])); exact rfl; (repeat' (first | exact RVs.nil | (with_reducible apply RVs.cons) | exact rv_tmp (by rfl) | exact rv_cellN (by rfl) (by repeat constructor) (by rfl) (by rfl) (by rfl) | exact rv_cell1 (by rfl) (by repeat constructor) (by rfl) (by rfl))); exact zml; exact zkp; exact ⟨rfl, rfl, rfl⟩)
  rw [if_neg h]
  have n1 : ¬ (k : Int) = 0 := by omega
  have k1 : Pu Tryd.prog 22 #[wv x, .int .u64 1000] (.tuple #[wv (sV (x * 1000)), .int .i64 (sE (x * 1000))]) := times x 1000 hx (by decide)
  rcases sE_cases (x * 1000) with e | e
  · rw [if_neg (not_not_intro e)]
    have h1 := sE_zero e
    have hb := sV_lt (x * 1000)
    rw [e, h1] at k1
    rw [h1] at hb
    generalize x * 1000 = y at k1 hb ⊢
    have k2 := of_ k hk
    have k3 := fun (m' : Mem) (hm' : m.le m') => reduce (m := m') (ht.mono hm') y k hb (Nat.lt_trans hk (by decide))
    generalize red y k = w at k3 ⊢
    refine Ct.enterV (by rfl) Tryd.func9 rfl Tryd.ntmps9 rfl (fun w0 Rest => ?_)
    (repeat' (first | ((with_reducible apply At.mixed (id := 6) 8 (.q 0 (.q 1 (.q 2 (.q 3 (.q 4 (.q 5 (.x 6 (.q 7 .done))))))))); exact rfl; kernel_rfl; kernel_rfl; kernel_rfl) | refine zsx ?_ | refine zss ?_ | ((with_reducible apply AtM.bo); exact rfl; exact rfl; exact rfl) | refine zs0 ?_ | refine zx0 ?_ | ((with_reducible first | apply AtM1.callp | apply AtQ.callp | apply At.callp); kernel_rfl; exact rfl; exact rfl; exact k1) | ((with_reducible first | apply AtM1.callp | apply AtQ.callp | apply At.callp); kernel_rfl; exact rfl; exact rfl; exact k2) | ((with_reducible first | apply AtM1.cr | apply AtQ.cr | apply At.cr); exact rfl; exact rfl; exact fun _ hmm => k3 _ hmm; exact ztk; kernel_rfl) | ((with_reducible apply At.box (d := 2)); exact rfl; exact rfl; exact rfl; intro b2) | ((with_reducible apply At.alloc (d := 4)); exact rfl; exact rfl; intro b4) | ((with_reducible apply At.alloc (d := 6)); exact rfl; exact rfl; intro b6) | (refine zsp ?_ ?_ <;> (intro hc; (try simp only [zhcs, reduceCtorEq] at hc); (try (exfalso; first | (first | omega | exact absurd hc n1) | contradiction | omega | exact absurd rfl hc | exact absurd (by decide) hc))))))
    all_goals ((with_reducible apply At.retV (B := [])); exact rfl; (repeat' (first | exact RVs.nil | (with_reducible apply RVs.cons) | exact rv_tmp (by rfl) | exact rv_cellN (by rfl) (by repeat constructor) (by rfl) (by rfl) (by rfl) | exact rv_cell1 (by rfl) (by repeat constructor) (by rfl) (by rfl))); exact zml; exact zkp; exact ⟨rfl, rfl, rfl⟩)
  · rw [e] at k1
    rw [if_pos (by rw [e]; decide), e]
    generalize sV (x * 1000) = y at k1
    refine Ct.enterV (by rfl) Tryd.func9 rfl Tryd.ntmps9 rfl (fun w0 Rest => ?_)
    (repeat' (first | refine zss ?_ | refine zs0 ?_ | ((with_reducible first | apply AtM1.callp | apply AtQ.callp | apply At.callp); kernel_rfl; exact rfl; exact rfl; exact k1) | ((with_reducible apply At.box (d := 2)); exact rfl; exact rfl; exact rfl; intro b2) | ((with_reducible apply At.alloc (d := 4)); exact rfl; exact rfl; intro b4) | ((with_reducible apply At.alloc (d := 6)); exact rfl; exact rfl; intro b6) | (refine zsp ?_ ?_ <;> (intro hc; (try simp only [zhcs, reduceCtorEq] at hc); (try (exfalso; first | (first | omega | exact absurd hc n1) | contradiction | omega | exact absurd rfl hc | exact absurd (by decide) hc))))))
    all_goals ((with_reducible apply At.retV (B := [])); exact rfl; (repeat' (first | exact RVs.nil | (with_reducible apply RVs.cons) | exact rv_tmp (by rfl) | exact rv_cellN (by rfl) (by repeat constructor) (by rfl) (by rfl) (by rfl) | exact rv_cell1 (by rfl) (by repeat constructor) (by rfl) (by rfl))); exact zml; exact zkp; exact ⟨rfl, rfl, rfl⟩)
end Ra
end Go.Proofs.YtpdleggpmhlagaaDoor
/- The document's numbers, as sixteen bytes. -/
set_option linter.unusedSimpArgs false
set_option linter.unusedVariables false
set_option linter.unusedSectionVars false
set_option maxRecDepth 20000
set_option maxHeartbeats 4000000
namespace Go.Proofs.YtpdleggpmhlagaaDoor
open Go Go.J
attribute [local irreducible] At AtQ AtM AtM1 PR Ct Pu Rd Res.blk Res.own Res.ex RVs RV
namespace Wide
def tab (f : Nat → Nat) : List Int := (List.range 16).map (fun i => ((f i : Nat) : Int))
def dg (S i : Nat) : Nat := S / 256 ^ i % 256
abbrev gi : Int → Value := fun x => .int .i64 x
abbrev av (f : Nat → Nat) : Value := .agg ((tab f).map gi).toArray
theorem tab_len (f : Nat → Nat) : (tab f).length = 16 := by simp [tab]
theorem tabm_len (f : Nat → Nat) : ((tab f).map gi).length = 16 := by simp [tab]
theorem all_gi (l : List Int) : (l.map gi).all oneCell = true := by
  rw [List.all_eq_true]; intro x hx; obtain ⟨y, -, rfl⟩ := List.mem_map.1 hx; rfl
theorem tab_get (f : Nat → Nat) {i : Nat} (h : i < 16) : (tab f)[i]! = (f i : Int) := by
  rw [getElem!_pos _ i (by rw [tab_len]; exact h)]; simp [tab]
theorem tab_congr {f g : Nat → Nat} (h : ∀ j, j < 16 → f j = g j) : tab f = tab g := by
  unfold tab
  apply List.map_congr_left
  intro j hj
  rw [h j (List.mem_range.1 hj)]
theorem tab_set (f : Nat → Nat) {k : Nat} (v : Nat) (h : k < 16) : (tab f).set k (v : Int) = tab (fun j => if j = k then v else f j) := by
  apply List.ext_getElem (by simp [tab])
  intro j h1 h2
  rw [List.getElem_set]
  simp only [tab, List.getElem_map, List.getElem_range]
  by_cases e : k = j
  · subst e; simp
  · rw [if_neg e, if_neg (Ne.symm e)]
theorem pr_load_tab {n : Nat} {w0 : World} {F : Fr} {m : Mem} {Rs : List Res} {f : Nat → Nat} {x : Operand} {t : TypeId} {b k : Nat} {E : TypeId} {Rs' : List Res} (hx : ev F x = some (.pointer (some ⟨b, k, none⟩))) (hp : Pick Rs (.blk b E ((tab f).map gi)) Rs') (ht : isAggB Tryd.prog t = some false) (hk : k < 16) :
    PR Tryd.prog n F (HW w0 m Rs) (.load t x) (.int .i64 ((f k : Nat) : Int)) := by
  have := pr_load_arr (n := n) (w0 := w0) (m := m) (P := Tryd.prog) (g := gi) hx hp ht (by rw [tab_len]; exact hk)
  rwa [tab_get f hk] at this
theorem dg_lt (S i : Nat) : dg S i < 256 := Nat.mod_lt _ (by decide)
theorem pow256 (i : Nat) : (2 : Int) ^ (8 * (i : Int)).toNat = ((256 ^ i : Nat) : Int) := by
  rw [show (8 * (i : Int)).toNat = 8 * i by omega, show (256 : Nat) ^ i = 2 ^ (8 * i) by rw [Nat.pow_mul], Int.natCast_pow]; rfl
theorem lo_div (x : Nat) {i : Nat} (hi : i < 8) : x % 18446744073709551616 / 256 ^ i % 256 = dg x i := by
  have e : (18446744073709551616 : Nat) = 256 ^ i * 256 ^ (8 - i) := by rw [← Nat.pow_add, show i + (8 - i) = 8 by omega]
  rw [e, Nat.mod_mul_right_div_self]
  have hd : (256 : Nat) ∣ 256 ^ (8 - i) := by
    rw [show 8 - i = (7 - i) + 1 by omega, Nat.pow_succ]; exact Nat.dvd_mul_left _ _
  rw [Nat.mod_mod_of_dvd _ hd]; rfl
theorem hi_div (x i : Nat) : x / 18446744073709551616 / 256 ^ i % 256 = dg x (8 + i) := by
  unfold dg
  rw [Nat.div_div_eq_div_mul, show (18446744073709551616 : Nat) = 256 ^ 8 from rfl, ← Nat.pow_add]
theorem and255 (y : Nat) (h : y < 18446744073709551616) : bits .and .u64 (y : Int) 255 = ((y % 256 : Nat) : Int) := by
  rw [u64_and _ _ (by omega) (by omega) (by decide) (by decide), Int.toNat_natCast, show ((255 : Int)).toNat = 255 from rfl, nat_mask8]
theorem lo_dig (x : Nat) {i : Nat} (hi : i < 8) : bits .and .u64 (((x % 18446744073709551616 : Nat) : Int) / 2 ^ (8 * (i : Int)).toNat) 255 = ((dg x i : Nat) : Int) := by
  rw [pow256, ← Int.natCast_ediv, and255 _ (Nat.lt_of_le_of_lt (Nat.div_le_self _ _) (Nat.mod_lt _ (by decide))), lo_div x hi]
theorem hi_dig (x i : Nat) (hx : x < 340282366920938463463374607431768211456) : bits .and .u64 (((x / 18446744073709551616 : Nat) : Int) / 2 ^ (8 * (i : Int)).toNat) 255 = ((dg x (8 + i) : Nat) : Int) := by
  rw [pow256, ← Int.natCast_ediv, and255 _ (Nat.lt_of_le_of_lt (Nat.div_le_self _ _) (by omega)), hi_div x i]

theorem bytes (x : Nat) (hx : x < 340282366920938463463374607431768211456) : Pu Tryd.prog 42 #[wv x] (av (dg x)) := Pu.intro fun m => by
  refine Ct.enterV (by rfl) Tryd.func42 rfl Tryd.ntmps42 rfl (fun w0 Rest => ?_)
  (repeat' (first | refine zss ?_ | ((first | (with_reducible first | apply At.val | apply AtQ.val)); (exact zprA); exact rfl) | refine zs0 ?_ | ((with_reducible apply At.box (d := 1)); exact rfl; exact rfl; exact rfl; intro b1) | ((with_reducible apply At.alloc (d := 2)); exact rfl; exact rfl; intro b2) | ((with_reducible apply At.alloc (d := 3)); exact rfl; exact rfl; intro b3) | (refine zsp ?_ ?_ <;> (intro hc; (try simp only [zhcs, reduceCtorEq] at hc); (try (exfalso; first | contradiction | omega | exact absurd rfl hc | exact absurd (by decide) hc))))))
  (refine At.loopk (σ := Nat) [1, 2, 3] (fun s F0 => (4, .int .i64 (s : Int)) :: F0) (fun s => m) (fun s => .blk b3 58 ((tab (fun j => if j < s ∨ (8 ≤ j ∧ j < 8 + s) then dg x j else 0)).map gi) :: .blk b2 58 ((tab (fun _ => 0)).map gi) :: .blk b1 24 (wd x) :: Rest) (fun s => s ≤ 8) (fun s => 8 - s) 0 (by rfl) ?_ zsubs zml zente ?_)
  · exact Nat.zero_le _
  intro s hs
  by_cases h : s < 8
  · have h1 := dg_lt x s
    have h2 := dg_lt x (8 + s)
    have hl := tab_len (fun j => if j < s ∨ (8 ≤ j ∧ j < 8 + s) then dg x j else 0)
    (repeat' (first | refine zss ?_ | ((first | (with_reducible first | apply At.val | apply AtQ.val)); (first | exact pr_and (by rfl) (by rfl) (lo_dig x h) | exact pr_and (by rfl) (by rfl) (hi_dig x s hx) | exact zprA); exact rfl) | refine zs0 ?_ | ((with_reducible apply At.storeArr (g := gi) (((dg x s : Nat) : Int))); exact rfl; exact rfl; exact rfl; exact rfl; exact rfl; exact rfl; exact (by repeat constructor); (first | omega | (simp only [lns] <;> omega))) | ((with_reducible apply At.storeArr (g := gi) (((dg x (8 + s) : Nat) : Int))); exact rfl; exact rfl; exact rfl; exact rfl; exact rfl; exact rfl; exact (by repeat constructor); (first | omega | (simp only [lns] <;> omega))) | ((with_reducible apply At.box (d := 1)); exact rfl; exact rfl; exact rfl; intro b1) | ((with_reducible apply At.alloc (d := 2)); exact rfl; exact rfl; intro b2) | ((with_reducible apply At.alloc (d := 3)); exact rfl; exact rfl; intro b3) | (refine zsp ?_ ?_ <;> (intro hc; (try simp only [zhcs, reduceCtorEq] at hc); (try (exfalso; first | omega | contradiction | omega | exact absurd rfl hc | exact absurd (by decide) hc))))))
    have e : ((tab (fun j => if j < s ∨ (8 ≤ j ∧ j < 8 + s) then dg x j else 0)).set s ((dg x s : Nat) : Int)).set (8 + s) ((dg x (8 + s) : Nat) : Int) = tab (fun j => if j < s + 1 ∨ (8 ≤ j ∧ j < 8 + (s + 1)) then dg x j else 0) := by
      rw [tab_set _ _ (by omega), tab_set _ _ (by omega)]
      apply tab_congr
      intro j hj
      by_cases e1 : j = 8 + s
      · subst e1; rw [if_pos rfl, if_pos (by omega)]
      · rw [if_neg e1]
        by_cases e2 : j = s
        · subst e2; rw [if_pos rfl, if_pos (by omega)]
        · rw [if_neg e2]
          by_cases e3 : j < s ∨ (8 ≤ j ∧ j < 8 + s)
          · rw [if_pos e3, if_pos (by omega)]
          · rw [if_neg e3, if_neg (by omega)]
    all_goals (rw [e])
    all_goals ((with_reducible refine At.reachk ((s + 1)) ?_ ?_ ?_ ?_); exact zsubs; exact zml; exact zente; exact ⟨by omega, by omega⟩)
  · have e : tab (fun j => if j < s ∨ (8 ≤ j ∧ j < 8 + s) then dg x j else 0) = tab (dg x) := tab_congr fun j hj => by rw [if_pos (by omega)]
    rw [e]
    have hl := tabm_len (dg x)
    have hl0 := tabm_len (fun _ => 0)
    (repeat' (first | refine zss ?_ | ((first | (with_reducible first | apply At.val | apply AtQ.val)); (exact zprA); exact rfl) | refine zs0 ?_ | ((with_reducible apply At.storeA); exact rfl; exact rfl; exact rfl; exact all_gi _; exact (by repeat constructor); (first | exact rfl | (first | omega | (simp only [lns] <;> omega))); (first | exact rfl | (first | omega | (simp only [lns] <;> omega)))) | ((with_reducible apply At.box (d := 1)); exact rfl; exact rfl; exact rfl; intro b1) | ((with_reducible apply At.alloc (d := 2)); exact rfl; exact rfl; intro b2) | ((with_reducible apply At.alloc (d := 3)); exact rfl; exact rfl; intro b3) | (refine zsp ?_ ?_ <;> (intro hc; (try simp only [zhcs, reduceCtorEq] at hc); (try (exfalso; first | omega | contradiction | omega | exact absurd rfl hc | exact absurd (by decide) hc))))))
    all_goals ((with_reducible apply At.retV (B := [])); exact rfl; (repeat' (first | exact RVs.nil | (with_reducible apply RVs.cons) | exact rv_tmp (by rfl) | exact rv_cellN (by rfl) (by repeat constructor) (by rfl) (by rfl) (by rfl) | exact rv_cell1 (by rfl) (by repeat constructor) (by rfl) (by rfl) | exact rv_cellA (by rfl) (by repeat constructor) (by rfl) (by rfl) zlq)); exact zml; exact zkp; exact ⟨rfl, rfl, rfl⟩)

/-! ### the number that sixteen bytes stand for -/
theorem dig_succ (S i : Nat) : S % 256 ^ (i + 1) = S % 256 ^ i + 256 ^ i * dg S i := Nat.mod_pow_succ
theorem or_dig {q d i : Nat} (hq : q < 256 ^ i) (hd : d < 256) (hi : i < 8) : bits .or .u64 (q : Int) (((d : Int) * 2 ^ (8 * (i : Int)).toNat) % 18446744073709551616) = ((q + 256 ^ i * d : Nat) : Int) := by
  have e : (18446744073709551616 : Nat) = 256 ^ i * 256 ^ (8 - i) := by rw [← Nat.pow_add, show i + (8 - i) = 8 by omega]
  have h1 : d * 256 ^ i < 18446744073709551616 := by
    rw [e, Nat.mul_comm]
    refine Nat.mul_lt_mul_of_pos_left (Nat.lt_of_lt_of_le hd ?_) (Nat.pow_pos (by decide))
    rw [show (256 : Nat) = 256 ^ 1 from rfl, ← Nat.pow_mul, Nat.one_mul]
    exact Nat.pow_le_pow_right (by decide) (by omega)
  have h2 : q < 18446744073709551616 := by
    refine Nat.lt_of_lt_of_le hq ?_
    rw [show (18446744073709551616 : Nat) = 256 ^ 8 from rfl]
    exact Nat.pow_le_pow_right (by decide) (by omega)
  rw [pow256, ← Int.natCast_mul, Int.emod_eq_of_lt (by omega) (by omega), u64_or _ _ (by omega) (by omega) (by omega) (by omega), Int.toNat_natCast, Int.toNat_natCast]
  congr 1
  rw [show (256 : Nat) ^ i = 2 ^ (8 * i) by rw [Nat.pow_mul]] at hq ⊢
  rw [Nat.or_comm, Nat.mul_comm, ← Nat.two_pow_add_eq_or_of_lt hq, Nat.add_comm]
theorem hi_dg (x i : Nat) : dg (x / 18446744073709551616) i = dg x (8 + i) := by
  unfold dg; exact hi_div x i
structure OS where
  (i : Nat) (h : Nat) (l : Nat)
theorem of_r (x : Nat) (hx : x < 340282366920938463463374607431768211456) : Pu Tryd.prog 46 #[av (dg x)] (wv x) := Pu.intro fun m => by
  refine Ct.enterV (by rfl) Tryd.func46 rfl Tryd.ntmps46 rfl (fun w0 Rest => ?_)
  have hl := tabm_len (dg x)
  have hl1 := tab_len (dg x)
  (repeat' (first | refine zss ?_ | ((first | (with_reducible first | apply At.val | apply AtQ.val)); (exact zprA); exact rfl) | refine zs0 ?_ | ((with_reducible apply At.boxA (d := 1)); exact rfl; exact rfl; intro b1) | ((with_reducible apply At.box (d := 1)); exact rfl; exact rfl; exact rfl; intro b1) | ((with_reducible apply At.alloc (d := 2)); exact rfl; exact rfl; intro b2) | ((with_reducible apply At.alloc (d := 3)); exact rfl; exact rfl; intro b3) | (refine zsp ?_ ?_ <;> (intro hc; (try simp only [zhcs, reduceCtorEq] at hc); (try (exfalso; first | contradiction | omega | exact absurd rfl hc | exact absurd (by decide) hc))))))
  (refine At.loopk (σ := OS) [1, 2, 3] (fun s F0 => (4, .int .i64 (s.i : Int)) :: F0) (fun s => m) (fun s => .blk b3 24 [.int .u64 (s.h : Int), .int .u64 (s.l : Int)] :: .blk b2 24 (wd 0) :: .blk b1 58 ((tab (dg x)).map gi) :: Rest) (fun s => s.i ≤ 8 ∧ s.h = x / 18446744073709551616 % 256 ^ s.i ∧ s.l = x % 256 ^ s.i) (fun s => 8 - s.i) ⟨0, 0, 0⟩ (by rfl) ?_ zsubs zml zente ?_)
  · exact ⟨Nat.zero_le _, by rw [Nat.pow_zero, Nat.mod_one], by rw [Nat.pow_zero, Nat.mod_one]⟩
  rintro ⟨s, p, q⟩ ⟨hs, hp, hq⟩
  dsimp only at hs hp hq ⊢
  by_cases h : s < 8
  · have h1 := dg_lt x s
    have h2 := dg_lt x (8 + s)
    have hp0 : p < 256 ^ s := hp ▸ Nat.mod_lt _ (Nat.pow_pos (by decide))
    have hq0 : q < 256 ^ s := hq ▸ Nat.mod_lt _ (Nat.pow_pos (by decide))
    (repeat' (first | ((with_reducible apply At.mixed (id := 5) 12 (.q 0 (.q 1 (.q 2 (.q 3 (.q 4 (.q 5 (.q 6 (.q 7 (.q 8 (.q 9 (.q 10 (.x 11 .done))))))))))))); exact rfl; kernel_rfl; kernel_rfl; kernel_rfl) | ((with_reducible apply At.mixed (id := 6) 13 (.q 0 (.q 1 (.q 2 (.q 3 (.q 4 (.q 5 (.q 6 (.q 7 (.q 8 (.q 9 (.q 10 (.q 11 (.x 12 .done)))))))))))))); exact rfl; kernel_rfl; kernel_rfl; kernel_rfl) | refine zsx ?_ | refine zss ?_ | ((with_reducible apply AtM.bo); exact rfl; exact rfl; exact rfl) | ((first | (with_reducible first | apply At.val | apply AtQ.val) | ((with_reducible first | apply AtM1.valz | apply AtM1.val); exact rfl) | ((with_reducible apply AtM1.val); exact rfl)); (first | exact pr_indexArr1 (k := 8 + s) (by rfl) (by rfl) (by rfl) (by rfl) (by omega) | exact pr_load_tab (k := s) (by rfl) (by first | exact pk0 | exact pk1 | exact pk2 | exact pk3) (by rfl) (by omega) | exact pr_load_tab (k := 8 + s) (by rfl) (by first | exact pk0 | exact pk1 | exact pk2 | exact pk3) (by rfl) (by omega) | exact pr_or (by rfl) (by rfl) (or_dig hq0 h1 h) | exact pr_or (by rfl) (by rfl) (or_dig hp0 h2 h) | exact zprA); exact rfl) | refine zs0 ?_ | refine zx0 ?_ | ((with_reducible apply At.box (d := 1)); exact rfl; exact rfl; exact rfl; intro b1) | ((with_reducible apply At.alloc (d := 2)); exact rfl; exact rfl; intro b2) | ((with_reducible apply At.alloc (d := 3)); exact rfl; exact rfl; intro b3) | (refine zsp ?_ ?_ <;> (intro hc; (try simp only [zhcs, reduceCtorEq] at hc); (try (exfalso; first | omega | contradiction | omega | exact absurd rfl hc | exact absurd (by decide) hc))))))
    all_goals ((with_reducible refine At.reachk (⟨s + 1, p + 256 ^ s * dg x (8 + s), q + 256 ^ s * dg x s⟩) ?_ ?_ ?_ ?_); exact zsubs; exact zml; exact zente; exact ⟨⟨Nat.succ_le_of_lt h, by show p + _ = _; rw [dig_succ, hp, hi_dg], by show q + _ = _; rw [dig_succ, hq]⟩, by show 8 - (s + 1) < 8 - s; omega⟩)
  · have e8 : s = 8 := by omega
    subst e8
    have e : (256 : Nat) ^ 8 = 18446744073709551616 := rfl
    rw [e] at hp hq
    rw [Nat.mod_eq_of_lt (by omega)] at hp
    subst hp hq
    (repeat' (first | refine zss ?_ | ((first | (with_reducible first | apply At.val | apply AtQ.val)); (exact zprA); exact rfl) | refine zs0 ?_ | ((with_reducible apply At.box (d := 1)); exact rfl; exact rfl; exact rfl; intro b1) | ((with_reducible apply At.alloc (d := 2)); exact rfl; exact rfl; intro b2) | ((with_reducible apply At.alloc (d := 3)); exact rfl; exact rfl; intro b3) | (refine zsp ?_ ?_ <;> (intro hc; (try simp only [zhcs, reduceCtorEq] at hc); (try (exfalso; first | omega | contradiction | omega | exact absurd rfl hc | exact absurd (by decide) hc))))))
    all_goals ((with_reducible apply At.retV (B := [])); exact rfl; (repeat' (first | exact RVs.nil | (with_reducible apply RVs.cons) | exact rv_tmp (by rfl) | exact rv_cellN (by rfl) (by repeat constructor) (by rfl) (by rfl) (by rfl) | exact rv_cell1 (by rfl) (by repeat constructor) (by rfl) (by rfl) | exact rv_cellA (by rfl) (by repeat constructor) (by rfl) (by rfl) zlq)); exact zml; exact zkp; exact ⟨rfl, rfl, rfl⟩)

/-! ### the sum, digit by digit -/
theorem pr_load_tabv {n : Nat} {w0 : World} {F : Fr} {m : Mem} {Rs : List Res} {f : Nat → Nat} {x : Operand} {t : TypeId} {b k v : Nat} {E : TypeId} {Rs' : List Res} (hx : ev F x = some (.pointer (some ⟨b, k, none⟩))) (hp : Pick Rs (.blk b E ((tab f).map gi)) Rs') (ht : isAggB Tryd.prog t = some false) (hk : k < 16) (hv : f k = v) :
    PR Tryd.prog n F (HW w0 m Rs) (.load t x) (.int .i64 ((v : Nat) : Int)) := hv ▸ pr_load_tab hx hp ht hk
def cy (x y i : Nat) : Nat := (x % 256 ^ i + y % 256 ^ i) / 256 ^ i
theorem cy_lt (x y i : Nat) : cy x y i < 2 := by
  have h : 0 < 256 ^ i := Nat.pow_pos (by decide)
  unfold cy
  rw [Nat.div_lt_iff_lt_mul h]
  have h1 := Nat.mod_lt x h
  have h2 := Nat.mod_lt y h
  omega
theorem cy_succ (x y i : Nat) : (dg x i + dg y i + cy x y i) / 256 = cy x y (i + 1) := by
  have h : 0 < 256 ^ i := Nat.pow_pos (by decide)
  unfold cy
  rw [dig_succ, dig_succ, Nat.pow_succ, ← Nat.div_div_eq_div_mul]
  congr 1
  rw [show x % 256 ^ i + 256 ^ i * dg x i + (y % 256 ^ i + 256 ^ i * dg y i) = (x % 256 ^ i + y % 256 ^ i) + 256 ^ i * (dg x i + dg y i) by rw [Nat.mul_add]; omega, Nat.add_mul_div_left _ _ h]
  omega
theorem cy_dig (x y i : Nat) : (dg x i + dg y i + cy x y i) % 256 = dg (x + y) i := by
  have h : 0 < 256 ^ i := Nat.pow_pos (by decide)
  unfold dg cy
  have e : (x + y) / 256 ^ i = x / 256 ^ i + y / 256 ^ i + (x % 256 ^ i + y % 256 ^ i) / 256 ^ i := by
    conv => lhs; rw [← Nat.mod_add_div x (256 ^ i), ← Nat.mod_add_div y (256 ^ i)]
    rw [show x % 256 ^ i + 256 ^ i * (x / 256 ^ i) + (y % 256 ^ i + 256 ^ i * (y / 256 ^ i)) = (x % 256 ^ i + y % 256 ^ i) + 256 ^ i * (x / 256 ^ i + y / 256 ^ i) by rw [Nat.mul_add]; omega, Nat.add_mul_div_left _ _ h]
    omega
  rw [e]; omega
theorem cy_end (x y : Nat) (hx : x < 340282366920938463463374607431768211456) (hy : y < 340282366920938463463374607431768211456) : cy x y 16 = (x + y) / 340282366920938463463374607431768211456 := by
  unfold cy
  rw [show (256 : Nat) ^ 16 = 340282366920938463463374607431768211456 from rfl, Nat.mod_eq_of_lt hx, Nat.mod_eq_of_lt hy]
structure AS where
  (i : Nat) (c : Nat)
theorem add_r (x y : Nat) (hx : x < 340282366920938463463374607431768211456) (hy : y < 340282366920938463463374607431768211456) : Pu Tryd.prog 43 #[wv x, wv y] (.tuple #[wv (sV (x + y)), .int .i64 (sE (x + y))]) := Pu.intro fun m => by
  have hlx := tab_len (dg x)
  have hly := tab_len (dg y)
  have hmx := tabm_len (dg x)
  have hmy := tabm_len (dg y)
  refine Ct.enterV (by rfl) Tryd.func43 rfl Tryd.ntmps43 rfl (fun w0 Rest => ?_)
  (repeat' (first | ((with_reducible apply At.mixed (id := 1) 8 (.q 0 (.q 1 (.q 2 (.q 3 (.b 4 5 (.l 5 (.x 6 (.x 7 .done))) (.l 4 (.x 6 (.x 7 .done))))))))); exact rfl; kernel_rfl; kernel_rfl; kernel_rfl) | refine zsx ?_ | refine zss ?_ | ((with_reducible apply AtM.bo); exact rfl; exact rfl; exact rfl) | ((first | (with_reducible first | apply At.val | apply AtQ.val) | ((with_reducible first | apply AtM1.valz | apply AtM1.val); exact rfl) | ((with_reducible apply AtM1.val); exact rfl)); (exact zprA); exact rfl) | refine zs0 ?_ | refine zx0 ?_ | ((with_reducible first | apply AtM1.callp | apply AtQ.callp | apply At.callp); kernel_rfl; exact rfl; exact rfl; exact bytes x hx) | ((with_reducible first | apply AtM1.callp | apply AtQ.callp | apply At.callp); kernel_rfl; exact rfl; exact rfl; exact bytes y hy) | ((with_reducible apply At.storeA); exact rfl; exact rfl; exact rfl; exact all_gi _; exact (by repeat constructor); (first | exact rfl | (first | omega | (simp only [lns] <;> omega))); (first | exact rfl | (first | omega | (simp only [lns] <;> omega)))) | ((with_reducible apply At.box (d := 2)); exact rfl; exact rfl; exact rfl; intro b2) | ((with_reducible apply At.box (d := 3)); exact rfl; exact rfl; exact rfl; intro b3) | ((with_reducible apply At.alloc (d := 4)); exact rfl; exact rfl; intro b4) | ((with_reducible apply At.alloc (d := 6)); exact rfl; exact rfl; intro b6) | ((with_reducible apply At.alloc (d := 7)); exact rfl; exact rfl; intro b7) | (refine zsp ?_ ?_ <;> (intro hc; (try simp only [zhcs, reduceCtorEq] at hc); (try (exfalso; first | contradiction | omega | exact absurd rfl hc | exact absurd (by decide) hc))))))
  all_goals (refine At.loopk (σ := AS) [4, 6, 7] (fun s F0 => (15, .int .i64 (s.i : Int)) :: (8, .int .i64 (s.c : Int)) :: F0) (fun s => m) (fun s => .blk b7 58 ((tab (dg y)).map gi) :: .blk b6 58 ((tab (fun j => if j < s.i then dg (x + y) j else dg x j)).map gi) :: .blk b4 24 (wd 0) :: Rest) (fun s => s.i ≤ 16 ∧ s.c = cy x y s.i) (fun s => 16 - s.i) ⟨0, 0⟩ (by rfl) ?_ zsubs zml zente ?_)
  all_goals try exact ⟨Nat.zero_le _, by simp [cy, Nat.mod_one]⟩
  all_goals
    rintro ⟨s, c⟩ ⟨hs, hc0⟩
    dsimp only at hs hc0 ⊢
    have hc2 := cy_lt x y s
    rw [← hc0] at hc2
    by_cases h : s < 16
    · have h1 := dg_lt x s
      have h2 := dg_lt y s
      have hl := tab_len (fun j => if j < s then dg (x + y) j else dg x j)
      (repeat' (first | refine zss ?_ | ((first | (with_reducible first | apply At.val | apply AtQ.val)); (first | exact pr_load_tabv (k := s) (v := dg x s) (by rfl) (by first | exact pk0 | exact pk1 | exact pk2 | exact pk3) (by rfl) (by omega) (if_neg (Nat.lt_irrefl s)) | exact pr_load_tab (k := s) (by rfl) (by first | exact pk0 | exact pk1 | exact pk2 | exact pk3) (by rfl) (by omega) | exact zprA); exact rfl) | refine zs0 ?_ | ((with_reducible apply At.storeArr (g := gi) (((((dg x s : Nat) : Int) + ((dg y s : Nat) : Int) + (c : Int)) % 256))); exact rfl; exact rfl; exact rfl; exact rfl; exact rfl; exact rfl; exact (by repeat constructor); (first | omega | (simp only [lns] <;> omega))) | ((with_reducible apply At.box (d := 2)); exact rfl; exact rfl; exact rfl; intro b2) | ((with_reducible apply At.box (d := 3)); exact rfl; exact rfl; exact rfl; intro b3) | ((with_reducible apply At.alloc (d := 4)); exact rfl; exact rfl; intro b4) | ((with_reducible apply At.alloc (d := 6)); exact rfl; exact rfl; intro b6) | ((with_reducible apply At.alloc (d := 7)); exact rfl; exact rfl; intro b7) | (refine zsp ?_ ?_ <;> (intro hc; (try simp only [zhcs, reduceCtorEq] at hc); (try (exfalso; first | omega | contradiction | omega | exact absurd rfl hc | exact absurd (by decide) hc))))))
      have e : (tab (fun j => if j < s then dg (x + y) j else dg x j)).set s ((((dg x s : Nat) : Int) + ((dg y s : Nat) : Int) + (c : Int)) % 256) = tab (fun j => if j < s + 1 then dg (x + y) j else dg x j) := by
        rw [show (((dg x s : Nat) : Int) + ((dg y s : Nat) : Int) + (c : Int)) % 256 = ((dg (x + y) s : Nat) : Int) by rw [← cy_dig, ← hc0]; omega, tab_set _ _ h]
        apply tab_congr
        intro j hj
        by_cases e1 : j = s
        · subst e1; rw [if_pos rfl, if_pos (by omega)]
        · rw [if_neg e1]
          by_cases e2 : j < s
          · rw [if_pos e2, if_pos (by omega)]
          · rw [if_neg e2, if_neg (by omega)]
      all_goals (rw [e])
      all_goals ((with_reducible refine At.reachk (⟨s + 1, (dg x s + dg y s + c) / 256⟩) ?_ ?_ ?_ ?_); exact zsubs; exact zml; exact zente; exact ⟨⟨Nat.succ_le_of_lt h, by show _ / 256 = _; rw [hc0, cy_succ]⟩, by show 16 - (s + 1) < 16 - s; omega⟩)
    · have e16 : s = 16 := by omega
      subst e16
      rw [cy_end x y hx hy] at hc0
      have e : tab (fun j => if j < 16 then dg (x + y) j else dg x j) = tab (dg (x + y)) := tab_congr fun j hj => if_pos hj
      rw [e]
      by_cases ho : x + y < 340282366920938463463374607431768211456
      · have e1 : sV (x + y) = x + y := if_pos ho
        have e2 : sE (x + y) = 0 := if_pos ho
        rw [e1, e2]
        have hlz := tabm_len (dg (x + y))
        (repeat' (first | refine zss ?_ | ((first | (with_reducible first | apply At.val | apply AtQ.val)); (exact zprA); exact rfl) | refine zs0 ?_ | ((with_reducible first | apply AtM1.callp | apply AtQ.callp | apply At.callp); kernel_rfl; exact rfl; exact rfl; exact of_r (x + y) ho) | ((with_reducible apply At.box (d := 2)); exact rfl; exact rfl; exact rfl; intro b2) | ((with_reducible apply At.box (d := 3)); exact rfl; exact rfl; exact rfl; intro b3) | ((with_reducible apply At.alloc (d := 4)); exact rfl; exact rfl; intro b4) | ((with_reducible apply At.alloc (d := 6)); exact rfl; exact rfl; intro b6) | ((with_reducible apply At.alloc (d := 7)); exact rfl; exact rfl; intro b7) | (refine zsp ?_ ?_ <;> (intro hc; (try simp only [zhcs, reduceCtorEq] at hc); (try (exfalso; first | omega | contradiction | omega | exact absurd rfl hc | exact absurd (by decide) hc))))))
        all_goals ((with_reducible apply At.retV (B := [])); exact rfl; (repeat' (first | exact RVs.nil | (with_reducible apply RVs.cons) | exact rv_tmp (by rfl) | exact rv_cellN (by rfl) (by repeat constructor) (by rfl) (by rfl) (by rfl) | exact rv_cell1 (by rfl) (by repeat constructor) (by rfl) (by rfl) | exact rv_cellA (by rfl) (by repeat constructor) (by rfl) (by rfl) zlq)); exact zml; exact zkp; exact ⟨rfl, rfl, rfl⟩)
      · have e1 : sV (x + y) = 0 := if_neg ho
        have e2 : sE (x + y) = 1 := if_neg ho
        rw [e1, e2]
        (repeat' (first | refine zss ?_ | ((first | (with_reducible first | apply At.val | apply AtQ.val)); (exact zprA); exact rfl) | refine zs0 ?_ | ((with_reducible apply At.box (d := 2)); exact rfl; exact rfl; exact rfl; intro b2) | ((with_reducible apply At.box (d := 3)); exact rfl; exact rfl; exact rfl; intro b3) | ((with_reducible apply At.alloc (d := 4)); exact rfl; exact rfl; intro b4) | ((with_reducible apply At.alloc (d := 6)); exact rfl; exact rfl; intro b6) | ((with_reducible apply At.alloc (d := 7)); exact rfl; exact rfl; intro b7) | (refine zsp ?_ ?_ <;> (intro hc; (try simp only [zhcs, reduceCtorEq] at hc); (try (exfalso; first | omega | contradiction | omega | exact absurd rfl hc | exact absurd (by decide) hc))))))
        all_goals ((with_reducible apply At.retV (B := [])); exact rfl; (repeat' (first | exact RVs.nil | (with_reducible apply RVs.cons) | exact rv_tmp (by rfl) | exact rv_cellN (by rfl) (by repeat constructor) (by rfl) (by rfl) (by rfl) | exact rv_cell1 (by rfl) (by repeat constructor) (by rfl) (by rfl) | exact rv_cellA (by rfl) (by repeat constructor) (by rfl) (by rfl) zlq)); exact zml; exact zkp; exact ⟨rfl, rfl, rfl⟩)
end Wide
end Go.Proofs.YtpdleggpmhlagaaDoor
/- The document's numbers: the sum of many, which is less, a number many times. -/
set_option linter.unusedSimpArgs false
set_option linter.unusedVariables false
set_option linter.unusedSectionVars false
set_option maxRecDepth 20000
set_option maxHeartbeats 4000000
namespace Go.Proofs.YtpdleggpmhlagaaDoor
open Go Go.J
attribute [local irreducible] At AtQ AtM AtM1 PR Ct Pu Rd Res.blk Res.own Res.ex RVs RV
namespace Wide
theorem top_dg (x s : Nat) : x / 256 ^ s = x / 256 ^ (s + 1) * 256 + dg x s := by
  unfold dg
  rw [Nat.pow_succ, ← Nat.div_div_eq_div_mul]
  omega
theorem lt_dg {x y s : Nat} (h : x / 256 ^ (s + 1) = y / 256 ^ (s + 1)) (hd : dg x s < dg y s) : x < y := by
  have h1 := top_dg x s
  have h2 := top_dg y s
  have h3 : x / 256 ^ s < y / 256 ^ s := by omega
  apply Classical.byContradiction
  intro hn
  have := Nat.div_le_div_right (c := 256 ^ s) (Nat.le_of_not_lt hn)
  omega
theorem less_r (x y : Nat) (hx : x < 340282366920938463463374607431768211456) (hy : y < 340282366920938463463374607431768211456) : Pu Tryd.prog 45 #[wv x, wv y] (.bool (decide (x < y))) := Pu.intro fun m => by
  have hlx := tab_len (dg x)
  have hly := tab_len (dg y)
  have hmx := tabm_len (dg x)
  have hmy := tabm_len (dg y)
  refine Ct.enterV (by rfl) Tryd.func45 rfl Tryd.ntmps45 rfl (fun w0 Rest => ?_)
  (repeat' (first | ((with_reducible apply At.mixed (id := 1) 8 (.q 0 (.q 1 (.q 2 (.q 3 (.b 4 5 (.l 5 (.x 6 (.x 7 .done))) (.l 4 (.x 6 (.x 7 .done))))))))); exact rfl; kernel_rfl; kernel_rfl; kernel_rfl) | refine zsx ?_ | refine zss ?_ | ((with_reducible apply AtM.bo); exact rfl; exact rfl; exact rfl) | ((first | (with_reducible first | apply At.val | apply AtQ.val) | ((with_reducible first | apply AtM1.valz | apply AtM1.val); exact rfl) | ((with_reducible apply AtM1.val); exact rfl)); (exact zprA); exact rfl) | refine zs0 ?_ | refine zx0 ?_ | ((with_reducible first | apply AtM1.callp | apply AtQ.callp | apply At.callp); kernel_rfl; exact rfl; exact rfl; exact bytes x hx) | ((with_reducible first | apply AtM1.callp | apply AtQ.callp | apply At.callp); kernel_rfl; exact rfl; exact rfl; exact bytes y hy) | ((with_reducible apply At.storeA); exact rfl; exact rfl; exact rfl; exact all_gi _; exact (by repeat constructor); (first | exact rfl | (first | omega | (simp only [lns] <;> omega))); (first | exact rfl | (first | omega | (simp only [lns] <;> omega)))) | ((with_reducible apply At.box (d := 2)); exact rfl; exact rfl; exact rfl; intro b2) | ((with_reducible apply At.box (d := 3)); exact rfl; exact rfl; exact rfl; intro b3) | ((with_reducible apply At.alloc (d := 5)); exact rfl; exact rfl; intro b5) | ((with_reducible apply At.alloc (d := 6)); exact rfl; exact rfl; intro b6) | (refine zsp ?_ ?_ <;> (intro hc; (try simp only [zhcs, reduceCtorEq] at hc); (try (exfalso; first | contradiction | omega | exact absurd rfl hc | exact absurd (by decide) hc))))))
  all_goals (refine At.loopk (σ := Nat) [5, 6] (fun s F0 => (7, .int .i64 ((s : Int) - 1)) :: F0) (fun s => m) (fun s => .blk b6 58 ((tab (dg y)).map gi) :: .blk b5 58 ((tab (dg x)).map gi) :: Rest) (fun s => s ≤ 16 ∧ x / 256 ^ s = y / 256 ^ s) (fun s => s) 16 (by rfl) ?_ zsubs zml zente ?_)
  all_goals try exact ⟨Nat.le_refl _, by rw [show (256 : Nat) ^ 16 = 340282366920938463463374607431768211456 from rfl, Nat.div_eq_of_lt hx, Nat.div_eq_of_lt hy]⟩
  all_goals
    rintro s ⟨hs, he⟩
    rcases s with _ | s
    · rw [Nat.pow_zero, Nat.div_one, Nat.div_one] at he
      rw [show decide (x < y) = false from decide_eq_false (by omega)]
      (repeat' (first | refine zss ?_ | ((first | (with_reducible first | apply At.val | apply AtQ.val)); (exact zprA); exact rfl) | refine zs0 ?_ | ((with_reducible apply At.box (d := 2)); exact rfl; exact rfl; exact rfl; intro b2) | ((with_reducible apply At.box (d := 3)); exact rfl; exact rfl; exact rfl; intro b3) | ((with_reducible apply At.alloc (d := 5)); exact rfl; exact rfl; intro b5) | ((with_reducible apply At.alloc (d := 6)); exact rfl; exact rfl; intro b6) | (refine zsp ?_ ?_ <;> (intro hc; (try simp only [zhcs, reduceCtorEq] at hc); (try (exfalso; first | omega | contradiction | omega | exact absurd rfl hc | exact absurd (by decide) hc))))))
      all_goals ((with_reducible apply At.retB1 (B := [])); exact rfl; exact rfl; exact zml; exact zkp; exact ⟨rfl, rfl, rfl⟩)
    · rw [show (((s + 1 : Nat) : Int) - 1) = (s : Int) by omega]
      by_cases hd : dg x s = dg y s
      · have ht : x / 256 ^ s = y / 256 ^ s := by rw [top_dg x s, top_dg y s, he, hd]
        (repeat' (first | ((with_reducible apply At.mixed (id := 1) 8 (.q 0 (.q 1 (.q 2 (.q 3 (.b 4 5 (.l 5 (.x 6 (.x 7 .done))) (.l 4 (.x 6 (.x 7 .done))))))))); exact rfl; kernel_rfl; kernel_rfl; kernel_rfl) | refine zsx ?_ | refine zss ?_ | ((with_reducible apply AtM.bo); exact rfl; exact rfl; exact rfl) | ((first | (with_reducible first | apply At.val | apply AtQ.val) | ((with_reducible first | apply AtM1.valz | apply AtM1.val); exact rfl) | ((with_reducible apply AtM1.val); exact rfl)); (first | exact pr_load_tab (k := s) (by rfl) (by first | exact pk0 | exact pk1 | exact pk2 | exact pk3) (by rfl) (by omega) | exact zprA); exact rfl) | refine zs0 ?_ | refine zx0 ?_ | ((with_reducible apply At.box (d := 2)); exact rfl; exact rfl; exact rfl; intro b2) | ((with_reducible apply At.box (d := 3)); exact rfl; exact rfl; exact rfl; intro b3) | ((with_reducible apply At.alloc (d := 5)); exact rfl; exact rfl; intro b5) | ((with_reducible apply At.alloc (d := 6)); exact rfl; exact rfl; intro b6) | (refine zsp ?_ ?_ <;> (intro hc; (try simp only [zhcs, reduceCtorEq] at hc); (try (exfalso; first | omega | contradiction | omega | exact absurd rfl hc | exact absurd (by decide) hc))))))
        all_goals ((with_reducible refine At.reachk (s) ?_ ?_ ?_ ?_); exact zsubs; exact zml; exact zente; exact ⟨⟨by omega, ht⟩, Nat.lt_succ_self s⟩)
      · have hxy : decide (x < y) = decide (((dg x s : Nat) : Int) < ((dg y s : Nat) : Int)) := by
          by_cases hl : dg x s < dg y s
          · rw [decide_eq_true (lt_dg he hl), decide_eq_true (by omega)]
          · have := lt_dg he.symm (show dg y s < dg x s by omega)
            rw [decide_eq_false (by omega), decide_eq_false (by omega)]
        rw [hxy]
        (repeat' (first | ((with_reducible apply At.mixed (id := 1) 8 (.q 0 (.q 1 (.q 2 (.q 3 (.b 4 5 (.l 5 (.x 6 (.x 7 .done))) (.l 4 (.x 6 (.x 7 .done))))))))); exact rfl; kernel_rfl; kernel_rfl; kernel_rfl) | refine zsx ?_ | refine zss ?_ | ((with_reducible apply AtM.bo); exact rfl; exact rfl; exact rfl) | ((first | (with_reducible first | apply At.val | apply AtQ.val) | ((with_reducible first | apply AtM1.valz | apply AtM1.val); exact rfl) | ((with_reducible apply AtM1.val); exact rfl)); (first | exact pr_load_tab (k := s) (by rfl) (by first | exact pk0 | exact pk1 | exact pk2 | exact pk3) (by rfl) (by omega) | exact zprA); exact rfl) | refine zs0 ?_ | refine zx0 ?_ | ((with_reducible apply At.box (d := 2)); exact rfl; exact rfl; exact rfl; intro b2) | ((with_reducible apply At.box (d := 3)); exact rfl; exact rfl; exact rfl; intro b3) | ((with_reducible apply At.alloc (d := 5)); exact rfl; exact rfl; intro b5) | ((with_reducible apply At.alloc (d := 6)); exact rfl; exact rfl; intro b6) | (refine zsp ?_ ?_ <;> (intro hc; (try simp only [zhcs, reduceCtorEq] at hc); (try (exfalso; first | omega | contradiction | omega | exact absurd rfl hc | exact absurd (by decide) hc))))))
        all_goals ((with_reducible apply At.retB1 (B := [])); exact rfl; exact rfl; exact zml; exact zkp; exact ⟨rfl, rfl, rfl⟩)

structure TS where
  (n : Nat) (a : Nat) (A : Nat) (v : Bool) (o : Nat)
theorem times_r (x k : Nat) (hx : x < 340282366920938463463374607431768211456) (hk : k < 18446744073709551616) : Pu Tryd.prog 27 #[wv x, .int .u64 (k : Int)] (.tuple #[wv (sV (x * k)), .int .i64 (sE (x * k))]) := Pu.intro fun m => by
  refine Ct.enterV (by rfl) Tryd.func27 rfl Tryd.ntmps27 rfl (fun w0 Rest => ?_)
  (repeat' (first | refine zss ?_ | ((first | (with_reducible first | apply At.val | apply AtQ.val)); (exact zprA); exact rfl) | refine zs0 ?_ | ((with_reducible apply At.box (d := 2)); exact rfl; exact rfl; exact rfl; intro b2) | ((with_reducible apply At.alloc (d := 4)); exact rfl; exact rfl; intro b4) | ((with_reducible apply At.alloc (d := 6)); exact rfl; exact rfl; intro b6) | ((with_reducible apply At.alloc (d := 9)); exact rfl; exact rfl; intro b9) | (refine zsp ?_ ?_ <;> (intro hc; (try simp only [zhcs, reduceCtorEq] at hc); (try (exfalso; first | contradiction | omega | exact absurd rfl hc | exact absurd (by decide) hc))))))
  rw [show ([.int .u64 0, .int .u64 0] : List Value) = wd 0 from rfl]
  (refine At.loopk (σ := TS) [2, 4, 6] (fun s F0 => (1, .int .u64 (s.n : Int)) :: (8, .bool s.v) :: F0) (fun s => m) (fun s => .blk b6 24 (wd s.o) :: .blk b4 24 (wd 0) :: .blk b2 24 (wd s.a) :: Rest) (fun s => s.o + s.A * s.n = x * k ∧ s.o < 340282366920938463463374607431768211456 ∧ s.a < 340282366920938463463374607431768211456 ∧ s.n < 18446744073709551616 ∧ (s.v = false → s.a = s.A) ∧ (s.v = true → 340282366920938463463374607431768211456 ≤ s.A)) (fun s => s.n) ⟨k, x, x, false, 0⟩ (by rfl) ?_ zsubs zml zente ?_)
  · exact ⟨by simp, by show 0 < _; decide, hx, hk, fun _ => rfl, (fun h => by cases h)⟩
  rintro ⟨n, a, A, v, o⟩ ⟨h1, h2, h3, h4, h5, h6⟩
  dsimp only at h1 h2 h3 h4 h5 h6 ⊢
  by_cases hn : n = 0
  · subst hn
    have e : o = x * k := by simpa using h1
    rw [show sV (x * k) = o by rw [← e]; exact if_pos h2, show sE (x * k) = 0 by rw [← e]; exact if_pos h2]
    (repeat' (first | refine zss ?_ | ((first | (with_reducible first | apply At.val | apply AtQ.val)); (exact zprA); exact rfl) | refine zs0 ?_ | ((with_reducible apply At.box (d := 2)); exact rfl; exact rfl; exact rfl; intro b2) | ((with_reducible apply At.alloc (d := 4)); exact rfl; exact rfl; intro b4) | ((with_reducible apply At.alloc (d := 6)); exact rfl; exact rfl; intro b6) | ((with_reducible apply At.alloc (d := 9)); exact rfl; exact rfl; intro b9) | (refine zsp ?_ ?_ <;> (intro hc; (try simp only [zhcs, reduceCtorEq] at hc); (try (exfalso; first | omega | contradiction | omega | exact absurd rfl hc | exact absurd (by decide) hc))))))
    all_goals ((with_reducible apply At.retV (B := [])); exact rfl; (repeat' (first | exact RVs.nil | (with_reducible apply RVs.cons) | exact rv_tmp (by rfl) | exact rv_cellN (by rfl) (by repeat constructor) (by rfl) (by rfl) (by rfl) | exact rv_cell1 (by rfl) (by repeat constructor) (by rfl) (by rfl) | exact rv_cellA (by rfl) (by repeat constructor) (by rfl) (by rfl) zlq)); exact zml; exact zkp; exact ⟨rfl, rfl, rfl⟩)
  · have hA : A ≤ A * n := Nat.le_mul_of_pos_right A (by omega)
    have ad2 := add_r a a h3 h3
    have hs2 := sV_lt (a + a)
    cases v
    · have e := h5 rfl
      subst e
      by_cases hodd : n % 2 = 1
      · obtain ⟨q, hq⟩ : ∃ q, n = 2 * q + 1 := ⟨n / 2, by omega⟩
        have hm : a + a * (2 * q) = a * n := by rw [hq, Nat.mul_add]; omega
        have hm2 : (a + a) * q = a * (2 * q) := by rw [← Nat.two_mul, Nat.mul_comm 2 a, Nat.mul_assoc]
        have ad1 := add_r o a h2 h3
        by_cases ho : o + a < 340282366920938463463374607431768211456
        · rw [show sV (o + a) = o + a from if_pos ho, show sE (o + a) = 0 from if_pos ho] at ad1
          by_cases hd : a + a < 340282366920938463463374607431768211456
          · rw [show sV (a + a) = a + a from if_pos hd, show sE (a + a) = 0 from if_pos hd] at ad2
            (repeat' (first | refine zss ?_ | ((first | (with_reducible first | apply At.val | apply AtQ.val)); (exact zprA); exact rfl) | refine zs0 ?_ | ((with_reducible first | apply AtM1.callp | apply AtQ.callp | apply At.callp); kernel_rfl; exact rfl; exact rfl; exact ad1) | ((with_reducible first | apply AtM1.callp | apply AtQ.callp | apply At.callp); kernel_rfl; exact rfl; exact rfl; exact ad2) | ((with_reducible apply At.box (d := 2)); exact rfl; exact rfl; exact rfl; intro b2) | ((with_reducible apply At.alloc (d := 4)); exact rfl; exact rfl; intro b4) | ((with_reducible apply At.alloc (d := 6)); exact rfl; exact rfl; intro b6) | ((with_reducible apply At.alloc (d := 9)); exact rfl; exact rfl; intro b9) | (refine zsp ?_ ?_ <;> (intro hc; (try simp only [zhcs, reduceCtorEq] at hc); (try (exfalso; first | omega | contradiction | omega | exact absurd rfl hc | exact absurd (by decide) hc))))))
            all_goals ((with_reducible refine At.reachk (⟨n / 2, a + a, a + a, false, o + a⟩) ?_ ?_ ?_ ?_); exact zsubs; exact zml; exact zente; exact ⟨⟨by show o + a + (a + a) * (n / 2) = _; rw [show n / 2 = q by omega, hm2]; omega, ho, hd, by show n / 2 < _; omega, fun _ => rfl, (fun h => by cases h)⟩, by show n / 2 < n; omega⟩)
          · rw [show sV (a + a) = 0 from if_neg hd, show sE (a + a) = 1 from if_neg hd] at ad2
            (repeat' (first | refine zss ?_ | ((first | (with_reducible first | apply At.val | apply AtQ.val)); (exact zprA); exact rfl) | refine zs0 ?_ | ((with_reducible first | apply AtM1.callp | apply AtQ.callp | apply At.callp); kernel_rfl; exact rfl; exact rfl; exact ad1) | ((with_reducible first | apply AtM1.callp | apply AtQ.callp | apply At.callp); kernel_rfl; exact rfl; exact rfl; exact ad2) | ((with_reducible apply At.box (d := 2)); exact rfl; exact rfl; exact rfl; intro b2) | ((with_reducible apply At.alloc (d := 4)); exact rfl; exact rfl; intro b4) | ((with_reducible apply At.alloc (d := 6)); exact rfl; exact rfl; intro b6) | ((with_reducible apply At.alloc (d := 9)); exact rfl; exact rfl; intro b9) | (refine zsp ?_ ?_ <;> (intro hc; (try simp only [zhcs, reduceCtorEq] at hc); (try (exfalso; first | omega | contradiction | omega | exact absurd rfl hc | exact absurd (by decide) hc))))))
            all_goals ((with_reducible refine At.reachk (⟨n / 2, 0, a + a, true, o + a⟩) ?_ ?_ ?_ ?_); exact zsubs; exact zml; exact zente; exact ⟨⟨by show o + a + (a + a) * (n / 2) = _; rw [show n / 2 = q by omega, hm2]; omega, ho, by show 0 < _; decide, by show n / 2 < _; omega, (fun h => by cases h), fun _ => by show _ ≤ a + a; omega⟩, by show n / 2 < n; omega⟩)
        · rw [show sV (o + a) = 0 from if_neg ho, show sE (o + a) = 1 from if_neg ho] at ad1
          rw [show sV (x * k) = 0 from if_neg (by omega), show sE (x * k) = 1 from if_neg (by omega)]
          (repeat' (first | refine zss ?_ | ((first | (with_reducible first | apply At.val | apply AtQ.val)); (exact zprA); exact rfl) | refine zs0 ?_ | ((with_reducible first | apply AtM1.callp | apply AtQ.callp | apply At.callp); kernel_rfl; exact rfl; exact rfl; exact ad1) | ((with_reducible apply At.box (d := 2)); exact rfl; exact rfl; exact rfl; intro b2) | ((with_reducible apply At.alloc (d := 4)); exact rfl; exact rfl; intro b4) | ((with_reducible apply At.alloc (d := 6)); exact rfl; exact rfl; intro b6) | ((with_reducible apply At.alloc (d := 9)); exact rfl; exact rfl; intro b9) | (refine zsp ?_ ?_ <;> (intro hc; (try simp only [zhcs, reduceCtorEq] at hc); (try (exfalso; first | omega | contradiction | omega | exact absurd rfl hc | exact absurd (by decide) hc))))))
          all_goals ((with_reducible apply At.retV (B := [])); exact rfl; (repeat' (first | exact RVs.nil | (with_reducible apply RVs.cons) | exact rv_tmp (by rfl) | exact rv_cellN (by rfl) (by repeat constructor) (by rfl) (by rfl) (by rfl) | exact rv_cell1 (by rfl) (by repeat constructor) (by rfl) (by rfl) | exact rv_cellA (by rfl) (by repeat constructor) (by rfl) (by rfl) zlq)); exact zml; exact zkp; exact ⟨rfl, rfl, rfl⟩)
      · obtain ⟨q, hq⟩ : ∃ q, n = 2 * q := ⟨n / 2, by omega⟩
        have hm2 : (a + a) * q = a * n := by rw [hq, ← Nat.two_mul, Nat.mul_comm 2 a, Nat.mul_assoc]
        by_cases hd : a + a < 340282366920938463463374607431768211456
        · rw [show sV (a + a) = a + a from if_pos hd, show sE (a + a) = 0 from if_pos hd] at ad2
          (repeat' (first | refine zss ?_ | ((first | (with_reducible first | apply At.val | apply AtQ.val)); (exact zprA); exact rfl) | refine zs0 ?_ | ((with_reducible first | apply AtM1.callp | apply AtQ.callp | apply At.callp); kernel_rfl; exact rfl; exact rfl; exact ad2) | ((with_reducible apply At.box (d := 2)); exact rfl; exact rfl; exact rfl; intro b2) | ((with_reducible apply At.alloc (d := 4)); exact rfl; exact rfl; intro b4) | ((with_reducible apply At.alloc (d := 6)); exact rfl; exact rfl; intro b6) | ((with_reducible apply At.alloc (d := 9)); exact rfl; exact rfl; intro b9) | (refine zsp ?_ ?_ <;> (intro hc; (try simp only [zhcs, reduceCtorEq] at hc); (try (exfalso; first | omega | contradiction | omega | exact absurd rfl hc | exact absurd (by decide) hc))))))
          all_goals ((with_reducible refine At.reachk (⟨n / 2, a + a, a + a, false, o⟩) ?_ ?_ ?_ ?_); exact zsubs; exact zml; exact zente; exact ⟨⟨by show o + (a + a) * (n / 2) = _; rw [show n / 2 = q by omega, hm2]; omega, h2, hd, by show n / 2 < _; omega, fun _ => rfl, (fun h => by cases h)⟩, by show n / 2 < n; omega⟩)
        · rw [show sV (a + a) = 0 from if_neg hd, show sE (a + a) = 1 from if_neg hd] at ad2
          (repeat' (first | refine zss ?_ | ((first | (with_reducible first | apply At.val | apply AtQ.val)); (exact zprA); exact rfl) | refine zs0 ?_ | ((with_reducible first | apply AtM1.callp | apply AtQ.callp | apply At.callp); kernel_rfl; exact rfl; exact rfl; exact ad2) | ((with_reducible apply At.box (d := 2)); exact rfl; exact rfl; exact rfl; intro b2) | ((with_reducible apply At.alloc (d := 4)); exact rfl; exact rfl; intro b4) | ((with_reducible apply At.alloc (d := 6)); exact rfl; exact rfl; intro b6) | ((with_reducible apply At.alloc (d := 9)); exact rfl; exact rfl; intro b9) | (refine zsp ?_ ?_ <;> (intro hc; (try simp only [zhcs, reduceCtorEq] at hc); (try (exfalso; first | omega | contradiction | omega | exact absurd rfl hc | exact absurd (by decide) hc))))))
          all_goals ((with_reducible refine At.reachk (⟨n / 2, 0, a + a, true, o⟩) ?_ ?_ ?_ ?_); exact zsubs; exact zml; exact zente; exact ⟨⟨by show o + (a + a) * (n / 2) = _; rw [show n / 2 = q by omega, hm2]; omega, h2, by show 0 < _; decide, by show n / 2 < _; omega, (fun h => by cases h), fun _ => by show _ ≤ a + a; omega⟩, by show n / 2 < n; omega⟩)
    · have e := h6 rfl
      by_cases hodd : n % 2 = 1
      · rw [show sV (x * k) = 0 from if_neg (by omega), show sE (x * k) = 1 from if_neg (by omega)]
        (repeat' (first | refine zss ?_ | ((first | (with_reducible first | apply At.val | apply AtQ.val)); (exact zprA); exact rfl) | refine zs0 ?_ | ((with_reducible apply At.box (d := 2)); exact rfl; exact rfl; exact rfl; intro b2) | ((with_reducible apply At.alloc (d := 4)); exact rfl; exact rfl; intro b4) | ((with_reducible apply At.alloc (d := 6)); exact rfl; exact rfl; intro b6) | ((with_reducible apply At.alloc (d := 9)); exact rfl; exact rfl; intro b9) | (refine zsp ?_ ?_ <;> (intro hc; (try simp only [zhcs, reduceCtorEq] at hc); (try (exfalso; first | omega | contradiction | omega | exact absurd rfl hc | exact absurd (by decide) hc))))))
        all_goals ((with_reducible apply At.retV (B := [])); exact rfl; (repeat' (first | exact RVs.nil | (with_reducible apply RVs.cons) | exact rv_tmp (by rfl) | exact rv_cellN (by rfl) (by repeat constructor) (by rfl) (by rfl) (by rfl) | exact rv_cell1 (by rfl) (by repeat constructor) (by rfl) (by rfl) | exact rv_cellA (by rfl) (by repeat constructor) (by rfl) (by rfl) zlq)); exact zml; exact zkp; exact ⟨rfl, rfl, rfl⟩)
      · obtain ⟨q, hq⟩ : ∃ q, n = 2 * q := ⟨n / 2, by omega⟩
        have hm2 : (A + A) * q = A * n := by rw [hq, ← Nat.two_mul, Nat.mul_comm 2 A, Nat.mul_assoc]
        (repeat' (first | refine zss ?_ | ((first | (with_reducible first | apply At.val | apply AtQ.val)); (exact zprA); exact rfl) | refine zs0 ?_ | ((with_reducible first | apply AtM1.callp | apply AtQ.callp | apply At.callp); kernel_rfl; exact rfl; exact rfl; exact ad2) | ((with_reducible apply At.box (d := 2)); exact rfl; exact rfl; exact rfl; intro b2) | ((with_reducible apply At.alloc (d := 4)); exact rfl; exact rfl; intro b4) | ((with_reducible apply At.alloc (d := 6)); exact rfl; exact rfl; intro b6) | ((with_reducible apply At.alloc (d := 9)); exact rfl; exact rfl; intro b9) | (refine zsp ?_ ?_ <;> (intro hc; (try simp only [zhcs, reduceCtorEq] at hc); (try (exfalso; first | omega | contradiction | omega | exact absurd rfl hc | exact absurd (by decide) hc))))))
        all_goals ((with_reducible refine At.reachk (⟨n / 2, sV (a + a), A + A, true, o⟩) ?_ ?_ ?_ ?_); exact zsubs; exact zml; exact zente; exact ⟨⟨by show o + (A + A) * (n / 2) = _; rw [show n / 2 = q by omega, hm2]; omega, h2, hs2, by show n / 2 < _; omega, (fun h => by cases h), fun _ => by show _ ≤ A + A; omega⟩, by show n / 2 < n; omega⟩)
end Wide
end Go.Proofs.YtpdleggpmhlagaaDoor
