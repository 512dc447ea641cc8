/- Part 2 of what the law's proof needs: rules of the walk, contracts of functions, plain laws. No condition. -/
import Derived.Test.YtoplagjjojlceaaFlEWZ1
import Derived.Scope
import Derived.Laws.OwnMore
import Derived.Laws.Externs
import Derived.Test.YtoplagjjojlceaaRows
import Derived.Laws.MathBits
import Derived.Lib.SliceRun
import Derived.Laws.IdiomCopy
import Derived.Lib.Overlaps
import Derived.Lib.FrozenHead
/- Scopes, a 'return' without results, a slice made full, what one owns under a name. -/
set_option linter.unusedSimpArgs false
set_option linter.unusedVariables false
set_option linter.unusedSectionVars false
set_option maxRecDepth 20000
namespace Go.J
open Go

section
variable {P : Program} {n : Nat} {w0 : World} {F : Fr} {m : Mem} {Rs : List Res} {Q : Exit → Act → World → Prop} {K : Act → World → Prop} {C : World → Prop}

theorem At.scope {c : Code} (h : At n w0 F m Rs (c.wp P (Exit.noGoto Q))) : At n w0 F m Rs ((Code.scope c).wp P Q) := fun a w ha hw => wp_scope_straight (h a w ha hw)
theorem At.label {l : Nat} (h : At n w0 F m Rs (Q .normal)) : At n w0 F m Rs ((Code.label l).wp P Q) := fun a w ha hw => wp_label (h a w ha hw)
theorem At.nog_n (h : At n w0 F m Rs (Q .normal)) : At n w0 F m Rs (Exit.noGoto Q .normal) := h
theorem At.nog_r (h : At n w0 F m Rs (Q .ret)) : At n w0 F m Rs (Exit.noGoto Q .ret) := h
theorem At.nog_e {id : Nat} (h : At n w0 F m Rs (Q (.exit id))) : At n w0 F m Rs (Exit.noGoto Q (.exit id)) := h
theorem At.retR0 {fn : Func} {R : Value → Mem → List Res → Prop} {m0 : Mem} {Rest B : List Res} (hr : fn.results = #[]) (hm : m0.le m) (hB : Keep B Rs Rest) (hR : R (.tuple #[]) m B) :
    At n w0 F m Rs (bodyPost P fn (fun e w' => ∃ v m' B, e = .returned v ∧ m0.le m' ∧ R v m' B ∧ HW w0 m' (B ++ Rest) w') .ret) := fun a w ha hw =>
  ⟨ha.dfr, _, by rw [results_none hr], _, m, B, rfl, hm, hR, hw.ent hB.ent⟩

theorem pr_strindexn {x y : Operand} {t : TypeId} {l : List UInt8} {k : IntKind} {i : Nat} (ht : P.underlying t = some .string) (hx : ev F x = some (.string (str l))) (hy : ev F y = some (.int k (i : Int))) (h1 : i < l.length) :
    PR P n F C (.index t x y) (.int .u8 (bI l[i]!)) := pr_strindex ht hx hy (by omega) (by omega)
theorem pr_str_ln {x y : Operand} {t : TypeId} {l : List UInt8} {k : IntKind} {i : Nat} (ht : P.underlying t = some .string) (hx : ev F x = some (.string (str l))) (hy : ev F y = some (.int k (i : Int))) (h1 : i ≤ l.length) :
    PR P n F C (.slice t x (some y) none none) (.string (str (l.drop i))) := pr_str_l ht hx hy (by omega) (by omega)
theorem pr_str_hn {x z : Operand} {t : TypeId} {l : List UInt8} {k : IntKind} {i : Nat} (ht : P.underlying t = some .string) (hx : ev F x = some (.string (str l))) (hz : ev F z = some (.int k (i : Int))) (h1 : i ≤ l.length) :
    PR P n F C (.slice t x none (some z) none) (.string (str (l.take i))) := pr_str_h ht hx hz (by omega) (by omega)
theorem pr_str_lhn {x y z : Operand} {t : TypeId} {l : List UInt8} {k k' : IntKind} {i j : Nat} (ht : P.underlying t = some .string) (hx : ev F x = some (.string (str l))) (hy : ev F y = some (.int k (i : Int))) (hz : ev F z = some (.int k' (j : Int))) (h1 : i ≤ j) (h2 : j ≤ l.length) :
    PR P n F C (.slice t x (some y) (some z) none) (.string (str ((l.take j).drop i))) := pr_str_lh ht hx hy hz (by omega) (by omega) (by omega)

/-- a region that draws, where some of what one owns is for the loud operations alone -/
theorem At.mixedX {id : Nat} {l0 l : List Oper} (X : List Res) (N : Nat) (p : Plan) {Base : List Res} (hX : Take X Rs Base) (e : flat l0 = some l) (hN : Nat.beq l.length N = true) (hm : P.follows .mixedOrders = true) (hB : mixB l p = true)
    (h : AtM P n w0 F m Base X (Q .normal) l N (Array.replicate l.length false) p) : At n w0 F m Rs ((Code.region id l0.toArray true).wp P Q) := fun a w ha hw => by
  have := flat_eq l0 l e; subst this
  simp only [mixB, Bool.and_eq_true] at hB
  have hN' := Nat.eq_of_beq_eq_true hN
  subst hN'
  have hG := h hB.1 hB.2 (Closed.empty _ _) a ha
  refine Code.wp_mono (Q := Q0 (Q .normal)) (fun e a' w' q => by cases e <;> first | exact q | exact q.elim) (wp_region_any hm ?_)
  exact GM.any (P := P) l.length m Base X _ a { w with drawn := w.drawn + 1 } ((hw.ent hX.eqv.ent).drawn _) hG

/-- what came to be in memory is not told -/
theorem Ct.forget {f : FuncId} {args : Array Value} {A : List Res} {R R' : Value → Mem → List Res → Prop} (h : Ct P f args m A R) (hr : ∀ v m' B, m.le m' → R v m' B → R' v m B) : Ct P f args m A R' :=
  fun w0 Rest w hw => (h w0 Rest w hw).mono fun _ _ ⟨v, m', B, he, hm, hR, hw'⟩ => ⟨v, m, B, he, Mem.le_refl _, hr v m' B hm hR, hw'.weak hm⟩
theorem Pu.of_le {f : FuncId} {args : Array Value} {V : Value} (h : ∀ m, Ct P f args m [] (fun v m' B => v = V ∧ m.le m' ∧ B = [])) : Pu P f args V := Pu.intro fun m => Ct.forget (h m) fun _ _ _ _ ⟨h1, _, h3⟩ => ⟨h1, rfl, h3⟩

theorem flatMap_replicate {α : Type} (f : α → List Value) (z : α) : ∀ k : Nat, (List.replicate k z).flatMap f = copies k (f z)
  | 0 => rfl
  | k + 1 => by rw [List.replicate_succ, List.flatMap_cons, flatMap_replicate f z k]; rfl
/-- a slice that is made with all of its room taken -/
theorem At.makeN {α : Type} [Inhabited α] {f : α → List Value} {sz : Nat} {ops : Array Oper} {rest : List Oper} {d : Nat} {x y : Operand} {t E : TypeId} {ty : TypeId} {pos : String} {aft : Array Edge} {k1 k2 : IntKind} {cp : Nat} {q q' : Int}
    (z : α) (hf : Fl f sz) (ht : P.underlying t = some (.slice E)) (he : elemB P E sz = true) (hx : ev F x = some (.int k1 q)) (hy : ev F y = some (.int k2 q')) (hq : q = (cp : Int)) (hq' : q' = (cp : Int)) (hz : zeroL P E = some (f z)) (hsm : cp ≤ 34359738368) (hd : Nat.blt d n = true)
    (h : ∀ b, At n w0 ((d, .slice (some ⟨b, 0, none⟩) cp cp) :: F) m (.own f sz E (some ⟨b, 0, none⟩) cp (List.replicate cp z) :: Rs) (wpList P ops Q rest)) :
    At n w0 F m Rs (wpList P ops Q (⟨some d, .makeSlice t x y, ty, pos, aft, none⟩ :: rest)) := fun a w ha hw =>
  wpList_plain rfl fun K hK => by
    subst hq hq'
    obtain ⟨i, zv, hi, hzv, hsz, hbt, hzs⟩ := elemB_spec he
    obtain ⟨i', z', hi', hz', hzc⟩ := zeroL_spec hz
    rw [hi] at hi'; cases hi'
    rw [hzv] at hz'; cases hz'
    have hby : i.bytes * cp ≤ 281474976710656 := Nat.le_trans (Nat.mul_le_mul hbt hsm) (by omega)
    have h63 : cp ≤ maxLen := by simp only [maxLen]; omega
    obtain ⟨w', hr, h1, h2⟩ := run_make_full (P := P) w w.heap.size t E i zv sz ht hi hzv hsz k1 k2 cp hby h63 (Nat.le_refl _)
    unfold Oper.wp
    have hrun : (execOp a.eval ⟨some d, .makeSlice t x y, ty, pos, aft, none⟩).run P w = .ok (.value (.slice (some ⟨w.heap.size, 0, none⟩) cp cp)) w' := by
      simp [execOp, ha.ev hx, ha.ev hy, hr]
    rw [hrun]
    have hh := h w.heap.size
    refine hK _ _ (hh _ _ (ha.put hd) (hw.add h2.os h2.tape h2.output h2.size (fun k hk => h2.block k hk (by simp)) ⟨fun k => k = w.heap.size, ?_, fun k hk => by omega⟩))
    obtain ⟨g1, g2⟩ := h1
    rcases g2 with g2 | ⟨g, cap, cur, hv, _, h4, h5, h6, h7, h8⟩
    · cases g2.1
    · injection hv with e1 e2 e3
      injection e1 with e1
      injection e1 with e1 _ _
      subst e1 e3
      have hsize : zv.cells.size = sz := hzs
      have hlz : (f z).length = sz := hf.len z
      have hmade : (madeCells zv.cells (cp * sz)).toList = copies cp (f z) := by
        have := copies_arr zv.cells (f z) hzc cp
        rw [hlz] at this
        unfold madeCells
        rw [this]
      refine .inr ⟨_, 0, cur, rfl, h4, by rw [List.length_replicate]; exact Nat.le_refl _, h6, by omega, fun j hj => ?_, fun _ => Iff.rfl⟩
      rw [List.length_replicate] at hj
      rw [Nat.zero_add, flatMap_replicate, ← hmade, ← h8, List.getElem?_take, if_pos hj, Array.getElem?_toList]
end
end Go.J
/- Arrays that stand in a variable, values of which no more than the length is known, the model's own functions. -/
set_option linter.unusedSimpArgs false
set_option linter.unusedVariables false
set_option linter.unusedSectionVars false
set_option maxRecDepth 20000
namespace Go.J
open Go

section
variable {P : Program} {n : Nat} {w0 : World} {F : Fr} {m : Mem} {Rs : List Res} {Q : Exit → Act → World → Prop} {K : Act → World → Prop} {C : World → Prop}

/-! ### arrays -/
theorem run_indexArr {t e : TypeId} {sz len : Nat} (ht : P.underlying t = some (.array len e)) (hs : sizeB P e = some sz) (b o k : Nat) (ki : IntKind) (hk : k < len) (w : World) :
    (Instr.indexAt t (.pointer (some ⟨b, o, none⟩)) (.int ki (k : Int))).run P w = .ok (.pointer (some ⟨b, o + k * sz, none⟩)) w := by
  have hr : ∀ w, (underlying t).run P w = .ok (.array len e) w := run_underlying ht
  have h1 : (0 : Int) ≤ (k : Int) ∧ (k : Int) < (len : Int) := ⟨by omega, by omega⟩
  unfold Instr.indexAt
  simp only [asIntOf, pure, Sem.run_bind, Sem.run, Result.andThen, hr, Instr.sureAddr, h1, and_self, if_true, run_sizeOf hs, Int.toNat_natCast, Addr.add_eq]
theorem pr_indexArr {x y : Operand} {t e : TypeId} {len b o k sz : Nat} {ki : IntKind} (hx : ev F x = some (.pointer (some ⟨b, o, none⟩))) (hy : ev F y = some (.int ki (k : Int))) (ht : P.underlying t = some (.array len e)) (hs : sizeB P e = some sz) (hk : k < len) :
    PR P n F C (.indexAddr t x y) (.pointer (some ⟨b, o + k * sz, none⟩)) := fun _ _ _ _ _ a w ha _ => by
  simp only [execOp, ha.ev hx, ha.ev hy, Sem.run_bind, run_indexArr ht hs b o k ki hk]
  rfl
/-- the elements are of one cell, the array is the whole block -/
theorem pr_indexArr1 {x y : Operand} {t e : TypeId} {len b k : Nat} {ki : IntKind} (hx : ev F x = some (.pointer (some ⟨b, 0, none⟩))) (hy : ev F y = some (.int ki (k : Int))) (ht : P.underlying t = some (.array len e)) (hs : sizeB P e = some 1) (hk : k < len) :
    PR P n F C (.indexAddr t x y) (.pointer (some ⟨b, k, none⟩)) := by
  have := pr_indexArr (n := n) (C := C) hx hy ht hs hk
  rwa [Nat.zero_add, Nat.mul_one] at this
theorem pr_indexArr1i {x y : Operand} {t e : TypeId} {len b : Nat} {q : Int} {ki : IntKind} (hx : ev F x = some (.pointer (some ⟨b, 0, none⟩))) (hy : ev F y = some (.int ki q)) (ht : P.underlying t = some (.array len e)) (hs : sizeB P e = some 1) (h0 : 0 ≤ q) (hk : q < len) :
    PR P n F C (.indexAddr t x y) (.pointer (some ⟨b, q.toNat, none⟩)) := pr_indexArr1 hx (k := q.toNat) (by rw [hy, Int.toNat_of_nonneg h0]) ht hs (by omega)
theorem pr_load_arr {α : Type} [Inhabited α] {g : α → Value} {l : List α} {x : Operand} {t : TypeId} {b k : Nat} {E : TypeId} {Rs' : List Res} (hx : ev F x = some (.pointer (some ⟨b, k, none⟩))) (hp : Pick Rs (.blk b E (l.map g)) Rs') (ht : isAggB P t = some false) (hk : k < l.length) :
    PR P n F (HW w0 m Rs) (.load t x) (g l[k]!) := pr_load1 ht hx fun w hw => by
  rw [World.cell_of (hw.blk hp)]
  simp [hk]
theorem putl_set : ∀ (cs : List Value) (k : Nat) (v : Value), k < cs.length → putl cs k [v] = some (cs.set k v)
  | [], _, _, h => by simp at h
  | c :: cs, 0, v, _ => by
    have : ∀ l : List Value, putl l 0 [] = some l := fun l => by cases l <;> simp [putl]
    simp [putl, this]
  | c :: cs, k + 1, v, h => by
    have := putl_set cs k v (by simpa using h)
    simp [putl, this]
theorem At.storeArr {α : Type} {g : α → Value} {l : List α} {ops : Array Oper} {rest : List Oper} {t : TypeId} {x y : Operand} {ty : TypeId} {pos : String} {aft : Array Edge} {b k : Nat} {v : Value} {E : TypeId} {Rs' : List Res}
    (x' : α) (hx : ev F x = some (.pointer (some ⟨b, k, none⟩))) (hy : ev F y = some v) (hv : g x' = v) (hc : cellsB v = some [v]) (hs : sizeB P t = some 1) (h1 : oneCell v = true)
    (hp : Repl Rs (.blk b E (l.map g)) (.blk b E ((l.set k x').map g)) Rs') (hk : k < l.length)
    (h : At n w0 F m Rs' (wpList P ops Q rest)) : At n w0 F m Rs (wpList P ops Q (⟨none, .store t x y, ty, pos, aft, none⟩ :: rest)) :=
  At.store (vs := [v]) hx hy hc hs rfl (by simp [h1]) ⟨_, rfl, by rw [putl_set _ _ _ (by simpa using hk), List.map_set, hv]⟩ hp h

/-! ### values of which no more than the length is known -/
theorem cellsOf_agg (L : List Value) : (Value.agg L.toArray).cells = L.toArray := rfl
theorem At.boxA {ops : Array Oper} {rest : List Oper} {d : Nat} {t : TypeId} {x : Operand} {ty : TypeId} {pos : String} {aft : Array Edge} {L : List Value} (hx : ev F x = some (.agg L.toArray)) (hd : Nat.blt d n = true)
    (h : ∀ b, At n w0 ((d, .pointer (some ⟨b, 0, none⟩)) :: F) m (.blk b t L :: Rs) (wpList P ops Q rest)) : At n w0 F m Rs (wpList P ops Q (⟨some d, .box t x, ty, pos, aft, none⟩ :: rest)) :=
  At.box (v := .agg L.toArray) hx (by show flat L = some L; exact flat_self L) hd h
theorem pr_loadA {x : Operand} {t : TypeId} {b k : Nat} {L : List Value} {E : TypeId} {Rs' : List Res} (hx : ev F x = some (.pointer (some ⟨b, 0, none⟩))) (hp : Pick Rs (.blk b E L) Rs') (ht : isAggB P t = some true) (hs : sizeB P t = some k) (hk : L.length = k) :
    PR P n F (HW w0 m Rs) (.load t x) (.agg L.toArray) := pr_loadN ht hx (by rw [hk]; exact hs) fun w hw j _ => by
  rw [World.cell_of (hw.blk hp)]
  simp
theorem putl_all : ∀ (cs vs : List Value), cs.length = vs.length → putl cs 0 vs = some vs
  | [], [], _ => rfl
  | c :: cs, v :: vs, h => by simp [putl, putl_all cs vs (by simpa using h)]
  | [], _ :: _, h => by simp at h
  | _ :: _, [], h => by simp at h
theorem At.storeA {ops : Array Oper} {rest : List Oper} {t : TypeId} {x y : Operand} {ty : TypeId} {pos : String} {aft : Array Edge} {b k : Nat} {L cs : List Value} {E : TypeId} {Rs' : List Res}
    (hx : ev F x = some (.pointer (some ⟨b, 0, none⟩))) (hy : ev F y = some (.agg L.toArray)) (hs : sizeB P t = some k) (h1 : L.all oneCell = true) (hp : Repl Rs (.blk b E cs) (.blk b E L) Rs') (hk : L.length = k) (hk2 : cs.length = k)
    (h : At n w0 F m Rs' (wpList P ops Q rest)) : At n w0 F m Rs (wpList P ops Q (⟨none, .store t x y, ty, pos, aft, none⟩ :: rest)) :=
  At.store (vs := L) hx hy (by show flat L = some L; exact flat_self L) hs hk h1 ⟨_, rfl, putl_all _ _ (by rw [hk2, hk])⟩ hp h
theorem rv_cellA {x b k : Nat} {t E : TypeId} {L : List Value} {Rs' : List Res} (hx : look x F = some (.pointer (some ⟨b, 0, none⟩))) (hp : Pick Rs (.blk b E L) Rs') (ht : isAggB P t = some true) (hs : sizeB P t = some k) (hk : L.length = k) : RV P n F (HW w0 m Rs) (.cell x t) (.agg L.toArray) := fun a w ha hC => by
  show ((do loadVar t (← asAddr (a.tmps.getD x undef))) : Sem Value).run P w = _
  rw [ha.val x _ hx]
  have e0 : (asAddr (.pointer (some ⟨b, 0, none⟩)) : Sem Addr).run P w = .ok ⟨b, 0, none⟩ w := rfl
  simp only [Sem.run_bind, e0, Result.andThen]
  exact run_loadVarN ht (by rw [hk]; exact hs) (fun j _ => by
    rw [World.cell_of (hC.blk hp)]
    simp)

/-! ### the model's own functions -/
theorem pr_extern {f : FuncId} {fn : Func} {e : Array Value → Sem Value} {xs : List Operand} {ts : Array TypeId} {vs : List Value} {v : Value} (hf : P.funcs[f]? = some fn) (hname : (fn.name == "runtime.NumGoroutine") = false) (hb : fn.body.isNone = true) (hn : Extern.findNext fn = none) (he : Extern.find fn = some e)
    (hx : evs F xs = some vs) (hv : ∀ w, (e vs.toArray).run P w = .ok v w) : PR P n F C (.call ⟨.value (.func f), xs.toArray, ts⟩) v := fun _ _ _ _ _ a w ha _ => by
  rw [execOp_call_go]
  have : (#[] ++ xs.toArray.map a.eval ++ #[] : Array Value) = vs.toArray := by simp [evs_map ha xs vs hx]
  rw [this, run_callFunc_extern hf hname hb hn he, hv w]
  rfl

/-! ### two structs are compared -/
def eqG (P : Program) (eqT : TypeId → List Value → List Value → Option (List Bool)) (xs ys : List Value) : List Field → Option (List Bool)
  | [] => some []
  | f :: fs => match f.name == "_" with
    | true => none
    | false => match P.info? f.type with
      | some i => match subl xs f.offset i.size with
        | some a => match subl ys f.offset i.size with
          | some b => match eqT f.type a b with
            | some r => match eqG P eqT xs ys fs with
              | some q => some (r ++ q)
              | none => none
            | none => none
          | none => none
        | none => none
      | none => none
def eqS (P : Program) : Nat → TypeId → List Value → List Value → Option (List Bool)
  | 0, _, _, _ => none
  | d + 1, t, xs, ys => match P.underlying t with
    | some (.struct fs) => eqG P (eqS P d) xs ys fs.toList
    | some .bool => match xs, ys with
      | [.bool a], [.bool b] => some [a == b]
      | _, _ => none
    | some .string => match xs, ys with
      | [.string a], [.string b] => some [decide (a = b)]
      | _, _ => none
    | some (.int _) => match xs, ys with
      | [.int k a], [.int k' b] => match decide (k = k') with
        | true => some [decide (a = b)]
        | false => none
      | _, _ => none
    | _ => none
def eqM (P : Program) (t : TypeId) (xs ys : List Value) : Option (List Bool) := match eqS P 6 t xs ys with
  | some l => flat l
  | none => none


/-- no struct of it is laid out by another's hand -/
def freeF (rec : TypeId → Bool) : List Field → Bool
  | [] => true
  | f :: fs => rec f.type && freeF rec fs
def freeB (P : Program) : Nat → TypeId → Bool
  | 0, _ => false
  | d + 1, t => match P.underlying t with
    | some (.struct fs) => !P.stoodInHeld t && freeF (freeB P d) fs.toList
    | _ => true
theorem eqS_run : ∀ (d e : Nat) (t : TypeId) (xs ys : List Value) (r : List Bool) (w : World), freeB P d t = true → eqS P d t xs ys = some r →
    (isAggB P t = some true ∧ (Op.equalIn (d + e) t (.agg xs.toArray) (.agg ys.toArray)).run P w = .ok (andL r) w) ∨
    (isAggB P t = some false ∧ ∃ x y, xs = [x] ∧ ys = [y] ∧ (Op.equalIn (d + e) t x y).run P w = .ok (andL r) w)
  | 0, _, _, _, _, _, _, h, _ => by cases h
  | d + 1, e, t, xs, ys, r, w, hfree, h => by
    have ih := eqS_run d e
    rw [show d + 1 + e = (d + e) + 1 by omega]
    unfold eqS at h
    unfold freeB at hfree
    cases hu : P.underlying t with
    | none => rw [hu] at h; cases h
    | some u =>
      rw [hu] at h hfree
      cases u <;> simp only at h hfree <;> try (cases h; done)
      case bool =>
        split at h
        · rename_i a b
          cases h
          refine .inr ⟨by simp [isAggB, hu], _, _, rfl, rfl, ?_⟩
          simp [Op.equalIn, run_underlying hu, andL]
        · cases h
      case string =>
        split at h
        · rename_i a b
          cases h
          refine .inr ⟨by simp [isAggB, hu], _, _, rfl, rfl, ?_⟩
          have : (a == b) = decide (a = b) := by rw [beq_toListBytes, str_eq]
          simp [Op.equalIn, run_underlying hu, andL, this]
        · cases h
      case int kk =>
        split at h
        · rename_i k a k' b
          by_cases hk : k = k'
          · subst hk
            simp only [decide_true] at h
            cases h
            refine .inr ⟨by simp [isAggB, hu], _, _, rfl, rfl, ?_⟩
            have : (a == b) = decide (a = b) := rfl
            simp [Op.equalIn, run_underlying hu, andL, this]
          · simp only [decide_eq_false hk] at h
            cases h
        · cases h
      case struct fs =>
        rw [Bool.and_eq_true] at hfree
        obtain ⟨hp0, hfr⟩ := hfree
        cases hp : P.stoodInHeld t with
        | true => rw [hp] at hp0; cases hp0
        | false =>
          refine .inl ⟨by simp [isAggB, hu], ?_⟩
          have hfo : P.fieldsOf t = fs := by simp [Program.fieldsOf, hu]
          rw [run_equalIn_struct w (d + e) t _ _ (by rw [hfo]; exact hu) hp, hfo]
          generalize fs.toList = l at h hfr
          clear hfo hu
          induction l generalizing r with
          | nil => cases h; rfl
          | cons f l ihl =>
            unfold eqG at h
            unfold freeF at hfr
            rw [Bool.and_eq_true] at hfr
            cases hn : f.name == "_" with
            | true => rw [hn] at h; cases h
            | false =>
              rw [hn] at h
              simp only at h
              have hn' : f.name ≠ "_" := by simpa using hn
              cases hi : P.info? f.type with
              | none => rw [hi] at h; cases h
              | some i =>
                rw [hi] at h
                simp only at h
                cases h1 : subl xs f.offset i.size with
                | none => rw [h1] at h; cases h
                | some a =>
                  cases h2 : subl ys f.offset i.size with
                  | none => rw [h1, h2] at h; cases h
                  | some b =>
                    rw [h1, h2] at h
                    simp only at h
                    cases h3 : eqS P d f.type a b with
                    | none => rw [h3] at h; cases h
                    | some q =>
                      rw [h3] at h
                      simp only at h
                      cases h4 : eqG P (eqS P d) xs ys l with
                      | none => rw [h4] at h; cases h
                      | some q2 =>
                        rw [h4] at h
                        cases h
                        have hr := ihl q2 h4 hfr.2
                        unfold Op.eqFields
                        rw [if_pos hn', andL_append]
                        rcases ih f.type a b q w hfr.1 h3 with ⟨hb, hq⟩ | ⟨hb, x, y, rfl, rfl, hq⟩
                        · have p1 := run_part hb hi h1 undef (fun e => by cases e) w
                          have p2 := run_part hb hi h2 undef (fun e => by cases e) w
                          simp only [if_true] at p1 p2
                          simp only [Sem.run_bind, p1, p2, hq, Result.andThen]
                          cases andL q with
                          | true => simpa using hr
                          | false => simp
                        · have p1 := run_part hb hi h1 x (fun _ => rfl) w
                          have p2 := run_part hb hi h2 y (fun _ => rfl) w
                          simp only [Bool.false_eq_true, if_false] at p1 p2
                          simp only [Sem.run_bind, p1, p2, hq, Result.andThen]
                          cases andL q with
                          | true => simpa using hr
                          | false => simp

theorem run_agg_equal2 {t : TypeId} {xs ys : List Value} {bs : List Bool} (hb : isAggB P t = some true) (hn : freeB P 6 t = true) (h : eqM P t xs ys = some bs) (w : World) : (Op.equal t (.agg xs.toArray) (.agg ys.toArray)).run P w = .ok (andL bs) w := by
  unfold eqM at h
  cases h1 : eqS P 6 t xs ys with
  | none => rw [h1] at h; cases h
  | some l =>
    rw [h1] at h
    have := flat_eq _ _ h
    subst this
    unfold Op.equal
    rcases eqS_run 6 9994 t xs ys bs w hn h1 with ⟨_, h2⟩ | ⟨h2, _⟩
    · exact h2
    · rw [hb] at h2; cases h2
theorem pr_aggeq2 {x y : Operand} {t u : TypeId} {xs ys : List Value} {bs : List Bool} (hx : ev F x = some (.agg xs.toArray)) (hy : ev F y = some (.agg ys.toArray)) (hb : isAggB P t = some true) (hg : P.eqGuardType P.depth t = false) (hn : freeB P 6 t = true) (h : eqM P t xs ys = some bs) : PR P n F C (.binOp .eql t x y u) (.bool (andL bs)) :=
  pr_eql_of hx hy (run_agg_guard hg .eql (.inl rfl)) rfl (fun w _ => run_agg_equal2 hb hn h w)
theorem pr_aggne2 {x y : Operand} {t u : TypeId} {xs ys : List Value} {bs : List Bool} (hx : ev F x = some (.agg xs.toArray)) (hy : ev F y = some (.agg ys.toArray)) (hb : isAggB P t = some true) (hg : P.eqGuardType P.depth t = false) (hn : freeB P 6 t = true) (h : eqM P t xs ys = some bs) : PR P n F C (.binOp .neq t x y u) (.bool (!andL bs)) :=
  pr_neq_of hx hy (run_agg_guard hg .neq (.inr rfl)) rfl (fun w _ => run_agg_equal2 hb hn h w)

end
end Go.J
/- Places where the two ways of a condition of more parts meet (an 'and', an 'or'). -/
set_option linter.unusedSimpArgs false
set_option linter.unusedVariables false
set_option linter.unusedSectionVars false
set_option maxRecDepth 20000
namespace Go.J
open Go
/-- a region's end alone -/
def Fin (K : Act → World → Prop) : Exit → Act → World → Prop := fun e a w => e = .normal ∧ K a w
/-- a condition's value is known, and nothing else of the way to it -/
def JoinB (n : Nat) (w0 : World) (p : Prop) (t : Nat) (F0 : Fr) (m : Mem) (Rs : List Res) : Act → World → Prop := fun a w => ∃ b : Bool, (b = true ↔ p) ∧ HF n ((t, .bool b) :: F0) a ∧ HW w0 m Rs w
section
variable {P : Program} {n : Nat} {w0 : World} {F : Fr} {m : Mem} {Rs : List Res} {Q : Exit → Act → World → Prop} {K : Act → World → Prop}
theorem At.fin_n (h : At n w0 F m Rs K) : At n w0 F m Rs (Fin K .normal) := fun a w ha hw => ⟨rfl, h a w ha hw⟩
theorem At.cutp {id : Nat} {ops : Array Oper} {dr : Bool} {F0 : Fr} (p : Prop) [Decidable p] (t : Nat) (L : List Nat) (e0 : keepL L F = some F0)
    (hx : At n w0 F m Rs ((Code.region id ops dr).wp P (Fin (JoinB n w0 p t F0 m Rs))))
    (hy : At n w0 ((t, .bool (decide p)) :: F0) m Rs K) : At n w0 F m Rs ((Code.region id ops dr).wp P (Exit.then K Q)) := by
  have _ := e0
  refine fun a w ha hw => Code.wp_mono (fun e a' w' q => ?_) (hx a w ha hw)
  obtain ⟨rfl, b, hb, h1, h2⟩ := q
  have : b = decide p := by
    by_cases h : p
    · rw [decide_eq_true h]; exact hb.2 h
    · rw [decide_eq_false h]; cases b
      · rfl
      · exact absurd (hb.1 rfl) h
  subst this
  exact hy a' w' h1 h2
/-- where the ways of a region meet -/
theorem At.cutr {id : Nat} {ops : Array Oper} {dr : Bool} {σ : Type} {F0 : Fr} (L : List Nat) (upd : σ → Fr → Fr) (mx : σ → Mem) (Rx : σ → List Res) (I : σ → Prop) (e0 : keepL L F = some F0)
    (hx : At n w0 F m Rs ((Code.region id ops dr).wp P (Fin (fun a w => ∃ s, I s ∧ HF n (upd s F0) a ∧ HW w0 (mx s) (Rx s) w))))
    (hy : ∀ s, I s → At n w0 (upd s F0) (mx s) (Rx s) K) : At n w0 F m Rs ((Code.region id ops dr).wp P (Exit.then K Q)) := by
  have _ := e0
  refine fun a w ha hw => Code.wp_mono (fun e a' w' q => ?_) (hx a w ha hw)
  obtain ⟨rfl, s, hI, h1, h2⟩ := q
  exact hy s hI a' w' h1 h2
theorem At.endp {p : Prop} {t : Nat} {F0 : Fr} {m0 : Mem} {Rs0 : List Res} {b : Bool} (ht : look t F = some (.bool b)) (hs : Subs F0 F) (hm : m0.le m) (hR : Ent Rs Rs0) (hp : b = true ↔ p) : At n w0 F m Rs (JoinB n w0 p t F0 m0 Rs0) :=
  fun a w ha hw => ⟨b, hp, (ha.weaken (F' := (t, .bool b) :: F0) ⟨ht, hs⟩), (hw.ent hR).weak hm⟩
end
end Go.J
/- The walk's steps under short names: what closes of itself is filled in by default. -/
set_option linter.unusedSimpArgs false
set_option linter.unusedVariables false
set_option linter.unusedSectionVars false
set_option maxRecDepth 20000
namespace Go.J
open Go
theorem zhcs : (∀ (p : Prop) [Decidable p], (decide p = true) = p) ∧ (∀ (p : Prop) [Decidable p], (decide p = false) = ¬ p) ∧ (∀ b : Bool, ((!b) = true) = (b = false)) ∧ (∀ b : Bool, ((!b) = false) = (b = true)) ∧
    (∀ a b : Bool, ((a && b) = true) = (a = true ∧ b = true)) ∧ (∀ a b : Bool, ((a || b) = true) = (a = true ∨ b = true)) ∧ (∀ a b : Bool, ((a && b) = false) = (a = false ∨ b = false)) ∧ (∀ a b : Bool, ((a || b) = false) = (a = false ∧ b = false)) ∧
    (∀ a b : Bool, ((a != b) = true) = (a ≠ b)) ∧ (∀ a b : Bool, ((a == b) = true) = (a = b)) ∧ (∀ a b : Bool, ((a == b) = false) = (a ≠ b)) ∧ (∀ a b : Bool, ((a != b) = false) = (a = b)) ∧
    ((!true) = false) ∧ ((!false) = true) ∧ (∀ p : Prop, (¬ ¬ p) = p) ∧ ((¬ True) = False) ∧ ((¬ False) = True) ∧ ((false = true) = False) ∧ ((true = false) = False) ∧
    ((none : Option Addr).isNone = true) ∧ (∀ x : Addr, (some x).isNone = false) ∧ (∀ b : Bool, (b && true) = b) ∧ (∀ p : Prop, (p ∧ True) = p) ∧ (∀ (a : Bool) (l : List Bool), andL (a :: l) = (a && andL l)) ∧ (andL [] = true) :=
  ⟨fun _ _ => decide_eq_true_eq, fun _ _ => by simp, by decide, by decide, by decide, by decide, by decide, by decide, by decide, by decide, by decide, by decide, rfl, rfl, fun p => by rw [Classical.not_not], by simp, by simp, by simp, by simp, rfl, fun _ => rfl, by decide, fun p => by simp, fun _ _ => andL_cons .., andL_nil⟩
theorem zrf {α : Type} {a b : α} (h : a = b := by first | rfl | fail) : a = b := h
theorem zom {p : Prop} (h : p := by first | omega | (simp only [lns] <;> omega) | fail) : p := h
theorem zomb {p : Prop} (h : p := by first | omega | (simp only [IntKind.bits] <;> omega) | fail) : p := h
theorem zlq {p : Prop} (h : p := by first | exact rfl | omega | (simp only [lns] <;> omega) | fail) : p := h
theorem zinr {p : Prop} (h : p := by first | exact IntWalk.i64_in _ (by omega) | exact IntWalk.u64_in _ (by omega) | exact IntWalk.u8_in _ (by omega) | exact IntWalk.u32_in _ (by omega) | exact IntKind.wrap_u64 _ | exact IntKind.wrap_i64 _ | exact IntKind.wrap_u32 _ | exact IntKind.wrap_u8 _ | fail) : p := h
theorem ztk {A R Y : List Res} (h : Take A R Y := by (repeat' (first | exact Take.nil | ((with_reducible apply Take.cons); (focus ((repeat constructor); done)))))) : Take A R Y := h
theorem zkp {A R Y : List Res} (h : Keep A R Y := by (repeat' (first | exact Keep.nil | ((with_reducible apply Keep.cons); exact (by repeat constructor)) | (with_reducible apply Keep.skip)))) : Keep A R Y := h
theorem zlw {A R : List Res} (h : Low A R := by (repeat' (first | exact Low.base | ((with_reducible apply Low.cons); exact (by repeat constructor)) | (with_reducible apply Low.skip)))) : Low A R := h
theorem zlf {A R Y : List Res} (h : Left A R Y := by (repeat' (first | exact Left.base | ((with_reducible apply Left.cons); exact (by repeat constructor)) | (with_reducible apply Left.extra)))) : Left A R Y := h
theorem zml {m m' : Mem} (h : m.le m' := by first | exact Mem.le_refl _ | assumption | exact Mem.le_trans (by assumption) (by assumption) | (focus ((iterate 16 (first | done | assumption | refine Mem.le_trans ?_ (by assumption))); done)) | fail) : m.le m' := h
theorem zsubs {A B : Fr} (h : Subs A B := by first | exact trivial | (repeat' (first | exact trivial | refine ⟨rfl, ?_⟩ | refine ⟨look_int (by rfl) (by first | omega | (dsimp only; omega)), ?_⟩))) : Subs A B := h
theorem zente {A B : List Res} (h : Ent A B := by first | exact Ent.refl _ | (refine Low.ent ?_; exact zlw) | fail) : Ent A B := h
section
variable {α : Type} [Inhabited α] {f : α → List Value} {sz : Nat} {p : Option Addr} {c : Nat} {l : List α} {P : Program} {n : Nat} {F : Fr} {C : World → Prop} {op : Op} {v : Value} {m : Mem}
theorem zsla (h : Sl m f sz p c l := by first | assumption | exact Sl.mono (by assumption) (by assumption) | fail) : Sl m f sz p c l := h
theorem zrdb (h : Rdb C f sz p c l := by first | exact own_rdb inferInstance (by repeat constructor) | exact Sl.rdb zsla | fail) : Rdb C f sz p c l := h
theorem zpr0 (h : PR P n F C op v := by first | ((with_reducible first | apply pr_move | apply pr_assign | apply pr_extract | apply pr_nilCheck | apply pr_lss | apply pr_leq | apply pr_gtr | apply pr_geq | apply pr_eql | apply pr_neq | apply pr_not | apply pr_pick_t | apply pr_len_sl | apply pr_fieldAddr0 | apply pr_build | apply pr_field1 | apply pr_makeFunc | apply pr_and | apply pr_or | apply pr_xor | apply pr_andnot | apply pr_min | apply pr_max) <;> exact rfl) | ((with_reducible first | apply pr_pick_f | apply pr_beql | apply pr_bneq | apply pr_len_str | apply pr_fieldAddrL | apply pr_fieldN) <;> exact rfl) | ((with_reducible first | apply pr_peql | apply pr_pneq | apply pr_fieldAddr_at2) <;> exact rfl) | ((with_reducible first | apply pr_streq | apply pr_strne | apply pr_fieldAddr_at) <;> exact rfl) | ((with_reducible first | apply pr_add | apply pr_sub | apply pr_mul); exact rfl; exact rfl; (first | exact IntWalk.i64_in _ (by omega) | exact IntWalk.u64_in _ (by omega) | exact IntWalk.u8_in _ (by omega) | exact IntWalk.u32_in _ (by omega) | exact IntKind.wrap_u64 _ | exact IntKind.wrap_i64 _ | exact IntKind.wrap_u32 _ | exact IntKind.wrap_u8 _)) | ((with_reducible apply pr_quo); exact rfl; exact rfl; omega; (first | exact IntWalk.i64_quo _ _ (by omega) | exact IntWalk.u64_quo _ _ (by omega))) | ((with_reducible apply pr_rem); exact rfl; exact rfl; omega; exact IntWalk.rem_in _ _ (by omega)) | ((with_reducible apply pr_conv); exact ⟨_, rfl⟩; exact rfl; exact rfl; (first | exact IntWalk.i64_in _ (by omega) | exact IntWalk.u64_in _ (by omega) | exact IntWalk.u8_in _ (by omega) | exact IntWalk.u32_in _ (by omega) | exact IntKind.wrap_u64 _ | exact IntKind.wrap_i64 _ | exact IntKind.wrap_u32 _ | exact IntKind.wrap_u8 _)) | ((with_reducible apply pr_load_blk1); exact rfl; exact rfl; exact (by repeat constructor); exact rfl) | ((with_reducible apply pr_load_blkN); exact rfl; exact rfl; exact rfl; exact (by repeat constructor); exact rfl) | ((with_reducible first | apply pr_aggeq2 | apply pr_aggne2); exact rfl; exact rfl; exact rfl; kernel_rfl; kernel_rfl; exact rfl) | ((with_reducible first | apply pr_strindexn | apply pr_str_ln | apply pr_str_hn); exact rfl; exact rfl; exact rfl; (first | omega | (simp only [lns] <;> omega))) | ((with_reducible apply pr_str_lhn); exact rfl; exact rfl; exact rfl; exact rfl; (first | omega | (simp only [lns] <;> omega)); (first | omega | (simp only [lns] <;> omega))) | ((with_reducible first | apply pr_strindex | apply pr_str_l | apply pr_str_h); exact rfl; exact rfl; exact rfl; (first | omega | (simp only [lns] <;> omega)); (first | omega | (simp only [lns] <;> omega))) | ((with_reducible apply pr_str_lh); exact rfl; exact rfl; exact rfl; exact rfl; (first | omega | (simp only [lns] <;> omega)); (first | omega | (simp only [lns] <;> omega)); (first | omega | (simp only [lns] <;> omega))) | ((with_reducible apply pr_stradd); exact rfl; exact rfl; (first | omega | (simp only [lns] <;> omega))) | ((with_reducible apply pr_neg); exact rfl; (first | exact IntWalk.i64_in _ (by omega) | exact IntWalk.u64_in _ (by omega) | exact IntWalk.u8_in _ (by omega) | exact IntWalk.u32_in _ (by omega) | exact IntKind.wrap_u64 _ | exact IntKind.wrap_i64 _ | exact IntKind.wrap_u32 _ | exact IntKind.wrap_u8 _)) | ((with_reducible apply pr_shrv); exact rfl; exact rfl; (first | omega | (simp only [IntKind.bits] <;> omega)); (first | omega | (simp only [IntKind.bits] <;> omega)); ((try simp only [Int.reduceToNat, Int.reducePow, Nat.reducePow]); exact rfl)) | ((with_reducible apply pr_shlv); exact rfl; exact rfl; (first | omega | (simp only [IntKind.bits] <;> omega)); (first | omega | (simp only [IntKind.bits] <;> omega)); ((try simp only [Int.reduceToNat, Int.reducePow]); (first | exact IntWalk.i64_in _ (by omega) | exact IntWalk.u64_in _ (by omega) | exact IntWalk.u8_in _ (by omega) | exact IntWalk.u32_in _ (by omega) | exact IntKind.wrap_u64 _ | exact IntKind.wrap_i64 _ | exact IntKind.wrap_u32 _ | exact IntKind.wrap_u8 _))) | fail) : PR P n F C op v := h
theorem zprO (h : PR P n F C op v := by first | ((with_reducible first | apply pr_move | apply pr_assign | apply pr_extract | apply pr_nilCheck | apply pr_lss | apply pr_leq | apply pr_gtr | apply pr_geq | apply pr_eql | apply pr_neq | apply pr_not | apply pr_pick_t | apply pr_len_sl | apply pr_fieldAddr0 | apply pr_build | apply pr_field1 | apply pr_makeFunc | apply pr_and | apply pr_or | apply pr_xor | apply pr_andnot | apply pr_minI | apply pr_maxI) <;> exact rfl) | ((with_reducible first | apply pr_pick_f | apply pr_beql | apply pr_bneq | apply pr_len_str | apply pr_fieldAddrL | apply pr_fieldN) <;> exact rfl) | ((with_reducible first | apply pr_peql | apply pr_pneq | apply pr_fieldAddr_at2) <;> exact rfl) | ((with_reducible first | apply pr_streq | apply pr_strne | apply pr_fieldAddr_at) <;> exact rfl) | ((with_reducible first | apply pr_add | apply pr_sub | apply pr_mul); exact rfl; exact rfl; (first | exact IntWalk.i64_in _ (by omega) | exact IntWalk.u64_in _ (by omega) | exact IntWalk.u8_in _ (by omega) | exact IntWalk.u32_in _ (by omega) | exact IntKind.wrap_u64 _ | exact IntKind.wrap_i64 _ | exact IntKind.wrap_u32 _ | exact IntKind.wrap_u8 _)) | ((with_reducible apply pr_quo); exact rfl; exact rfl; omega; (first | exact IntWalk.i64_quo _ _ (by omega) | exact IntWalk.u64_quo _ _ (by omega))) | ((with_reducible apply pr_rem); exact rfl; exact rfl; omega; exact IntWalk.rem_in _ _ (by omega)) | ((with_reducible apply pr_conv); exact ⟨_, rfl⟩; exact rfl; exact rfl; (first | exact IntWalk.i64_in _ (by omega) | exact IntWalk.u64_in _ (by omega) | exact IntWalk.u8_in _ (by omega) | exact IntWalk.u32_in _ (by omega) | exact IntKind.wrap_u64 _ | exact IntKind.wrap_i64 _ | exact IntKind.wrap_u32 _ | exact IntKind.wrap_u8 _)) | ((with_reducible apply pr_load_blk1); exact rfl; exact rfl; exact (by repeat constructor); exact rfl) | ((with_reducible apply pr_load_blkN); exact rfl; exact rfl; exact rfl; exact (by repeat constructor); exact rfl) | exact pr_index_own zrf zrf (by repeat constructor) inferInstance zrf zrf zlq zom | exact pr_load_own1 zrf (by repeat constructor) inferInstance zom zrf zrf | exact pr_load_ownN zrf (by repeat constructor) inferInstance zom zrf zrf zrf | exact pr_load_ownf zrf (by repeat constructor) inferInstance zom zrf zrf zrf | exact pr_load_ownfN zrf (by repeat constructor) inferInstance zom zrf zrf zrf zrf | exact pr_index_owni zrf zrf (by repeat constructor) inferInstance zrf zrf zlq zom zom | exact pr_slice_gl zrf zrf (own_le (by repeat constructor)) zrf zrf zom | exact pr_slice_gh zrf zrf (own_le (by repeat constructor)) zrf zrf zom | exact pr_slice_glh zrf zrf zrf (own_le (by repeat constructor)) zrf zrf zom zom | exact pr_slice_gli zrf zrf (own_le (by repeat constructor)) zrf zrf zom zom | exact pr_slice_ghi zrf zrf (own_le (by repeat constructor)) zrf zrf zom zom | exact pr_slice_glhi zrf zrf zrf (own_le (by repeat constructor)) zrf zrf zom zom zom | ((with_reducible first | apply pr_aggeq2 | apply pr_aggne2); exact rfl; exact rfl; exact rfl; kernel_rfl; kernel_rfl; exact rfl) | ((with_reducible first | apply pr_strindexn | apply pr_str_ln | apply pr_str_hn); exact rfl; exact rfl; exact rfl; (first | omega | (simp only [lns] <;> omega))) | ((with_reducible apply pr_str_lhn); exact rfl; exact rfl; exact rfl; exact rfl; (first | omega | (simp only [lns] <;> omega)); (first | omega | (simp only [lns] <;> omega))) | ((with_reducible first | apply pr_strindex | apply pr_str_l | apply pr_str_h); exact rfl; exact rfl; exact rfl; (first | omega | (simp only [lns] <;> omega)); (first | omega | (simp only [lns] <;> omega))) | ((with_reducible apply pr_str_lh); exact rfl; exact rfl; exact rfl; exact rfl; (first | omega | (simp only [lns] <;> omega)); (first | omega | (simp only [lns] <;> omega)); (first | omega | (simp only [lns] <;> omega))) | ((with_reducible apply pr_stradd); exact rfl; exact rfl; (first | omega | (simp only [lns] <;> omega))) | ((with_reducible apply pr_neg); exact rfl; (first | exact IntWalk.i64_in _ (by omega) | exact IntWalk.u64_in _ (by omega) | exact IntWalk.u8_in _ (by omega) | exact IntWalk.u32_in _ (by omega) | exact IntKind.wrap_u64 _ | exact IntKind.wrap_i64 _ | exact IntKind.wrap_u32 _ | exact IntKind.wrap_u8 _)) | ((with_reducible apply pr_shrv); exact rfl; exact rfl; (first | omega | (simp only [IntKind.bits] <;> omega)); (first | omega | (simp only [IntKind.bits] <;> omega)); ((try simp only [Int.reduceToNat, Int.reducePow, Nat.reducePow]); exact rfl)) | ((with_reducible apply pr_shlv); exact rfl; exact rfl; (first | omega | (simp only [IntKind.bits] <;> omega)); (first | omega | (simp only [IntKind.bits] <;> omega)); ((try simp only [Int.reduceToNat, Int.reducePow]); (first | exact IntWalk.i64_in _ (by omega) | exact IntWalk.u64_in _ (by omega) | exact IntWalk.u8_in _ (by omega) | exact IntWalk.u32_in _ (by omega) | exact IntKind.wrap_u64 _ | exact IntKind.wrap_i64 _ | exact IntKind.wrap_u32 _ | exact IntKind.wrap_u8 _))) | exact pr_bytes_str zrf zrf zrf zrf zrdb zlq | fail) : PR P n F C op v := h
theorem zprM (h : PR P n F C op v := by first | ((with_reducible first | apply pr_move | apply pr_assign | apply pr_extract | apply pr_nilCheck | apply pr_lss | apply pr_leq | apply pr_gtr | apply pr_geq | apply pr_eql | apply pr_neq | apply pr_not | apply pr_pick_t | apply pr_len_sl | apply pr_fieldAddr0 | apply pr_build | apply pr_field1 | apply pr_makeFunc | apply pr_and | apply pr_or | apply pr_xor | apply pr_andnot | apply pr_minI | apply pr_maxI) <;> exact rfl) | ((with_reducible first | apply pr_pick_f | apply pr_beql | apply pr_bneq | apply pr_len_str | apply pr_fieldAddrL | apply pr_fieldN) <;> exact rfl) | ((with_reducible first | apply pr_peql | apply pr_pneq | apply pr_fieldAddr_at2) <;> exact rfl) | ((with_reducible first | apply pr_streq | apply pr_strne | apply pr_fieldAddr_at) <;> exact rfl) | ((with_reducible first | apply pr_add | apply pr_sub | apply pr_mul); exact rfl; exact rfl; (first | exact IntWalk.i64_in _ (by omega) | exact IntWalk.u64_in _ (by omega) | exact IntWalk.u8_in _ (by omega) | exact IntWalk.u32_in _ (by omega) | exact IntKind.wrap_u64 _ | exact IntKind.wrap_i64 _ | exact IntKind.wrap_u32 _ | exact IntKind.wrap_u8 _)) | ((with_reducible apply pr_quo); exact rfl; exact rfl; omega; (first | exact IntWalk.i64_quo _ _ (by omega) | exact IntWalk.u64_quo _ _ (by omega))) | ((with_reducible apply pr_rem); exact rfl; exact rfl; omega; exact IntWalk.rem_in _ _ (by omega)) | ((with_reducible apply pr_conv); exact ⟨_, rfl⟩; exact rfl; exact rfl; (first | exact IntWalk.i64_in _ (by omega) | exact IntWalk.u64_in _ (by omega) | exact IntWalk.u8_in _ (by omega) | exact IntWalk.u32_in _ (by omega) | exact IntKind.wrap_u64 _ | exact IntKind.wrap_i64 _ | exact IntKind.wrap_u32 _ | exact IntKind.wrap_u8 _)) | ((with_reducible apply pr_load_blk1); exact rfl; exact rfl; exact (by repeat constructor); exact rfl) | ((with_reducible apply pr_load_blkN); exact rfl; exact rfl; exact rfl; exact (by repeat constructor); exact rfl) | exact pr_index_mem zrf zrf zsla zrf zrf zlq zom | exact pr_index_memi zrf zrf zsla zrf zrf zlq zom zom | exact pr_load_meme1 zrf zsla zom zrf zrf | exact pr_load_memeN zrf zsla zom zrf zrf zrf | exact pr_load_memef zrf zsla zom zrf zrf zrf | exact pr_load_memefN zrf zsla zom zrf zrf zrf zrf | exact pr_slice_gl zrf zrf (mem_le zsla) zrf zrf zom | exact pr_slice_gh zrf zrf (mem_le zsla) zrf zrf zom | exact pr_slice_glh zrf zrf zrf (mem_le zsla) zrf zrf zom zom | exact pr_slice_gli zrf zrf (mem_le zsla) zrf zrf zom zom | exact pr_slice_ghi zrf zrf (mem_le zsla) zrf zrf zom zom | exact pr_slice_glhi zrf zrf zrf (mem_le zsla) zrf zrf zom zom zom | ((with_reducible first | apply pr_aggeq2 | apply pr_aggne2); exact rfl; exact rfl; exact rfl; kernel_rfl; kernel_rfl; exact rfl) | ((with_reducible first | apply pr_strindexn | apply pr_str_ln | apply pr_str_hn); exact rfl; exact rfl; exact rfl; (first | omega | (simp only [lns] <;> omega))) | ((with_reducible apply pr_str_lhn); exact rfl; exact rfl; exact rfl; exact rfl; (first | omega | (simp only [lns] <;> omega)); (first | omega | (simp only [lns] <;> omega))) | ((with_reducible first | apply pr_strindex | apply pr_str_l | apply pr_str_h); exact rfl; exact rfl; exact rfl; (first | omega | (simp only [lns] <;> omega)); (first | omega | (simp only [lns] <;> omega))) | ((with_reducible apply pr_str_lh); exact rfl; exact rfl; exact rfl; exact rfl; (first | omega | (simp only [lns] <;> omega)); (first | omega | (simp only [lns] <;> omega)); (first | omega | (simp only [lns] <;> omega))) | ((with_reducible apply pr_stradd); exact rfl; exact rfl; (first | omega | (simp only [lns] <;> omega))) | ((with_reducible apply pr_neg); exact rfl; (first | exact IntWalk.i64_in _ (by omega) | exact IntWalk.u64_in _ (by omega) | exact IntWalk.u8_in _ (by omega) | exact IntWalk.u32_in _ (by omega) | exact IntKind.wrap_u64 _ | exact IntKind.wrap_i64 _ | exact IntKind.wrap_u32 _ | exact IntKind.wrap_u8 _)) | ((with_reducible apply pr_shrv); exact rfl; exact rfl; (first | omega | (simp only [IntKind.bits] <;> omega)); (first | omega | (simp only [IntKind.bits] <;> omega)); ((try simp only [Int.reduceToNat, Int.reducePow, Nat.reducePow]); exact rfl)) | ((with_reducible apply pr_shlv); exact rfl; exact rfl; (first | omega | (simp only [IntKind.bits] <;> omega)); (first | omega | (simp only [IntKind.bits] <;> omega)); ((try simp only [Int.reduceToNat, Int.reducePow]); (first | exact IntWalk.i64_in _ (by omega) | exact IntWalk.u64_in _ (by omega) | exact IntWalk.u8_in _ (by omega) | exact IntWalk.u32_in _ (by omega) | exact IntKind.wrap_u64 _ | exact IntKind.wrap_i64 _ | exact IntKind.wrap_u32 _ | exact IntKind.wrap_u8 _))) | exact pr_bytes_str zrf zrf zrf zrf zrdb zlq | fail) : PR P n F C op v := h
theorem zprOM (h : PR P n F C op v := by first | ((with_reducible first | apply pr_move | apply pr_assign | apply pr_extract | apply pr_nilCheck | apply pr_lss | apply pr_leq | apply pr_gtr | apply pr_geq | apply pr_eql | apply pr_neq | apply pr_not | apply pr_pick_t | apply pr_len_sl | apply pr_fieldAddr0 | apply pr_build | apply pr_field1 | apply pr_makeFunc | apply pr_and | apply pr_or | apply pr_xor | apply pr_andnot | apply pr_minI | apply pr_maxI) <;> exact rfl) | ((with_reducible first | apply pr_pick_f | apply pr_beql | apply pr_bneq | apply pr_len_str | apply pr_fieldAddrL | apply pr_fieldN) <;> exact rfl) | ((with_reducible first | apply pr_peql | apply pr_pneq | apply pr_fieldAddr_at2) <;> exact rfl) | ((with_reducible first | apply pr_streq | apply pr_strne | apply pr_fieldAddr_at) <;> exact rfl) | ((with_reducible first | apply pr_add | apply pr_sub | apply pr_mul); exact rfl; exact rfl; (first | exact IntWalk.i64_in _ (by omega) | exact IntWalk.u64_in _ (by omega) | exact IntWalk.u8_in _ (by omega) | exact IntWalk.u32_in _ (by omega) | exact IntKind.wrap_u64 _ | exact IntKind.wrap_i64 _ | exact IntKind.wrap_u32 _ | exact IntKind.wrap_u8 _)) | ((with_reducible apply pr_quo); exact rfl; exact rfl; omega; (first | exact IntWalk.i64_quo _ _ (by omega) | exact IntWalk.u64_quo _ _ (by omega))) | ((with_reducible apply pr_rem); exact rfl; exact rfl; omega; exact IntWalk.rem_in _ _ (by omega)) | ((with_reducible apply pr_conv); exact ⟨_, rfl⟩; exact rfl; exact rfl; (first | exact IntWalk.i64_in _ (by omega) | exact IntWalk.u64_in _ (by omega) | exact IntWalk.u8_in _ (by omega) | exact IntWalk.u32_in _ (by omega) | exact IntKind.wrap_u64 _ | exact IntKind.wrap_i64 _ | exact IntKind.wrap_u32 _ | exact IntKind.wrap_u8 _)) | ((with_reducible apply pr_load_blk1); exact rfl; exact rfl; exact (by repeat constructor); exact rfl) | ((with_reducible apply pr_load_blkN); exact rfl; exact rfl; exact rfl; exact (by repeat constructor); exact rfl) | exact pr_index_own zrf zrf (by repeat constructor) inferInstance zrf zrf zlq zom | exact pr_load_own1 zrf (by repeat constructor) inferInstance zom zrf zrf | exact pr_load_ownN zrf (by repeat constructor) inferInstance zom zrf zrf zrf | exact pr_load_ownf zrf (by repeat constructor) inferInstance zom zrf zrf zrf | exact pr_load_ownfN zrf (by repeat constructor) inferInstance zom zrf zrf zrf zrf | exact pr_index_owni zrf zrf (by repeat constructor) inferInstance zrf zrf zlq zom zom | exact pr_slice_gl zrf zrf (own_le (by repeat constructor)) zrf zrf zom | exact pr_slice_gh zrf zrf (own_le (by repeat constructor)) zrf zrf zom | exact pr_slice_glh zrf zrf zrf (own_le (by repeat constructor)) zrf zrf zom zom | exact pr_slice_gli zrf zrf (own_le (by repeat constructor)) zrf zrf zom zom | exact pr_slice_ghi zrf zrf (own_le (by repeat constructor)) zrf zrf zom zom | exact pr_slice_glhi zrf zrf zrf (own_le (by repeat constructor)) zrf zrf zom zom zom | exact pr_index_mem zrf zrf zsla zrf zrf zlq zom | exact pr_index_memi zrf zrf zsla zrf zrf zlq zom zom | exact pr_load_meme1 zrf zsla zom zrf zrf | exact pr_load_memeN zrf zsla zom zrf zrf zrf | exact pr_load_memef zrf zsla zom zrf zrf zrf | exact pr_load_memefN zrf zsla zom zrf zrf zrf zrf | exact pr_slice_gl zrf zrf (mem_le zsla) zrf zrf zom | exact pr_slice_gh zrf zrf (mem_le zsla) zrf zrf zom | exact pr_slice_glh zrf zrf zrf (mem_le zsla) zrf zrf zom zom | exact pr_slice_gli zrf zrf (mem_le zsla) zrf zrf zom zom | exact pr_slice_ghi zrf zrf (mem_le zsla) zrf zrf zom zom | exact pr_slice_glhi zrf zrf zrf (mem_le zsla) zrf zrf zom zom zom | ((with_reducible first | apply pr_aggeq2 | apply pr_aggne2); exact rfl; exact rfl; exact rfl; kernel_rfl; kernel_rfl; exact rfl) | ((with_reducible first | apply pr_strindexn | apply pr_str_ln | apply pr_str_hn); exact rfl; exact rfl; exact rfl; (first | omega | (simp only [lns] <;> omega))) | ((with_reducible apply pr_str_lhn); exact rfl; exact rfl; exact rfl; exact rfl; (first | omega | (simp only [lns] <;> omega)); (first | omega | (simp only [lns] <;> omega))) | ((with_reducible first | apply pr_strindex | apply pr_str_l | apply pr_str_h); exact rfl; exact rfl; exact rfl; (first | omega | (simp only [lns] <;> omega)); (first | omega | (simp only [lns] <;> omega))) | ((with_reducible apply pr_str_lh); exact rfl; exact rfl; exact rfl; exact rfl; (first | omega | (simp only [lns] <;> omega)); (first | omega | (simp only [lns] <;> omega)); (first | omega | (simp only [lns] <;> omega))) | ((with_reducible apply pr_stradd); exact rfl; exact rfl; (first | omega | (simp only [lns] <;> omega))) | ((with_reducible apply pr_neg); exact rfl; (first | exact IntWalk.i64_in _ (by omega) | exact IntWalk.u64_in _ (by omega) | exact IntWalk.u8_in _ (by omega) | exact IntWalk.u32_in _ (by omega) | exact IntKind.wrap_u64 _ | exact IntKind.wrap_i64 _ | exact IntKind.wrap_u32 _ | exact IntKind.wrap_u8 _)) | ((with_reducible apply pr_shrv); exact rfl; exact rfl; (first | omega | (simp only [IntKind.bits] <;> omega)); (first | omega | (simp only [IntKind.bits] <;> omega)); ((try simp only [Int.reduceToNat, Int.reducePow, Nat.reducePow]); exact rfl)) | ((with_reducible apply pr_shlv); exact rfl; exact rfl; (first | omega | (simp only [IntKind.bits] <;> omega)); (first | omega | (simp only [IntKind.bits] <;> omega)); ((try simp only [Int.reduceToNat, Int.reducePow]); (first | exact IntWalk.i64_in _ (by omega) | exact IntWalk.u64_in _ (by omega) | exact IntWalk.u8_in _ (by omega) | exact IntWalk.u32_in _ (by omega) | exact IntKind.wrap_u64 _ | exact IntKind.wrap_i64 _ | exact IntKind.wrap_u32 _ | exact IntKind.wrap_u8 _))) | exact pr_bytes_str zrf zrf zrf zrf zrdb zlq | fail) : PR P n F C op v := h
theorem zprA (h : PR P n F C op v := by first | exact pr_indexArr1 zrf zrf zrf zrf zom | exact pr_indexArr1i zrf zrf zrf zrf zom zom | exact pr_loadA zrf (by repeat constructor) zrf zrf zlq | exact pr_load_arr zrf (by repeat constructor) zrf zom | ((with_reducible first | apply pr_aggeq2 | apply pr_aggne2); exact rfl; exact rfl; exact rfl; kernel_rfl; kernel_rfl; exact rfl) | fail) : PR P n F C op v := h
end
/-- what is left, so that nothing takes it for a fact -/
structure Wr (G : Prop) : Prop where
  out : G
section
variable {G G' G1 G2 : Prop}
theorem zss (k : G') (h : Wr G' → G := by intro k; first | ((with_reducible first | apply At.seq | apply At.nil | apply At.then_n | apply At.then_e | apply At.then_r | apply At.inb_n | apply At.inb_r | apply At.inb_here | apply At.block | apply At.skip | apply At.exit | apply At.ret | apply At.scope | apply At.label | apply At.nog_n | apply At.nog_r | apply At.nog_e | apply At.fin_n | apply AtQ.nil | apply At.app0 | apply At.app1 | apply At.app2 | apply At.app3 | apply At.app4 | apply At.app5 | apply At.app6 | apply At.app7); exact k.1) | ((with_reducible first | apply At.inb_past | apply At.regionf); exact rfl; exact k.1) | ((with_reducible apply At.quiet); exact rfl; kernel_rfl; kernel_rfl; exact k.1) | ((with_reducible apply At.storeB); exact rfl; exact rfl; exact rfl; exact rfl; exact rfl; exact rfl; exact (by repeat constructor); exact rfl; exact k.1) | ((with_reducible first | apply AtQ.guard_y | apply At.guard_y); exact rfl; exact rfl; exact rfl; exact k.1) | ((with_reducible first | apply AtQ.guard_nt | apply At.guard_nt); exact rfl; exact rfl; exact rfl; exact k.1) | ((with_reducible first | apply AtQ.guard_nf | apply At.guard_nf); exact rfl; exact rfl; exact rfl; exact k.1) | ((with_reducible first | apply AtQ.guard_nu | apply At.guard_nu); exact rfl; exact rfl; exact rfl; exact k.1) | ((with_reducible first | apply At.cond_t | apply At.cond_f); exact rfl; exact k.1) | ((with_reducible apply At.cond_f); exact rfl; exact k.1) | fail) : G := h ⟨k⟩
theorem zsx (k : G') (h : Wr G' → G := by intro k; first | ((with_reducible apply At.back); exact zlf; exact zml; exact k.1) | ((with_reducible apply At.backX); exact k.1) | ((with_reducible first | apply AtM.qo | apply AtM.done); exact rfl; exact k.1) | ((with_reducible apply AtM.done); exact rfl; exact k.1) | ((with_reducible first | apply AtM.xo | apply AtM.lo); exact rfl; exact rfl; exact k.1) | ((with_reducible first | apply AtQ.guard_y | apply At.guard_y | apply AtM1.guard_y); exact rfl; exact rfl; exact rfl; exact k.1) | ((with_reducible first | apply AtQ.guard_nt | apply At.guard_nt | apply AtM1.guard_nt); exact rfl; exact rfl; exact rfl; exact k.1) | ((with_reducible first | apply AtQ.guard_nf | apply At.guard_nf | apply AtM1.guard_nf); exact rfl; exact rfl; exact rfl; exact k.1) | ((with_reducible first | apply AtQ.guard_nu | apply At.guard_nu | apply AtM1.guard_nu); exact rfl; exact rfl; exact rfl; exact k.1) | fail) : G := h ⟨k⟩
theorem zs0 (k : G') (h : Wr G' → G := by intro k; ((with_reducible first | apply At.val | apply AtQ.val); exact zpr0; exact rfl; exact k.1)) : G := h ⟨k⟩
theorem zsO (k : G') (h : Wr G' → G := by intro k; ((with_reducible first | apply At.val | apply AtQ.val); exact zprO; exact rfl; exact k.1)) : G := h ⟨k⟩
theorem zsM (k : G') (h : Wr G' → G := by intro k; ((with_reducible first | apply At.val | apply AtQ.val); exact zprM; exact rfl; exact k.1)) : G := h ⟨k⟩
theorem zsOM (k : G') (h : Wr G' → G := by intro k; ((with_reducible first | apply At.val | apply AtQ.val); exact zprOM; exact rfl; exact k.1)) : G := h ⟨k⟩
theorem zx0 (k : G') (h : Wr G' → G := by intro k; first | ((with_reducible first | apply AtM1.valz | apply AtM1.val); exact rfl; exact zpr0; exact rfl; exact k.1) | ((with_reducible apply AtM1.val); exact rfl; exact zpr0; exact rfl; exact k.1) | fail) : G := h ⟨k⟩
theorem zxO (k : G') (h : Wr G' → G := by intro k; first | ((with_reducible first | apply AtM1.valz | apply AtM1.val); exact rfl; exact zprO; exact rfl; exact k.1) | ((with_reducible apply AtM1.val); exact rfl; exact zprO; exact rfl; exact k.1) | fail) : G := h ⟨k⟩
theorem zxM (k : G') (h : Wr G' → G := by intro k; first | ((with_reducible first | apply AtM1.valz | apply AtM1.val); exact rfl; exact zprM; exact rfl; exact k.1) | ((with_reducible apply AtM1.val); exact rfl; exact zprM; exact rfl; exact k.1) | fail) : G := h ⟨k⟩
theorem zxOM (k : G') (h : Wr G' → G := by intro k; first | ((with_reducible first | apply AtM1.valz | apply AtM1.val); exact rfl; exact zprOM; exact rfl; exact k.1) | ((with_reducible apply AtM1.val); exact rfl; exact zprOM; exact rfl; exact k.1) | fail) : G := h ⟨k⟩
theorem zsp (k1 : G1) (k2 : G2) (h : G1 → G2 → G := by intro k1 k2; first | ((with_reducible apply At.cond); exact rfl; exact k1; exact k2) | ((with_reducible first | apply At.guard_s | apply AtQ.guard_s | apply AtM1.guard_s); exact rfl; exact rfl; exact k1; exact k2) | fail) : G := h k1 k2
end
section
variable {P : Program} {n : Nat} {w0 : World} {F : Fr} {m : Mem} {Rs : List Res} {Q : Exit → Act → World → Prop} {K : Act → World → Prop}
theorem At.c1 {d : Nat} {ops : Array Oper} {rest : List Oper} {g : FuncId} {xs : List Operand} {ts : Array TypeId} {ty : TypeId} {pos : String} {aft : Array Edge} {vs : List Value} {A Rest : List Res} {R : Value → Mem → List Res → Prop}
    (hx : evs F xs = some vs) (hd : Nat.blt d n = true) (hc : Ct P g vs.toArray m A R) (hA : Take A Rs Rest) (hg : goFn P g = true)
    (h : ∀ v m' B, m.le m' → R v m' B → At n w0 ((d, v) :: F) m' (B ++ Rest) (wpList P ops Q rest)) :
    At n w0 F m Rs (wpList P ops Q (⟨some d, .call ⟨.value (.func g), xs.toArray, ts⟩, ty, pos, aft, none⟩ :: rest)) := At.callt1 hg hx hd hc hA h
theorem At.c0 {ops : Array Oper} {rest : List Oper} {g : FuncId} {xs : List Operand} {ts : Array TypeId} {ty : TypeId} {pos : String} {aft : Array Edge} {vs : List Value} {A Rest : List Res} {R : Value → Mem → List Res → Prop}
    (hx : evs F xs = some vs) (hd : n = n) (hc : Ct P g vs.toArray m A R) (hA : Take A Rs Rest) (hg : goFn P g = true)
    (h : ∀ v m' B, m.le m' → R v m' B → At n w0 F m' (B ++ Rest) (wpList P ops Q rest)) :
    At n w0 F m Rs (wpList P ops Q (⟨none, .call ⟨.value (.func g), xs.toArray, ts⟩, ty, pos, aft, none⟩ :: rest)) := At.callt0 hg hx hc hA h
theorem At.cr {ops : Array Oper} {rest : List Oper} {d : Nat} {g : FuncId} {xs : List Operand} {ts : Array TypeId} {ty : TypeId} {pos : String} {aft : Array Edge} {vs : List Value} {V : Value} {A Y : List Res}
    (hx : evs F xs = some vs) (hd : Nat.blt d n = true) (hc : ∀ m', m.le m' → Rd P g vs.toArray m' A V) (hA : Take A Rs Y) (hg : goFn P g = true)
    (h : At n w0 ((d, V) :: F) m Rs (wpList P ops Q rest)) : At n w0 F m Rs (wpList P ops Q (⟨some d, .call ⟨.value (.func g), xs.toArray, ts⟩, ty, pos, aft, none⟩ :: rest)) := At.callr hg hx hd hc hA h
theorem AtQ.cr {ops : Array Oper} {rest : List Oper} {Qq : Act → Prop} {d : Nat} {g : FuncId} {xs : List Operand} {ts : Array TypeId} {ty : TypeId} {pos : String} {aft : Array Edge} {vs : List Value} {V : Value} {A Y : List Res}
    (hx : evs F xs = some vs) (hd : Nat.blt d n = true) (hc : ∀ m', m.le m' → Rd P g vs.toArray m' A V) (hA : Take A Rs Y) (hg : goFn P g = true)
    (h : AtQ P n ((d, V) :: F) (HW w0 m Rs) ops Qq rest) : AtQ P n F (HW w0 m Rs) ops Qq (⟨some d, .call ⟨.value (.func g), xs.toArray, ts⟩, ty, pos, aft, none⟩ :: rest) := AtQ.callr hg hx hd hc hA h
theorem AtM1.cr {X : List Res} {l : List Oper} {f : Nat} {s : Array Bool} {p : Plan} {d : Nat} {g : FuncId} {xs : List Operand} {ts : Array TypeId} {ty : TypeId} {pos : String} {aft : Array Edge} {vs : List Value} {V : Value} {A Y : List Res}
    (hx : evs F xs = some vs) (hd : Nat.blt d n = true) (hc : ∀ m', m.le m' → Rd P g vs.toArray m' A V) (hA : Take A Rs Y) (hg : goFn P g = true)
    (h : AtM P n w0 ((d, V) :: F) m Rs X K l f s p) : AtM1 P n w0 F m Rs X K l f s p ⟨some d, .call ⟨.value (.func g), xs.toArray, ts⟩, ty, pos, aft, none⟩ := AtM1.callr hg hx hd hc hA h
theorem At.apW {α : Type} [Inhabited α] {f : α → List Value} {sz : Nat} {E : TypeId} {p : Option Addr} {c : Nat} {l : List α} {Rs' : List Res} {ops : Array Oper} {rest : List Oper} {d : Nat} {x y : Operand} {t tx e2 : TypeId} {ty : TypeId} {pos : String} {aft : Array Edge} {ln : Nat} {p2 : Option Addr} {ln2 c2 : Nat} {l2 : List α}
    (hx : ev F x = some (.slice p ln c)) (hy : ev F y = some (.slice p2 ln2 c2)) (hp : Pick Rs (.own f sz E p c l) Rs') (hf : Fl f sz) (h2 : Rdb (HW w0 m Rs) f sz p2 c2 l2 ∧ ln2 = l2.length) (ht : P.underlying t = some (.slice E)) (ht2 : P.underlying tx = some (.slice e2)) (he : elemB P E sz = true)
    (hln : ln = l.length) (hsm : l.length + l2.length ≤ 34359738368) (hd : Nat.blt d n = true)
    (h : ∀ p' c', At n w0 ((d, .slice p' (l ++ l2).length c') :: F) m (.own f sz E p' c' (l ++ l2) :: Rs') (wpList P ops Q rest)) :
    At n w0 F m Rs (wpList P ops Q (⟨some d, .call ⟨.builtin .append, #[x, y], #[t, tx]⟩, ty, pos, aft, none⟩ :: rest)) := At.appendW hx hy hp hf h2.1 h2.2 ht ht2 he hln hsm hd h
theorem zrdl {α : Type} [Inhabited α] {f : α → List Value} {sz : Nat} {C : World → Prop} {p2 : Option Addr} {c2 ln2 : Nat} {l2 : List α} (h : Rdb C f sz p2 c2 l2 ∧ ln2 = l2.length := by first | exact ⟨own_rdb inferInstance (by repeat constructor), zlq⟩ | exact ⟨Sl.rdb zsla, zlq⟩ | exact ⟨Rdb.sub (own_rdb inferInstance (by repeat constructor)) _ _ zom zom, zlq⟩ | exact ⟨Rdb.sub (Sl.rdb zsla) _ _ zom zom, zlq⟩ | exact ⟨Rdb.subl (own_rdb inferInstance (by repeat constructor)) _ zom, zlq⟩ | exact ⟨Rdb.subl (Sl.rdb zsla) _ zom, zlq⟩ | exact ⟨Rdb.subh (own_rdb inferInstance (by repeat constructor)) _ zom, zlq⟩ | exact ⟨Rdb.subh (Sl.rdb zsla) _ zom, zlq⟩ | fail) : Rdb C f sz p2 c2 l2 ∧ ln2 = l2.length := h
end
end Go.J
/- The contracts of the package wide. -/
set_option linter.unusedSimpArgs false
set_option linter.unusedVariables false
set_option linter.unusedSectionVars false
set_option maxRecDepth 20000
set_option maxHeartbeats 4000000
namespace Go.Proofs.Ytoplagjjojlceaa
open Go Go.J
attribute [local irreducible] At AtQ AtM AtM1 PR Ct Pu Rd Res.blk Res.own Res.ex RVs RV
namespace Wide
abbrev wd (x : Nat) : List Value := [.int .u64 ((x / 18446744073709551616 : Nat) : Int), .int .u64 ((x % 18446744073709551616 : Nat) : Int)]
abbrev wv (x : Nat) : Value := .agg (wd x).toArray
instance : Fl wd 2 := ⟨fun _ => rfl, fun x v h => by simp at h; rcases h with rfl | rfl <;> rfl, by decide⟩
def sV (x : Nat) : Nat := if x < 340282366920938463463374607431768211456 then x else 0
def sE (x : Nat) : Int := if x < 340282366920938463463374607431768211456 then 0 else 1
theorem sV_lt (x : Nat) : sV x < 340282366920938463463374607431768211456 := by unfold sV; split <;> omega
theorem wd_mk {x : Nat} {h l : Int} (hh : h = ((x / 18446744073709551616 : Nat) : Int)) (hl : l = ((x % 18446744073709551616 : Nat) : Int)) : Value.agg #[.int .u64 h, .int .u64 l] = wv x := by subst hh hl; rfl

theorem add64 {n : Nat} {F : Fr} {C : World → Prop} {x y z : Operand} {ts : Array TypeId} {a b c : Int} (hx : ev F x = some (.int .u64 a)) (hy : ev F y = some (.int .u64 b)) (hz : ev F z = some (.int .u64 c)) (h0 : 0 ≤ a) (h1 : 0 ≤ b) (h2 : 0 ≤ c) (h3 : c ≤ 1) :
    PR Try.prog n F C (.call ⟨.value (.func 68), #[x, y, z], ts⟩) (.tuple #[.int .u64 ((a + b + c) % 18446744073709551616), .int .u64 ((a + b + c) / 18446744073709551616)]) :=
  pr_extern (xs := [x, y, z]) (vs := [.int .u64 a, .int .u64 b, .int .u64 c]) (e := add64Entry) Try.func68 (by kernel_rfl) (by kernel_rfl) (by kernel_rfl) (by kernel_rfl) (by simp [evs, hx, hy, hz]) fun w => run_add64 a b c h0 h1 h2 h3 w

theorem of_ (x : Nat) (h : x < 18446744073709551616) : Pu Try.prog 62 #[.int .u64 (x : Int)] (wv x) := Pu.intro fun m => by
  refine Ct.enterV (by rfl) Try.func62 rfl Try.ntmps62 rfl (fun w0 Rest => ?_)
  (repeat' (first | refine zss ?_ | ((first | (with_reducible first | apply At.val | apply AtQ.val)); (exact zprA); exact rfl) | refine zs0 ?_ | ((with_reducible apply At.alloc (d := 2)); exact rfl; exact rfl; intro b2) | (refine zsp ?_ ?_ <;> (intro hc; (try simp only [zhcs, reduceCtorEq] at hc); (try (exfalso; first | contradiction | omega | exact absurd rfl hc | exact absurd (by decide) hc))))))
  all_goals ((with_reducible apply At.retV (B := [])); exact rfl; (repeat' (first | exact RVs.nil | (with_reducible apply RVs.cons) | exact rv_tmp (by rfl) | exact rv_cellN (by rfl) (by repeat constructor) (by rfl) (by rfl) (by rfl) | exact rv_cell1 (by rfl) (by repeat constructor) (by rfl) (by rfl) | exact rv_cellA (by rfl) (by repeat constructor) (by rfl) (by rfl) zlq)); exact zml; exact zkp; exact ⟨wd_mk (by omega) (by omega), rfl, rfl⟩)
theorem ofI (x : Int) (h0 : 0 ≤ x) (h : x < 18446744073709551616) : Pu Try.prog 62 #[.int .u64 x] (wv x.toNat) := by
  have := of_ x.toNat (by omega)
  rwa [Int.toNat_of_nonneg h0] at this
theorem sure0 (a b o : Int) (ho : o = 0) : Pu Try.prog 69 #[.agg #[.int .u64 a, .int .u64 b], .int .u64 o] (.tuple #[.agg #[.int .u64 a, .int .u64 b], .int .i64 0]) := Pu.intro fun m => by
  refine Ct.enterV (by rfl) Try.func69 rfl Try.ntmps69 rfl (fun w0 Rest => ?_)
  (repeat' (first | refine zss ?_ | ((first | (with_reducible first | apply At.val | apply AtQ.val)); (exact zprA); exact rfl) | refine zs0 ?_ | ((with_reducible apply At.box (d := 2)); exact rfl; exact rfl; exact rfl; intro b2) | ((with_reducible apply At.alloc (d := 4)); exact rfl; exact rfl; intro b4) | (refine zsp ?_ ?_ <;> (intro hc; (try simp only [zhcs, reduceCtorEq] at hc); (try (exfalso; first | omega | contradiction | omega | exact absurd rfl hc | exact absurd (by decide) hc))))))
  all_goals ((with_reducible apply At.retV (B := [])); exact rfl; (repeat' (first | exact RVs.nil | (with_reducible apply RVs.cons) | exact rv_tmp (by rfl) | exact rv_cellN (by rfl) (by repeat constructor) (by rfl) (by rfl) (by rfl) | exact rv_cell1 (by rfl) (by repeat constructor) (by rfl) (by rfl) | exact rv_cellA (by rfl) (by repeat constructor) (by rfl) (by rfl) zlq)); exact zml; exact zkp; exact ⟨rfl, rfl, rfl⟩)
theorem sure1 (a b o : Int) (ho : o ≠ 0) : Pu Try.prog 69 #[.agg #[.int .u64 a, .int .u64 b], .int .u64 o] (.tuple #[wv 0, .int .i64 1]) := Pu.intro fun m => by
  refine Ct.enterV (by rfl) Try.func69 rfl Try.ntmps69 rfl (fun w0 Rest => ?_)
  (repeat' (first | refine zss ?_ | ((first | (with_reducible first | apply At.val | apply AtQ.val)); (exact zprA); exact rfl) | refine zs0 ?_ | ((with_reducible apply At.box (d := 2)); exact rfl; exact rfl; exact rfl; intro b2) | ((with_reducible apply At.alloc (d := 4)); exact rfl; exact rfl; intro b4) | (refine zsp ?_ ?_ <;> (intro hc; (try simp only [zhcs, reduceCtorEq] at hc); (try (exfalso; first | omega | contradiction | omega | exact absurd rfl hc | exact absurd (by decide) hc))))))
  all_goals ((with_reducible apply At.retV (B := [])); exact rfl; (repeat' (first | exact RVs.nil | (with_reducible apply RVs.cons) | exact rv_tmp (by rfl) | exact rv_cellN (by rfl) (by repeat constructor) (by rfl) (by rfl) (by rfl) | exact rv_cell1 (by rfl) (by repeat constructor) (by rfl) (by rfl) | exact rv_cellA (by rfl) (by repeat constructor) (by rfl) (by rfl) zlq)); exact zml; exact zkp; exact ⟨rfl, rfl, rfl⟩)
theorem add (x y : Nat) (hx : x < 340282366920938463463374607431768211456) (hy : y < 340282366920938463463374607431768211456) : Pu Try.prog 71 #[wv x, wv y] (.tuple #[wv (sV (x + y)), .int .i64 (sE (x + y))]) := Pu.intro fun m => by
  by_cases h : x + y < 340282366920938463463374607431768211456
  · have e1 : sV (x + y) = x + y := if_pos h
    have e2 : sE (x + y) = 0 := if_pos h
    rw [e1, e2]
    refine Ct.enterV (by rfl) Try.func71 rfl Try.ntmps71 rfl (fun w0 Rest => ?_)
    (repeat' (first | refine zss ?_ | ((first | (with_reducible first | apply At.val | apply AtQ.val)); (first | exact add64 (by rfl) (by rfl) (by rfl) (by omega) (by omega) (by omega) (by omega) | exact zprA); exact rfl) | refine zs0 ?_ | ((with_reducible first | apply AtM1.callp | apply AtQ.callp | apply At.callp); kernel_rfl; exact rfl; exact rfl; exact sure0 _ _ _ (by omega)) | ((with_reducible apply At.box (d := 2)); exact rfl; exact rfl; exact rfl; intro b2) | ((with_reducible apply At.box (d := 3)); exact rfl; exact rfl; exact rfl; intro b3) | ((with_reducible apply At.alloc (d := 4)); exact rfl; exact rfl; intro b4) | (refine zsp ?_ ?_ <;> (intro hc; (try simp only [zhcs, reduceCtorEq] at hc); (try (exfalso; first | contradiction | omega | exact absurd rfl hc | exact absurd (by decide) hc))))))
    all_goals ((with_reducible apply At.retV (B := [])); exact rfl; (repeat' (first | exact RVs.nil | (with_reducible apply RVs.cons) | exact rv_tmp (by rfl) | exact rv_cellN (by rfl) (by repeat constructor) (by rfl) (by rfl) (by rfl) | exact rv_cell1 (by rfl) (by repeat constructor) (by rfl) (by rfl) | exact rv_cellA (by rfl) (by repeat constructor) (by rfl) (by rfl) zlq)); exact zml; exact zkp; exact ⟨congrArg (fun v => Value.tuple #[v, .int .i64 0]) (wd_mk (by omega) (by omega)), rfl, rfl⟩)
  · have e1 : sV (x + y) = 0 := if_neg h
    have e2 : sE (x + y) = 1 := if_neg h
    rw [e1, e2]
    refine Ct.enterV (by rfl) Try.func71 rfl Try.ntmps71 rfl (fun w0 Rest => ?_)
    (repeat' (first | refine zss ?_ | ((first | (with_reducible first | apply At.val | apply AtQ.val)); (first | exact add64 (by rfl) (by rfl) (by rfl) (by omega) (by omega) (by omega) (by omega) | exact zprA); exact rfl) | refine zs0 ?_ | ((with_reducible first | apply AtM1.callp | apply AtQ.callp | apply At.callp); kernel_rfl; exact rfl; exact rfl; exact sure1 _ _ _ (by omega)) | ((with_reducible apply At.box (d := 2)); exact rfl; exact rfl; exact rfl; intro b2) | ((with_reducible apply At.box (d := 3)); exact rfl; exact rfl; exact rfl; intro b3) | ((with_reducible apply At.alloc (d := 4)); exact rfl; exact rfl; intro b4) | (refine zsp ?_ ?_ <;> (intro hc; (try simp only [zhcs, reduceCtorEq] at hc); (try (exfalso; first | contradiction | omega | exact absurd rfl hc | exact absurd (by decide) hc))))))
    all_goals ((with_reducible apply At.retV (B := [])); exact rfl; (repeat' (first | exact RVs.nil | (with_reducible apply RVs.cons) | exact rv_tmp (by rfl) | exact rv_cellN (by rfl) (by repeat constructor) (by rfl) (by rfl) (by rfl) | exact rv_cell1 (by rfl) (by repeat constructor) (by rfl) (by rfl) | exact rv_cellA (by rfl) (by repeat constructor) (by rfl) (by rfl) zlq)); exact zml; exact zkp; exact ⟨rfl, rfl, rfl⟩)
theorem less (x y : Nat) : Pu Try.prog 63 #[wv x, wv y] (.bool (decide (x < y))) := Pu.intro fun m => by
  by_cases h : x < y
  · rw [decide_eq_true h]
    refine Ct.enterV (by rfl) Try.func63 rfl Try.ntmps63 rfl (fun w0 Rest => ?_)
    (repeat' (first | refine zss ?_ | ((first | (with_reducible first | apply At.val | apply AtQ.val)); (exact zprA); exact rfl) | refine zs0 ?_ | ((with_reducible apply At.box (d := 2)); exact rfl; exact rfl; exact rfl; intro b2) | ((with_reducible apply At.box (d := 3)); exact rfl; exact rfl; exact rfl; intro b3) | (refine zsp ?_ ?_ <;> (intro hc; (try simp only [zhcs, reduceCtorEq] at hc); (try (exfalso; first | omega | contradiction | omega | exact absurd rfl hc | exact absurd (by decide) hc))))))
    all_goals ((with_reducible apply At.retB1 (B := [])); exact rfl; exact rfl; exact zml; exact zkp; exact ⟨by first | rfl | exact congrArg Value.bool (decide_eq_true (by omega)) | exact congrArg Value.bool (decide_eq_false (by omega)), rfl, rfl⟩)
  · rw [decide_eq_false h]
    refine Ct.enterV (by rfl) Try.func63 rfl Try.ntmps63 rfl (fun w0 Rest => ?_)
    (repeat' (first | refine zss ?_ | ((first | (with_reducible first | apply At.val | apply AtQ.val)); (exact zprA); exact rfl) | refine zs0 ?_ | ((with_reducible apply At.box (d := 2)); exact rfl; exact rfl; exact rfl; intro b2) | ((with_reducible apply At.box (d := 3)); exact rfl; exact rfl; exact rfl; intro b3) | (refine zsp ?_ ?_ <;> (intro hc; (try simp only [zhcs, reduceCtorEq] at hc); (try (exfalso; first | omega | contradiction | omega | exact absurd rfl hc | exact absurd (by decide) hc))))))
    all_goals ((with_reducible apply At.retB1 (B := [])); exact rfl; exact rfl; exact zml; exact zkp; exact ⟨by first | rfl | exact congrArg Value.bool (decide_eq_true (by omega)) | exact congrArg Value.bool (decide_eq_false (by omega)), rfl, rfl⟩)
theorem mul64 (x y : Int) (hx0 : 0 ≤ x) (hx : x < 18446744073709551616) (hy0 : 0 ≤ y) (hy : y < 18446744073709551616) : Pu Try.prog 67 #[.int .u64 x, .int .u64 y] (.tuple #[.int .u64 (x * y / 18446744073709551616), .int .u64 (x * y % 18446744073709551616)]) := Pu.intro fun m => by
  have key := mul64_arith x y hx0 hx hy0 hy
  refine Ct.enterV (by rfl) Try.func67 rfl Try.ntmps67 rfl (fun w0 Rest => ?_)
  (repeat' (first | refine zss ?_ | ((first | (with_reducible first | apply At.val | apply AtQ.val)); (first | exact pr_and (by rfl) (by rfl) (and_low32 _ (by omega) (by omega)) | exact pr_mul (by rfl) (by rfl) (IntKind.wrap_u64 _) | exact pr_add (by rfl) (by rfl) (IntKind.wrap_u64 _) | exact zprA); exact rfl) | refine zs0 ?_ | (refine zsp ?_ ?_ <;> (intro hc; (try simp only [zhcs, reduceCtorEq] at hc); (try (exfalso; first | contradiction | omega | exact absurd rfl hc | exact absurd (by decide) hc))))))
  all_goals ((with_reducible apply At.retB2 (B := [])); (iterate 3 exact rfl); exact zml; exact zkp; exact ⟨by rw [← key], rfl, rfl⟩)
theorem or_zero {a b : Int} (ha : a = 0) (hb : b = 0) : bits .or .u64 a b = 0 := by subst ha hb; rfl
theorem or_ne {a b : Int} (ha : 0 ≤ a ∧ a < 18446744073709551616) (hb : 0 ≤ b ∧ b < 18446744073709551616) (h : a ≠ 0 ∨ b ≠ 0) : bits .or .u64 a b ≠ 0 := by
  rw [u64_or a b ha.1 ha.2 hb.1 hb.2]
  intro e
  have e0 : a.toNat ||| b.toNat = 0 := by omega
  have e1 : a.toNat = 0 := by
    have := Nat.left_le_or (n := a.toNat) (m := b.toNat)
    omega
  have e2 : b.toNat = 0 := by
    have := Nat.right_le_or (n := a.toNat) (m := b.toNat)
    omega
  omega
theorem times (x k : Nat) (hx : x < 340282366920938463463374607431768211456) (hk : k < 18446744073709551616) : Pu Try.prog 61 #[wv x, .int .u64 (k : Int)] (.tuple #[wv (sV (x * k)), .int .i64 (sE (x * k))]) := Pu.intro fun m => by
  obtain ⟨p, hp⟩ : ∃ p : Nat, p = x % 18446744073709551616 * k := ⟨_, rfl⟩
  obtain ⟨q, hq⟩ : ∃ q : Nat, q = x / 18446744073709551616 * k := ⟨_, rfl⟩
  have hxk : x * k = q * 18446744073709551616 + p := by
    rw [hp, hq, Nat.mul_right_comm, ← Nat.add_mul, Nat.mul_comm (x / 18446744073709551616), Nat.div_add_mod]
  have m1 := mul64 ((x % 18446744073709551616 : Nat) : Int) (k : Int) (by omega) (by omega) (by omega) (by omega)
  have m2 := mul64 ((x / 18446744073709551616 : Nat) : Int) (k : Int) (by omega) (by omega) (by omega) (by omega)
  rw [← Int.natCast_mul, ← hp] at m1
  rw [← Int.natCast_mul, ← hq] at m2
  have hpb : p ≤ 18446744073709551615 * 18446744073709551615 := by rw [hp]; exact Nat.mul_le_mul (by omega) (by omega)
  have hqb : q ≤ 18446744073709551615 * 18446744073709551615 := by rw [hq]; exact Nat.mul_le_mul (by omega) (by omega)
  rw [hxk]
  clear hp hq hxk
  by_cases h : q * 18446744073709551616 + p < 340282366920938463463374607431768211456
  · have e1 : sV (q * 18446744073709551616 + p) = q * 18446744073709551616 + p := if_pos h
    have e2 : sE (q * 18446744073709551616 + p) = 0 := if_pos h
    rw [e1, e2]
    refine Ct.enterV (by rfl) Try.func61 rfl Try.ntmps61 rfl (fun w0 Rest => ?_)
    (repeat' (first | refine zss ?_ | ((first | (with_reducible first | apply At.val | apply AtQ.val)); (first | exact add64 (by rfl) (by rfl) (by rfl) (by omega) (by omega) (by omega) (by omega) | exact pr_or (by rfl) (by rfl) (or_zero (by omega) (by omega)) | exact zprA); exact rfl) | refine zs0 ?_ | ((with_reducible first | apply AtM1.callp | apply AtQ.callp | apply At.callp); kernel_rfl; exact rfl; exact rfl; exact m1) | ((with_reducible first | apply AtM1.callp | apply AtQ.callp | apply At.callp); kernel_rfl; exact rfl; exact rfl; exact m2) | ((with_reducible first | apply AtM1.callp | apply AtQ.callp | apply At.callp); kernel_rfl; exact rfl; exact rfl; exact sure0 _ _ _ (by omega)) | ((with_reducible apply At.box (d := 2)); exact rfl; exact rfl; exact rfl; intro b2) | ((with_reducible apply At.alloc (d := 4)); exact rfl; exact rfl; intro b4) | (refine zsp ?_ ?_ <;> (intro hc; (try simp only [zhcs, reduceCtorEq] at hc); (try (exfalso; first | contradiction | omega | exact absurd rfl hc | exact absurd (by decide) hc))))))
    all_goals ((with_reducible apply At.retV (B := [])); exact rfl; (repeat' (first | exact RVs.nil | (with_reducible apply RVs.cons) | exact rv_tmp (by rfl) | exact rv_cellN (by rfl) (by repeat constructor) (by rfl) (by rfl) (by rfl) | exact rv_cell1 (by rfl) (by repeat constructor) (by rfl) (by rfl) | exact rv_cellA (by rfl) (by repeat constructor) (by rfl) (by rfl) zlq)); exact zml; exact zkp; exact ⟨congrArg (fun v => Value.tuple #[v, .int .i64 0]) (wd_mk (by omega) (by omega)), rfl, rfl⟩)
  · have e1 : sV (q * 18446744073709551616 + p) = 0 := if_neg h
    have e2 : sE (q * 18446744073709551616 + p) = 1 := if_neg h
    rw [e1, e2]
    refine Ct.enterV (by rfl) Try.func61 rfl Try.ntmps61 rfl (fun w0 Rest => ?_)
    (repeat' (first | refine zss ?_ | ((first | (with_reducible first | apply At.val | apply AtQ.val)); (first | exact add64 (by rfl) (by rfl) (by rfl) (by omega) (by omega) (by omega) (by omega) | exact zprA); exact rfl) | refine zs0 ?_ | ((with_reducible first | apply AtM1.callp | apply AtQ.callp | apply At.callp); kernel_rfl; exact rfl; exact rfl; exact m1) | ((with_reducible first | apply AtM1.callp | apply AtQ.callp | apply At.callp); kernel_rfl; exact rfl; exact rfl; exact m2) | ((with_reducible first | apply AtM1.callp | apply AtQ.callp | apply At.callp); kernel_rfl; exact rfl; exact rfl; exact sure1 _ _ _ (or_ne (by omega) (by omega) (by omega))) | ((with_reducible apply At.box (d := 2)); exact rfl; exact rfl; exact rfl; intro b2) | ((with_reducible apply At.alloc (d := 4)); exact rfl; exact rfl; intro b4) | (refine zsp ?_ ?_ <;> (intro hc; (try simp only [zhcs, reduceCtorEq] at hc); (try (exfalso; first | contradiction | omega | exact absurd rfl hc | exact absurd (by decide) hc))))))
    all_goals ((with_reducible apply At.retV (B := [])); exact rfl; (repeat' (first | exact RVs.nil | (with_reducible apply RVs.cons) | exact rv_tmp (by rfl) | exact rv_cellN (by rfl) (by repeat constructor) (by rfl) (by rfl) (by rfl) | exact rv_cell1 (by rfl) (by repeat constructor) (by rfl) (by rfl) | exact rv_cellA (by rfl) (by repeat constructor) (by rfl) (by rfl) zlq)); exact zml; exact zkp; exact ⟨rfl, rfl, rfl⟩)
structure SS where
  i : Nat
  a : Nat
theorem sum_take {l : List Nat} {i : Nat} (h : i < l.length) : (l.take (i + 1)).sum = (l.take i).sum + l[i]! := by
  have e : l.take (i + 1) = l.take i ++ [l[i]!] := by rw [List.take_add_one, getElem!_pos l i h]; simp [h]
  rw [e, List.sum_append]; simp
theorem sum_le {l : List Nat} (i : Nat) : (l.take i).sum ≤ l.sum := by
  have := congrArg List.sum (List.take_append_drop i l)
  rw [List.sum_append] at this
  omega
theorem sum_ {m : Mem} (p : Option Addr) (c : Nat) (l : List Nat) (hl : l.length ≤ 1000000) (hb : ∀ x ∈ l, x < 340282366920938463463374607431768211456) (sl0 : Sl m wd 2 p c l) :
    Ct Try.prog 66 #[.slice p l.length c] m [] (fun v m' B => v = .tuple #[wv (sV l.sum), .int .i64 (sE l.sum)] ∧ m = m' ∧ B = []) := by
  refine Ct.enterV (by rfl) Try.func66 rfl Try.ntmps66 rfl (fun w0 Rest => ?_)
  (repeat' (first | refine zss ?_ | ((first | (with_reducible first | apply At.val | apply AtQ.val)); (exact zprA); exact rfl) | refine zsM ?_ | ((with_reducible apply At.alloc (d := 2)); exact rfl; exact rfl; intro b2) | ((with_reducible apply At.alloc (d := 4)); exact rfl; exact rfl; intro b4) | ((with_reducible apply At.alloc (d := 6)); exact rfl; exact rfl; intro b6) | ((with_reducible apply At.alloc (d := 7)); exact rfl; exact rfl; intro b7) | (refine zsp ?_ ?_ <;> (intro hc; (try simp only [zhcs, reduceCtorEq] at hc); (try (exfalso; first | contradiction | omega | exact absurd rfl hc | exact absurd (by decide) hc))))))
  (refine At.loopk (σ := SS) [2, 4, 9, 10] (fun s F0 => (11, .int .i64 (s.i : Int)) :: F0) (fun s => m) (fun s => .blk b4 45 (wd s.a) :: .blk b2 45 (wd 0) :: Rest) (fun s => s.i ≤ l.length ∧ s.a = (l.take s.i).sum ∧ s.a < 340282366920938463463374607431768211456) (fun s => l.length - s.i) ⟨0, 0⟩ (by rfl) ?_ zsubs zml zente ?_)
  · exact ⟨Nat.zero_le _, rfl, by decide⟩
  intro s ⟨hi, ha, hlt⟩
  by_cases h : s.i < l.length
  · have hx := hb (l[s.i]!) (by rw [getElem!_pos l s.i h]; exact List.getElem_mem h)
    have hst := sum_take h
    have hle := sum_le (l := l) (s.i + 1)
    by_cases ho : s.a + l[s.i]! < 340282366920938463463374607431768211456
    · have ad := add s.a (l[s.i]!) hlt hx
      rw [show sV (s.a + l[s.i]!) = s.a + l[s.i]! from if_pos ho, show sE (s.a + l[s.i]!) = 0 from if_pos ho] at ad
      (repeat' (first | refine zss ?_ | ((first | (with_reducible first | apply At.val | apply AtQ.val)); (exact zprA); exact rfl) | refine zsM ?_ | ((with_reducible first | apply AtM1.callp | apply AtQ.callp | apply At.callp); kernel_rfl; exact rfl; exact rfl; exact ad) | ((with_reducible apply At.alloc (d := 2)); exact rfl; exact rfl; intro b2) | ((with_reducible apply At.alloc (d := 4)); exact rfl; exact rfl; intro b4) | ((with_reducible apply At.alloc (d := 6)); exact rfl; exact rfl; intro b6) | ((with_reducible apply At.alloc (d := 7)); exact rfl; exact rfl; intro b7) | (refine zsp ?_ ?_ <;> (intro hc; (try simp only [zhcs, reduceCtorEq] at hc); (try (exfalso; first | omega | contradiction | omega | exact absurd rfl hc | exact absurd (by decide) hc))))))
      all_goals ((with_reducible refine At.reachk (⟨s.i + 1, s.a + l[s.i]!⟩) ?_ ?_ ?_ ?_); exact zsubs; exact zml; exact zente; exact ⟨⟨h, by show _ = (l.take (s.i + 1)).sum; rw [hst, ha], ho⟩, by show l.length - (s.i + 1) < l.length - s.i; omega⟩)
    · have ad := add s.a (l[s.i]!) hlt hx
      rw [show sV (s.a + l[s.i]!) = 0 from if_neg ho, show sE (s.a + l[s.i]!) = 1 from if_neg ho] at ad
      rw [show sV l.sum = 0 from if_neg (by omega), show sE l.sum = 1 from if_neg (by omega)]
      (repeat' (first | refine zss ?_ | ((first | (with_reducible first | apply At.val | apply AtQ.val)); (exact zprA); exact rfl) | refine zsM ?_ | ((with_reducible first | apply AtM1.callp | apply AtQ.callp | apply At.callp); kernel_rfl; exact rfl; exact rfl; exact ad) | ((with_reducible apply At.alloc (d := 2)); exact rfl; exact rfl; intro b2) | ((with_reducible apply At.alloc (d := 4)); exact rfl; exact rfl; intro b4) | ((with_reducible apply At.alloc (d := 6)); exact rfl; exact rfl; intro b6) | ((with_reducible apply At.alloc (d := 7)); exact rfl; exact rfl; intro b7) | (refine zsp ?_ ?_ <;> (intro hc; (try simp only [zhcs, reduceCtorEq] at hc); (try (exfalso; first | omega | contradiction | omega | exact absurd rfl hc | exact absurd (by decide) hc))))))
      all_goals ((with_reducible apply At.retV (B := [])); exact rfl; (repeat' (first | exact RVs.nil | (with_reducible apply RVs.cons) | exact rv_tmp (by rfl) | exact rv_cellN (by rfl) (by repeat constructor) (by rfl) (by rfl) (by rfl) | exact rv_cell1 (by rfl) (by repeat constructor) (by rfl) (by rfl) | exact rv_cellA (by rfl) (by repeat constructor) (by rfl) (by rfl) zlq)); exact zml; exact zkp; exact ⟨rfl, rfl, rfl⟩)
  · have hall : s.a = l.sum := by rw [ha, List.take_of_length_le (by omega)]
    rw [show sV l.sum = s.a by rw [← hall]; exact if_pos hlt, show sE l.sum = 0 by rw [← hall]; exact if_pos hlt]
    (repeat' (first | refine zss ?_ | ((first | (with_reducible first | apply At.val | apply AtQ.val)); (exact zprA); exact rfl) | refine zsM ?_ | ((with_reducible apply At.alloc (d := 2)); exact rfl; exact rfl; intro b2) | ((with_reducible apply At.alloc (d := 4)); exact rfl; exact rfl; intro b4) | ((with_reducible apply At.alloc (d := 6)); exact rfl; exact rfl; intro b6) | ((with_reducible apply At.alloc (d := 7)); exact rfl; exact rfl; intro b7) | (refine zsp ?_ ?_ <;> (intro hc; (try simp only [zhcs, reduceCtorEq] at hc); (try (exfalso; first | omega | contradiction | omega | exact absurd rfl hc | exact absurd (by decide) hc))))))
    all_goals ((with_reducible apply At.retV (B := [])); exact rfl; (repeat' (first | exact RVs.nil | (with_reducible apply RVs.cons) | exact rv_tmp (by rfl) | exact rv_cellN (by rfl) (by repeat constructor) (by rfl) (by rfl) (by rfl) | exact rv_cell1 (by rfl) (by repeat constructor) (by rfl) (by rfl) | exact rv_cellA (by rfl) (by repeat constructor) (by rfl) (by rfl) zlq)); exact zml; exact zkp; exact ⟨rfl, rfl, rfl⟩)
end Wide
end Go.Proofs.Ytoplagjjojlceaa
/- The document's numbers, as sixteen bytes. -/
set_option linter.unusedSimpArgs false
set_option linter.unusedVariables false
set_option linter.unusedSectionVars false
set_option maxRecDepth 20000
set_option maxHeartbeats 4000000
namespace Go.Proofs.Ytoplagjjojlceaa
open Go Go.J
attribute [local irreducible] At AtQ AtM AtM1 PR Ct Pu Rd Res.blk Res.own Res.ex RVs RV
namespace Wide
def tab (f : Nat → Nat) : List Int := (List.range 16).map (fun i => ((f i : Nat) : Int))
def dg (S i : Nat) : Nat := S / 256 ^ i % 256
abbrev gi : Int → Value := fun x => .int .i64 x
abbrev av (f : Nat → Nat) : Value := .agg ((tab f).map gi).toArray
theorem tab_len (f : Nat → Nat) : (tab f).length = 16 := by simp [tab]
theorem tabm_len (f : Nat → Nat) : ((tab f).map gi).length = 16 := by simp [tab]
theorem all_gi (l : List Int) : (l.map gi).all oneCell = true := by
  rw [List.all_eq_true]; intro x hx; obtain ⟨y, -, rfl⟩ := List.mem_map.1 hx; rfl
theorem tab_get (f : Nat → Nat) {i : Nat} (h : i < 16) : (tab f)[i]! = (f i : Int) := by
  rw [getElem!_pos _ i (by rw [tab_len]; exact h)]; simp [tab]
theorem tab_congr {f g : Nat → Nat} (h : ∀ j, j < 16 → f j = g j) : tab f = tab g := by
  unfold tab
  apply List.map_congr_left
  intro j hj
  rw [h j (List.mem_range.1 hj)]
theorem tab_set (f : Nat → Nat) {k : Nat} (v : Nat) (h : k < 16) : (tab f).set k (v : Int) = tab (fun j => if j = k then v else f j) := by
  apply List.ext_getElem (by simp [tab])
  intro j h1 h2
  rw [List.getElem_set]
  simp only [tab, List.getElem_map, List.getElem_range]
  by_cases e : k = j
  · subst e; simp
  · rw [if_neg e, if_neg (Ne.symm e)]
theorem pr_load_tab {n : Nat} {w0 : World} {F : Fr} {m : Mem} {Rs : List Res} {f : Nat → Nat} {x : Operand} {t : TypeId} {b k : Nat} {E : TypeId} {Rs' : List Res} (hx : ev F x = some (.pointer (some ⟨b, k, none⟩))) (hp : Pick Rs (.blk b E ((tab f).map gi)) Rs') (ht : isAggB Try.prog t = some false) (hk : k < 16) :
    PR Try.prog n F (HW w0 m Rs) (.load t x) (.int .i64 ((f k : Nat) : Int)) := by
  have := pr_load_arr (n := n) (w0 := w0) (m := m) (P := Try.prog) (g := gi) hx hp ht (by rw [tab_len]; exact hk)
  rwa [tab_get f hk] at this
theorem dg_lt (S i : Nat) : dg S i < 256 := Nat.mod_lt _ (by decide)
theorem pow256 (i : Nat) : (2 : Int) ^ (8 * (i : Int)).toNat = ((256 ^ i : Nat) : Int) := by
  rw [show (8 * (i : Int)).toNat = 8 * i by omega, show (256 : Nat) ^ i = 2 ^ (8 * i) by rw [Nat.pow_mul], Int.natCast_pow]; rfl
theorem lo_div (x : Nat) {i : Nat} (hi : i < 8) : x % 18446744073709551616 / 256 ^ i % 256 = dg x i := by
  have e : (18446744073709551616 : Nat) = 256 ^ i * 256 ^ (8 - i) := by rw [← Nat.pow_add, show i + (8 - i) = 8 by omega]
  rw [e, Nat.mod_mul_right_div_self]
  have hd : (256 : Nat) ∣ 256 ^ (8 - i) := by
    rw [show 8 - i = (7 - i) + 1 by omega, Nat.pow_succ]; exact Nat.dvd_mul_left _ _
  rw [Nat.mod_mod_of_dvd _ hd]; rfl
theorem hi_div (x i : Nat) : x / 18446744073709551616 / 256 ^ i % 256 = dg x (8 + i) := by
  unfold dg
  rw [Nat.div_div_eq_div_mul, show (18446744073709551616 : Nat) = 256 ^ 8 from rfl, ← Nat.pow_add]
theorem and255 (y : Nat) (h : y < 18446744073709551616) : bits .and .u64 (y : Int) 255 = ((y % 256 : Nat) : Int) := by
  rw [u64_and _ _ (by omega) (by omega) (by decide) (by decide), Int.toNat_natCast, show ((255 : Int)).toNat = 255 from rfl, nat_mask8]
theorem lo_dig (x : Nat) {i : Nat} (hi : i < 8) : bits .and .u64 (((x % 18446744073709551616 : Nat) : Int) / 2 ^ (8 * (i : Int)).toNat) 255 = ((dg x i : Nat) : Int) := by
  rw [pow256, ← Int.natCast_ediv, and255 _ (Nat.lt_of_le_of_lt (Nat.div_le_self _ _) (Nat.mod_lt _ (by decide))), lo_div x hi]
theorem hi_dig (x i : Nat) (hx : x < 340282366920938463463374607431768211456) : bits .and .u64 (((x / 18446744073709551616 : Nat) : Int) / 2 ^ (8 * (i : Int)).toNat) 255 = ((dg x (8 + i) : Nat) : Int) := by
  rw [pow256, ← Int.natCast_ediv, and255 _ (Nat.lt_of_le_of_lt (Nat.div_le_self _ _) (by omega)), hi_div x i]

theorem bytes (x : Nat) (hx : x < 340282366920938463463374607431768211456) : Pu Try.prog 56 #[wv x] (av (dg x)) := Pu.intro fun m => by
  refine Ct.enterV (by rfl) Try.func56 rfl Try.ntmps56 rfl (fun w0 Rest => ?_)
  (repeat' (first | refine zss ?_ | ((first | (with_reducible first | apply At.val | apply AtQ.val)); (exact zprA); exact rfl) | refine zs0 ?_ | ((with_reducible apply At.box (d := 1)); exact rfl; exact rfl; exact rfl; intro b1) | ((with_reducible apply At.alloc (d := 2)); exact rfl; exact rfl; intro b2) | ((with_reducible apply At.alloc (d := 3)); exact rfl; exact rfl; intro b3) | (refine zsp ?_ ?_ <;> (intro hc; (try simp only [zhcs, reduceCtorEq] at hc); (try (exfalso; first | contradiction | omega | exact absurd rfl hc | exact absurd (by decide) hc))))))
  (refine At.loopk (σ := Nat) [1, 2, 3] (fun s F0 => (4, .int .i64 (s : Int)) :: F0) (fun s => m) (fun s => .blk b3 100 ((tab (fun j => if j < s ∨ (8 ≤ j ∧ j < 8 + s) then dg x j else 0)).map gi) :: .blk b2 100 ((tab (fun _ => 0)).map gi) :: .blk b1 45 (wd x) :: Rest) (fun s => s ≤ 8) (fun s => 8 - s) 0 (by rfl) ?_ zsubs zml zente ?_)
  · exact Nat.zero_le _
  intro s hs
  by_cases h : s < 8
  · have h1 := dg_lt x s
    have h2 := dg_lt x (8 + s)
    have hl := tab_len (fun j => if j < s ∨ (8 ≤ j ∧ j < 8 + s) then dg x j else 0)
    (repeat' (first | refine zss ?_ | ((first | (with_reducible first | apply At.val | apply AtQ.val)); (first | exact pr_and (by rfl) (by rfl) (lo_dig x h) | exact pr_and (by rfl) (by rfl) (hi_dig x s hx) | exact zprA); exact rfl) | refine zs0 ?_ | ((with_reducible apply At.storeArr (g := gi) (((dg x s : Nat) : Int))); exact rfl; exact rfl; exact rfl; exact rfl; exact rfl; exact rfl; exact (by repeat constructor); (first | omega | (simp only [lns] <;> omega))) | ((with_reducible apply At.storeArr (g := gi) (((dg x (8 + s) : Nat) : Int))); exact rfl; exact rfl; exact rfl; exact rfl; exact rfl; exact rfl; exact (by repeat constructor); (first | omega | (simp only [lns] <;> omega))) | ((with_reducible apply At.box (d := 1)); exact rfl; exact rfl; exact rfl; intro b1) | ((with_reducible apply At.alloc (d := 2)); exact rfl; exact rfl; intro b2) | ((with_reducible apply At.alloc (d := 3)); exact rfl; exact rfl; intro b3) | (refine zsp ?_ ?_ <;> (intro hc; (try simp only [zhcs, reduceCtorEq] at hc); (try (exfalso; first | omega | contradiction | omega | exact absurd rfl hc | exact absurd (by decide) hc))))))
    have e : ((tab (fun j => if j < s ∨ (8 ≤ j ∧ j < 8 + s) then dg x j else 0)).set s ((dg x s : Nat) : Int)).set (8 + s) ((dg x (8 + s) : Nat) : Int) = tab (fun j => if j < s + 1 ∨ (8 ≤ j ∧ j < 8 + (s + 1)) then dg x j else 0) := by
      rw [tab_set _ _ (by omega), tab_set _ _ (by omega)]
      apply tab_congr
      intro j hj
      by_cases e1 : j = 8 + s
      · subst e1; rw [if_pos rfl, if_pos (by omega)]
      · rw [if_neg e1]
        by_cases e2 : j = s
        · subst e2; rw [if_pos rfl, if_pos (by omega)]
        · rw [if_neg e2]
          by_cases e3 : j < s ∨ (8 ≤ j ∧ j < 8 + s)
          · rw [if_pos e3, if_pos (by omega)]
          · rw [if_neg e3, if_neg (by omega)]
    all_goals (rw [e])
    all_goals ((with_reducible refine At.reachk ((s + 1)) ?_ ?_ ?_ ?_); exact zsubs; exact zml; exact zente; exact ⟨by omega, by omega⟩)
  · have e : tab (fun j => if j < s ∨ (8 ≤ j ∧ j < 8 + s) then dg x j else 0) = tab (dg x) := tab_congr fun j hj => by rw [if_pos (by omega)]
    rw [e]
    have hl := tabm_len (dg x)
    have hl0 := tabm_len (fun _ => 0)
    (repeat' (first | refine zss ?_ | ((first | (with_reducible first | apply At.val | apply AtQ.val)); (exact zprA); exact rfl) | refine zs0 ?_ | ((with_reducible apply At.storeA); exact rfl; exact rfl; exact rfl; exact all_gi _; exact (by repeat constructor); (first | exact rfl | (first | omega | (simp only [lns] <;> omega))); (first | exact rfl | (first | omega | (simp only [lns] <;> omega)))) | ((with_reducible apply At.box (d := 1)); exact rfl; exact rfl; exact rfl; intro b1) | ((with_reducible apply At.alloc (d := 2)); exact rfl; exact rfl; intro b2) | ((with_reducible apply At.alloc (d := 3)); exact rfl; exact rfl; intro b3) | (refine zsp ?_ ?_ <;> (intro hc; (try simp only [zhcs, reduceCtorEq] at hc); (try (exfalso; first | omega | contradiction | omega | exact absurd rfl hc | exact absurd (by decide) hc))))))
    all_goals ((with_reducible apply At.retV (B := [])); exact rfl; (repeat' (first | exact RVs.nil | (with_reducible apply RVs.cons) | exact rv_tmp (by rfl) | exact rv_cellN (by rfl) (by repeat constructor) (by rfl) (by rfl) (by rfl) | exact rv_cell1 (by rfl) (by repeat constructor) (by rfl) (by rfl) | exact rv_cellA (by rfl) (by repeat constructor) (by rfl) (by rfl) zlq)); exact zml; exact zkp; exact ⟨rfl, rfl, rfl⟩)

/-! ### the number that sixteen bytes stand for -/
theorem dig_succ (S i : Nat) : S % 256 ^ (i + 1) = S % 256 ^ i + 256 ^ i * dg S i := Nat.mod_pow_succ
theorem or_dig {q d i : Nat} (hq : q < 256 ^ i) (hd : d < 256) (hi : i < 8) : bits .or .u64 (q : Int) (((d : Int) * 2 ^ (8 * (i : Int)).toNat) % 18446744073709551616) = ((q + 256 ^ i * d : Nat) : Int) := by
  have e : (18446744073709551616 : Nat) = 256 ^ i * 256 ^ (8 - i) := by rw [← Nat.pow_add, show i + (8 - i) = 8 by omega]
  have h1 : d * 256 ^ i < 18446744073709551616 := by
    rw [e, Nat.mul_comm]
    refine Nat.mul_lt_mul_of_pos_left (Nat.lt_of_lt_of_le hd ?_) (Nat.pow_pos (by decide))
    rw [show (256 : Nat) = 256 ^ 1 from rfl, ← Nat.pow_mul, Nat.one_mul]
    exact Nat.pow_le_pow_right (by decide) (by omega)
  have h2 : q < 18446744073709551616 := by
    refine Nat.lt_of_lt_of_le hq ?_
    rw [show (18446744073709551616 : Nat) = 256 ^ 8 from rfl]
    exact Nat.pow_le_pow_right (by decide) (by omega)
  rw [pow256, ← Int.natCast_mul, Int.emod_eq_of_lt (by omega) (by omega), u64_or _ _ (by omega) (by omega) (by omega) (by omega), Int.toNat_natCast, Int.toNat_natCast]
  congr 1
  rw [show (256 : Nat) ^ i = 2 ^ (8 * i) by rw [Nat.pow_mul]] at hq ⊢
  rw [Nat.or_comm, Nat.mul_comm, ← Nat.two_pow_add_eq_or_of_lt hq, Nat.add_comm]
theorem hi_dg (x i : Nat) : dg (x / 18446744073709551616) i = dg x (8 + i) := by
  unfold dg; exact hi_div x i
structure OS where
  (i : Nat) (h : Nat) (l : Nat)
theorem of_r (x : Nat) (hx : x < 340282366920938463463374607431768211456) : Pu Try.prog 57 #[av (dg x)] (wv x) := Pu.intro fun m => by
  refine Ct.enterV (by rfl) Try.func57 rfl Try.ntmps57 rfl (fun w0 Rest => ?_)
  have hl := tabm_len (dg x)
  have hl1 := tab_len (dg x)
  (repeat' (first | refine zss ?_ | ((first | (with_reducible first | apply At.val | apply AtQ.val)); (exact zprA); exact rfl) | refine zs0 ?_ | ((with_reducible apply At.boxA (d := 1)); exact rfl; exact rfl; intro b1) | ((with_reducible apply At.box (d := 1)); exact rfl; exact rfl; exact rfl; intro b1) | ((with_reducible apply At.alloc (d := 2)); exact rfl; exact rfl; intro b2) | ((with_reducible apply At.alloc (d := 3)); exact rfl; exact rfl; intro b3) | (refine zsp ?_ ?_ <;> (intro hc; (try simp only [zhcs, reduceCtorEq] at hc); (try (exfalso; first | contradiction | omega | exact absurd rfl hc | exact absurd (by decide) hc))))))
  (refine At.loopk (σ := OS) [1, 2, 3] (fun s F0 => (4, .int .i64 (s.i : Int)) :: F0) (fun s => m) (fun s => .blk b3 45 [.int .u64 (s.h : Int), .int .u64 (s.l : Int)] :: .blk b2 45 (wd 0) :: .blk b1 100 ((tab (dg x)).map gi) :: Rest) (fun s => s.i ≤ 8 ∧ s.h = x / 18446744073709551616 % 256 ^ s.i ∧ s.l = x % 256 ^ s.i) (fun s => 8 - s.i) ⟨0, 0, 0⟩ (by rfl) ?_ zsubs zml zente ?_)
  · exact ⟨Nat.zero_le _, by rw [Nat.pow_zero, Nat.mod_one], by rw [Nat.pow_zero, Nat.mod_one]⟩
  rintro ⟨s, p, q⟩ ⟨hs, hp, hq⟩
  dsimp only at hs hp hq ⊢
  by_cases h : s < 8
  · have h1 := dg_lt x s
    have h2 := dg_lt x (8 + s)
    have hp0 : p < 256 ^ s := hp ▸ Nat.mod_lt _ (Nat.pow_pos (by decide))
    have hq0 : q < 256 ^ s := hq ▸ Nat.mod_lt _ (Nat.pow_pos (by decide))
    (repeat' (first | ((with_reducible apply At.mixed (id := 5) 12 (.q 0 (.q 1 (.q 2 (.q 3 (.q 4 (.q 5 (.q 6 (.q 7 (.q 8 (.q 9 (.q 10 (.x 11 .done))))))))))))); exact rfl; kernel_rfl; kernel_rfl; kernel_rfl) | ((with_reducible apply At.mixed (id := 6) 13 (.q 0 (.q 1 (.q 2 (.q 3 (.q 4 (.q 5 (.q 6 (.q 7 (.q 8 (.q 9 (.q 10 (.q 11 (.x 12 .done)))))))))))))); exact rfl; kernel_rfl; kernel_rfl; kernel_rfl) | refine zsx ?_ | refine zss ?_ | ((with_reducible apply AtM.bo); exact rfl; exact rfl; exact rfl) | ((first | (with_reducible first | apply At.val | apply AtQ.val) | ((with_reducible first | apply AtM1.valz | apply AtM1.val); exact rfl) | ((with_reducible apply AtM1.val); exact rfl)); (first | exact pr_indexArr1 (k := 8 + s) (by rfl) (by rfl) (by rfl) (by rfl) (by omega) | exact pr_load_tab (k := s) (by rfl) (by first | exact pk0 | exact pk1 | exact pk2 | exact pk3) (by rfl) (by omega) | exact pr_load_tab (k := 8 + s) (by rfl) (by first | exact pk0 | exact pk1 | exact pk2 | exact pk3) (by rfl) (by omega) | exact pr_or (by rfl) (by rfl) (or_dig hq0 h1 h) | exact pr_or (by rfl) (by rfl) (or_dig hp0 h2 h) | exact zprA); exact rfl) | refine zs0 ?_ | refine zx0 ?_ | ((with_reducible apply At.box (d := 1)); exact rfl; exact rfl; exact rfl; intro b1) | ((with_reducible apply At.alloc (d := 2)); exact rfl; exact rfl; intro b2) | ((with_reducible apply At.alloc (d := 3)); exact rfl; exact rfl; intro b3) | (refine zsp ?_ ?_ <;> (intro hc; (try simp only [zhcs, reduceCtorEq] at hc); (try (exfalso; first | omega | contradiction | omega | exact absurd rfl hc | exact absurd (by decide) hc))))))
    all_goals ((with_reducible refine At.reachk (⟨s + 1, p + 256 ^ s * dg x (8 + s), q + 256 ^ s * dg x s⟩) ?_ ?_ ?_ ?_); exact zsubs; exact zml; exact zente; exact ⟨⟨Nat.succ_le_of_lt h, by show p + _ = _; rw [dig_succ, hp, hi_dg], by show q + _ = _; rw [dig_succ, hq]⟩, by show 8 - (s + 1) < 8 - s; omega⟩)
  · have e8 : s = 8 := by omega
    subst e8
    have e : (256 : Nat) ^ 8 = 18446744073709551616 := rfl
    rw [e] at hp hq
    rw [Nat.mod_eq_of_lt (by omega)] at hp
    subst hp hq
    (repeat' (first | refine zss ?_ | ((first | (with_reducible first | apply At.val | apply AtQ.val)); (exact zprA); exact rfl) | refine zs0 ?_ | ((with_reducible apply At.box (d := 1)); exact rfl; exact rfl; exact rfl; intro b1) | ((with_reducible apply At.alloc (d := 2)); exact rfl; exact rfl; intro b2) | ((with_reducible apply At.alloc (d := 3)); exact rfl; exact rfl; intro b3) | (refine zsp ?_ ?_ <;> (intro hc; (try simp only [zhcs, reduceCtorEq] at hc); (try (exfalso; first | omega | contradiction | omega | exact absurd rfl hc | exact absurd (by decide) hc))))))
    all_goals ((with_reducible apply At.retV (B := [])); exact rfl; (repeat' (first | exact RVs.nil | (with_reducible apply RVs.cons) | exact rv_tmp (by rfl) | exact rv_cellN (by rfl) (by repeat constructor) (by rfl) (by rfl) (by rfl) | exact rv_cell1 (by rfl) (by repeat constructor) (by rfl) (by rfl) | exact rv_cellA (by rfl) (by repeat constructor) (by rfl) (by rfl) zlq)); exact zml; exact zkp; exact ⟨rfl, rfl, rfl⟩)

/-! ### the sum, digit by digit -/
theorem pr_load_tabv {n : Nat} {w0 : World} {F : Fr} {m : Mem} {Rs : List Res} {f : Nat → Nat} {x : Operand} {t : TypeId} {b k v : Nat} {E : TypeId} {Rs' : List Res} (hx : ev F x = some (.pointer (some ⟨b, k, none⟩))) (hp : Pick Rs (.blk b E ((tab f).map gi)) Rs') (ht : isAggB Try.prog t = some false) (hk : k < 16) (hv : f k = v) :
    PR Try.prog n F (HW w0 m Rs) (.load t x) (.int .i64 ((v : Nat) : Int)) := hv ▸ pr_load_tab hx hp ht hk
def cy (x y i : Nat) : Nat := (x % 256 ^ i + y % 256 ^ i) / 256 ^ i
theorem cy_lt (x y i : Nat) : cy x y i < 2 := by
  have h : 0 < 256 ^ i := Nat.pow_pos (by decide)
  unfold cy
  rw [Nat.div_lt_iff_lt_mul h]
  have h1 := Nat.mod_lt x h
  have h2 := Nat.mod_lt y h
  omega
theorem cy_succ (x y i : Nat) : (dg x i + dg y i + cy x y i) / 256 = cy x y (i + 1) := by
  have h : 0 < 256 ^ i := Nat.pow_pos (by decide)
  unfold cy
  rw [dig_succ, dig_succ, Nat.pow_succ, ← Nat.div_div_eq_div_mul]
  congr 1
  rw [show x % 256 ^ i + 256 ^ i * dg x i + (y % 256 ^ i + 256 ^ i * dg y i) = (x % 256 ^ i + y % 256 ^ i) + 256 ^ i * (dg x i + dg y i) by rw [Nat.mul_add]; omega, Nat.add_mul_div_left _ _ h]
  omega
theorem cy_dig (x y i : Nat) : (dg x i + dg y i + cy x y i) % 256 = dg (x + y) i := by
  have h : 0 < 256 ^ i := Nat.pow_pos (by decide)
  unfold dg cy
  have e : (x + y) / 256 ^ i = x / 256 ^ i + y / 256 ^ i + (x % 256 ^ i + y % 256 ^ i) / 256 ^ i := by
    conv => lhs; rw [← Nat.mod_add_div x (256 ^ i), ← Nat.mod_add_div y (256 ^ i)]
    rw [show x % 256 ^ i + 256 ^ i * (x / 256 ^ i) + (y % 256 ^ i + 256 ^ i * (y / 256 ^ i)) = (x % 256 ^ i + y % 256 ^ i) + 256 ^ i * (x / 256 ^ i + y / 256 ^ i) by rw [Nat.mul_add]; omega, Nat.add_mul_div_left _ _ h]
    omega
  rw [e]; omega
theorem cy_end (x y : Nat) (hx : x < 340282366920938463463374607431768211456) (hy : y < 340282366920938463463374607431768211456) : cy x y 16 = (x + y) / 340282366920938463463374607431768211456 := by
  unfold cy
  rw [show (256 : Nat) ^ 16 = 340282366920938463463374607431768211456 from rfl, Nat.mod_eq_of_lt hx, Nat.mod_eq_of_lt hy]
structure AS where
  (i : Nat) (c : Nat)
theorem add_r (x y : Nat) (hx : x < 340282366920938463463374607431768211456) (hy : y < 340282366920938463463374607431768211456) : Pu Try.prog 45 #[wv x, wv y] (.tuple #[wv (sV (x + y)), .int .i64 (sE (x + y))]) := Pu.intro fun m => by
  have hlx := tab_len (dg x)
  have hly := tab_len (dg y)
  have hmx := tabm_len (dg x)
  have hmy := tabm_len (dg y)
  refine Ct.enterV (by rfl) Try.func45 rfl Try.ntmps45 rfl (fun w0 Rest => ?_)
  (repeat' (first | ((with_reducible apply At.mixed (id := 1) 8 (.q 0 (.q 1 (.q 2 (.q 3 (.b 4 5 (.l 5 (.x 6 (.x 7 .done))) (.l 4 (.x 6 (.x 7 .done))))))))); exact rfl; kernel_rfl; kernel_rfl; kernel_rfl) | refine zsx ?_ | refine zss ?_ | ((with_reducible apply AtM.bo); exact rfl; exact rfl; exact rfl) | ((first | (with_reducible first | apply At.val | apply AtQ.val) | ((with_reducible first | apply AtM1.valz | apply AtM1.val); exact rfl) | ((with_reducible apply AtM1.val); exact rfl)); (exact zprA); exact rfl) | refine zs0 ?_ | refine zx0 ?_ | ((with_reducible first | apply AtM1.callp | apply AtQ.callp | apply At.callp); kernel_rfl; exact rfl; exact rfl; exact bytes x hx) | ((with_reducible first | apply AtM1.callp | apply AtQ.callp | apply At.callp); kernel_rfl; exact rfl; exact rfl; exact bytes y hy) | ((with_reducible apply At.storeA); exact rfl; exact rfl; exact rfl; exact all_gi _; exact (by repeat constructor); (first | exact rfl | (first | omega | (simp only [lns] <;> omega))); (first | exact rfl | (first | omega | (simp only [lns] <;> omega)))) | ((with_reducible apply At.box (d := 2)); exact rfl; exact rfl; exact rfl; intro b2) | ((with_reducible apply At.box (d := 3)); exact rfl; exact rfl; exact rfl; intro b3) | ((with_reducible apply At.alloc (d := 4)); exact rfl; exact rfl; intro b4) | ((with_reducible apply At.alloc (d := 6)); exact rfl; exact rfl; intro b6) | ((with_reducible apply At.alloc (d := 7)); exact rfl; exact rfl; intro b7) | (refine zsp ?_ ?_ <;> (intro hc; (try simp only [zhcs, reduceCtorEq] at hc); (try (exfalso; first | contradiction | omega | exact absurd rfl hc | exact absurd (by decide) hc))))))
  all_goals (refine At.loopk (σ := AS) [4, 6, 7] (fun s F0 => (15, .int .i64 (s.i : Int)) :: (8, .int .i64 (s.c : Int)) :: F0) (fun s => m) (fun s => .blk b7 100 ((tab (dg y)).map gi) :: .blk b6 100 ((tab (fun j => if j < s.i then dg (x + y) j else dg x j)).map gi) :: .blk b4 45 (wd 0) :: Rest) (fun s => s.i ≤ 16 ∧ s.c = cy x y s.i) (fun s => 16 - s.i) ⟨0, 0⟩ (by rfl) ?_ zsubs zml zente ?_)
  all_goals try exact ⟨Nat.zero_le _, by simp [cy, Nat.mod_one]⟩
  all_goals
    rintro ⟨s, c⟩ ⟨hs, hc0⟩
    dsimp only at hs hc0 ⊢
    have hc2 := cy_lt x y s
    rw [← hc0] at hc2
    by_cases h : s < 16
    · have h1 := dg_lt x s
      have h2 := dg_lt y s
      have hl := tab_len (fun j => if j < s then dg (x + y) j else dg x j)
      (repeat' (first | refine zss ?_ | ((first | (with_reducible first | apply At.val | apply AtQ.val)); (first | exact pr_load_tabv (k := s) (v := dg x s) (by rfl) (by first | exact pk0 | exact pk1 | exact pk2 | exact pk3) (by rfl) (by omega) (if_neg (Nat.lt_irrefl s)) | exact pr_load_tab (k := s) (by rfl) (by first | exact pk0 | exact pk1 | exact pk2 | exact pk3) (by rfl) (by omega) | exact zprA); exact rfl) | refine zs0 ?_ | ((with_reducible apply At.storeArr (g := gi) (((((dg x s : Nat) : Int) + ((dg y s : Nat) : Int) + (c : Int)) % 256))); exact rfl; exact rfl; exact rfl; exact rfl; exact rfl; exact rfl; exact (by repeat constructor); (first | omega | (simp only [lns] <;> omega))) | ((with_reducible apply At.box (d := 2)); exact rfl; exact rfl; exact rfl; intro b2) | ((with_reducible apply At.box (d := 3)); exact rfl; exact rfl; exact rfl; intro b3) | ((with_reducible apply At.alloc (d := 4)); exact rfl; exact rfl; intro b4) | ((with_reducible apply At.alloc (d := 6)); exact rfl; exact rfl; intro b6) | ((with_reducible apply At.alloc (d := 7)); exact rfl; exact rfl; intro b7) | (refine zsp ?_ ?_ <;> (intro hc; (try simp only [zhcs, reduceCtorEq] at hc); (try (exfalso; first | omega | contradiction | omega | exact absurd rfl hc | exact absurd (by decide) hc))))))
      have e : (tab (fun j => if j < s then dg (x + y) j else dg x j)).set s ((((dg x s : Nat) : Int) + ((dg y s : Nat) : Int) + (c : Int)) % 256) = tab (fun j => if j < s + 1 then dg (x + y) j else dg x j) := by
        rw [show (((dg x s : Nat) : Int) + ((dg y s : Nat) : Int) + (c : Int)) % 256 = ((dg (x + y) s : Nat) : Int) by rw [← cy_dig, ← hc0]; omega, tab_set _ _ h]
        apply tab_congr
        intro j hj
        by_cases e1 : j = s
        · subst e1; rw [if_pos rfl, if_pos (by omega)]
        · rw [if_neg e1]
          by_cases e2 : j < s
          · rw [if_pos e2, if_pos (by omega)]
          · rw [if_neg e2, if_neg (by omega)]
      all_goals (rw [e])
      all_goals ((with_reducible refine At.reachk (⟨s + 1, (dg x s + dg y s + c) / 256⟩) ?_ ?_ ?_ ?_); exact zsubs; exact zml; exact zente; exact ⟨⟨Nat.succ_le_of_lt h, by show _ / 256 = _; rw [hc0, cy_succ]⟩, by show 16 - (s + 1) < 16 - s; omega⟩)
    · have e16 : s = 16 := by omega
      subst e16
      rw [cy_end x y hx hy] at hc0
      have e : tab (fun j => if j < 16 then dg (x + y) j else dg x j) = tab (dg (x + y)) := tab_congr fun j hj => if_pos hj
      rw [e]
      by_cases ho : x + y < 340282366920938463463374607431768211456
      · have e1 : sV (x + y) = x + y := if_pos ho
        have e2 : sE (x + y) = 0 := if_pos ho
        rw [e1, e2]
        have hlz := tabm_len (dg (x + y))
        (repeat' (first | refine zss ?_ | ((first | (with_reducible first | apply At.val | apply AtQ.val)); (exact zprA); exact rfl) | refine zs0 ?_ | ((with_reducible first | apply AtM1.callp | apply AtQ.callp | apply At.callp); kernel_rfl; exact rfl; exact rfl; exact of_r (x + y) ho) | ((with_reducible apply At.box (d := 2)); exact rfl; exact rfl; exact rfl; intro b2) | ((with_reducible apply At.box (d := 3)); exact rfl; exact rfl; exact rfl; intro b3) | ((with_reducible apply At.alloc (d := 4)); exact rfl; exact rfl; intro b4) | ((with_reducible apply At.alloc (d := 6)); exact rfl; exact rfl; intro b6) | ((with_reducible apply At.alloc (d := 7)); exact rfl; exact rfl; intro b7) | (refine zsp ?_ ?_ <;> (intro hc; (try simp only [zhcs, reduceCtorEq] at hc); (try (exfalso; first | omega | contradiction | omega | exact absurd rfl hc | exact absurd (by decide) hc))))))
        all_goals ((with_reducible apply At.retV (B := [])); exact rfl; (repeat' (first | exact RVs.nil | (with_reducible apply RVs.cons) | exact rv_tmp (by rfl) | exact rv_cellN (by rfl) (by repeat constructor) (by rfl) (by rfl) (by rfl) | exact rv_cell1 (by rfl) (by repeat constructor) (by rfl) (by rfl) | exact rv_cellA (by rfl) (by repeat constructor) (by rfl) (by rfl) zlq)); exact zml; exact zkp; exact ⟨rfl, rfl, rfl⟩)
      · have e1 : sV (x + y) = 0 := if_neg ho
        have e2 : sE (x + y) = 1 := if_neg ho
        rw [e1, e2]
        (repeat' (first | refine zss ?_ | ((first | (with_reducible first | apply At.val | apply AtQ.val)); (exact zprA); exact rfl) | refine zs0 ?_ | ((with_reducible apply At.box (d := 2)); exact rfl; exact rfl; exact rfl; intro b2) | ((with_reducible apply At.box (d := 3)); exact rfl; exact rfl; exact rfl; intro b3) | ((with_reducible apply At.alloc (d := 4)); exact rfl; exact rfl; intro b4) | ((with_reducible apply At.alloc (d := 6)); exact rfl; exact rfl; intro b6) | ((with_reducible apply At.alloc (d := 7)); exact rfl; exact rfl; intro b7) | (refine zsp ?_ ?_ <;> (intro hc; (try simp only [zhcs, reduceCtorEq] at hc); (try (exfalso; first | omega | contradiction | omega | exact absurd rfl hc | exact absurd (by decide) hc))))))
        all_goals ((with_reducible apply At.retV (B := [])); exact rfl; (repeat' (first | exact RVs.nil | (with_reducible apply RVs.cons) | exact rv_tmp (by rfl) | exact rv_cellN (by rfl) (by repeat constructor) (by rfl) (by rfl) (by rfl) | exact rv_cell1 (by rfl) (by repeat constructor) (by rfl) (by rfl) | exact rv_cellA (by rfl) (by repeat constructor) (by rfl) (by rfl) zlq)); exact zml; exact zkp; exact ⟨rfl, rfl, rfl⟩)
end Wide
end Go.Proofs.Ytoplagjjojlceaa
/- The document's numbers: the sum of many, which is less, a number many times. -/
set_option linter.unusedSimpArgs false
set_option linter.unusedVariables false
set_option linter.unusedSectionVars false
set_option maxRecDepth 20000
set_option maxHeartbeats 4000000
namespace Go.Proofs.Ytoplagjjojlceaa
open Go Go.J
attribute [local irreducible] At AtQ AtM AtM1 PR Ct Pu Rd Res.blk Res.own Res.ex RVs RV
namespace Wide
--IF plimsoll/plimsollref01.Sum
theorem top_dg (x s : Nat) : x / 256 ^ s = x / 256 ^ (s + 1) * 256 + dg x s := by
  unfold dg
  rw [Nat.pow_succ, ← Nat.div_div_eq_div_mul]
  omega
theorem lt_dg {x y s : Nat} (h : x / 256 ^ (s + 1) = y / 256 ^ (s + 1)) (hd : dg x s < dg y s) : x < y := by
  have h1 := top_dg x s
  have h2 := top_dg y s
  have h3 : x / 256 ^ s < y / 256 ^ s := by omega
  apply Classical.byContradiction
  intro hn
  have := Nat.div_le_div_right (c := 256 ^ s) (Nat.le_of_not_lt hn)
  omega
structure TS where
  (n : Nat) (a : Nat) (A : Nat) (v : Bool) (o : Nat)
end Wide
end Go.Proofs.Ytoplagjjojlceaa
/- The contracts of the package event and of its reference: what two readings tell. -/
set_option linter.unusedSimpArgs false
set_option linter.unusedVariables false
set_option linter.unusedSectionVars false
set_option maxRecDepth 20000
set_option maxHeartbeats 4000000
namespace Go.Proofs.Ytoplagjjojlceaa
open Go Go.J
attribute [local irreducible] At AtQ AtM AtM1 PR Ct Pu Rd Res.blk Res.own Res.ex RVs RV
structure Ev where
  (T : Int) (V : Nat) (C : Int) (S : Bool)
namespace Ev
open Wide
abbrev cells (e : Ev) : List Value := [.int .i64 e.T, .int .u64 (e.V : Int), .int .i64 e.C, .bool e.S]
abbrev v (e : Ev) : Value := .agg (cells e).toArray
instance : Fl cells 4 := ⟨fun _ => rfl, fun x v h => by simp at h; rcases h with rfl | rfl | rfl | rfl <;> rfl, by decide⟩
def ok (e : Ev) : Prop := 0 ≤ e.T ∧ e.T < 35184372088832 ∧ 0 ≤ e.C ∧ e.C ≤ e.T ∧ (e.S = true → e.V = 0 ∧ e.C = 0)
instance (e : Ev) : Decidable e.ok := by unfold ok; infer_instance
abbrev z : Ev := ⟨0, 0, 0, false⟩
instance : Inhabited Ev := ⟨z⟩
def chk (e : Ev) : Int := if e.ok then 0 else 2
theorem ok_t {e : Ev} (hS : e.S = true) : e.ok ↔ (0 ≤ e.T ∧ e.T < 35184372088832 ∧ e.V = 0 ∧ e.C = 0) := by
  unfold ok; rw [hS]; simp only [true_implies]; omega
theorem ok_f {e : Ev} (hS : e.S = false) : e.ok ↔ (0 ≤ e.T ∧ e.T < 35184372088832 ∧ 0 ≤ e.C ∧ e.C ≤ e.T) := by
  unfold ok; rw [hS]; simp
theorem check (e : Ev) : Pu Try.prog 25 #[e.v] (.int .i64 e.chk) := Pu.intro fun m => by
  unfold chk
  cases hS : e.S
  all_goals split
  all_goals rename_i h
  all_goals first | rw [ok_t hS] at h | rw [ok_f hS] at h
  all_goals refine Ct.enterV (by rfl) Try.func25 rfl Try.ntmps25 rfl (fun w0 Rest => ?_)
  all_goals (repeat' (first | refine zss ?_ | ((first | (with_reducible first | apply At.val | apply AtQ.val)); (exact zprA); exact rfl) | refine zs0 ?_ | ((with_reducible apply At.box (d := 1)); exact rfl; exact rfl; exact rfl; intro b1) | (refine zsp ?_ ?_ <;> (intro hc; (try simp only [zhcs, reduceCtorEq] at hc); (try (exfalso; first | (first | omega | exact absurd (hS.symm.trans hc) (by decide) | (simp [hS] at hc; omega)) | contradiction | omega | exact absurd rfl hc | exact absurd (by decide) hc))))))
  all_goals ((with_reducible apply At.retB1 (B := [])); exact rfl; exact rfl; exact zml; exact zkp; exact ⟨rfl, rfl, rfl⟩)
theorem rcheck (e : Ev) : Pu Try.prog 22 #[e.v] (.int .i64 e.chk) := Pu.intro fun m => by
  unfold chk
  cases hS : e.S
  all_goals split
  all_goals rename_i h
  all_goals first | rw [ok_t hS] at h | rw [ok_f hS] at h
  all_goals refine Ct.enterV (by rfl) Try.func22 rfl Try.ntmps22 rfl (fun w0 Rest => ?_)
  all_goals (repeat' (first | refine zss ?_ | ((first | (with_reducible first | apply At.val | apply AtQ.val)); (exact zprA); exact rfl) | refine zs0 ?_ | ((with_reducible apply At.box (d := 1)); exact rfl; exact rfl; exact rfl; intro b1) | (refine zsp ?_ ?_ <;> (intro hc; (try simp only [zhcs, reduceCtorEq] at hc); (try (exfalso; first | (first | omega | exact absurd (hS.symm.trans hc) (by decide) | (simp [hS] at hc; omega)) | contradiction | omega | exact absurd rfl hc | exact absurd (by decide) hc))))))
  all_goals ((with_reducible apply At.retB1 (B := [])); exact rfl; exact rfl; exact zml; exact zkp; exact ⟨rfl, rfl, rfl⟩)

theorem right {m : Mem} (p : Option Addr) (c : Nat) (l : List Ev) (hl : l.length ≤ 1000000) (sl0 : Sl m cells 4 p c l) :
    Rd Try.prog 39 #[.slice p l.length c] m [] (.bool (decide (∀ i, i < l.length → (l[i]!).ok))) := by
  unfold Rd
  refine Ct.enterV (by rfl) Try.func39 rfl Try.ntmps39 rfl (fun w0 Rest => ?_)
  (repeat' (first | refine zss ?_ | ((first | (with_reducible first | apply At.val | apply AtQ.val)); (exact zprA); exact rfl) | refine zsM ?_ | ((with_reducible apply At.alloc (d := 4)); exact rfl; exact rfl; intro b4) | (refine zsp ?_ ?_ <;> (intro hc; (try simp only [zhcs, reduceCtorEq] at hc); (try (exfalso; first | contradiction | omega | exact absurd rfl hc | exact absurd (by decide) hc))))))
  (refine At.loopk (σ := Nat) [5, 6] (fun s F0 => (7, .int .i64 (s : Int)) :: F0) (fun s => m) (fun s => Rest) (fun s => s ≤ l.length ∧ ∀ i, i < s → (l[i]!).ok) (fun s => l.length - s) 0 (by rfl) ?_ zsubs zml zente ?_)
  · exact ⟨Nat.zero_le _, fun i h => absurd h (Nat.not_lt_zero i)⟩
  rintro s ⟨hs, ha⟩
  by_cases h : s < l.length
  · by_cases ho : (l[s]!).ok
    · have hk := check (l[s]!)
      rw [show (l[s]!).chk = 0 from if_pos ho] at hk
      have hn : ∀ i, i < s + 1 → (l[i]!).ok := fun i hi => by
        by_cases e : i = s
        · subst e; exact ho
        · exact ha i (by omega)
      (repeat' (first | refine zss ?_ | ((first | (with_reducible first | apply At.val | apply AtQ.val)); (exact zprA); exact rfl) | refine zsM ?_ | ((with_reducible first | apply AtM1.callp | apply AtQ.callp | apply At.callp); kernel_rfl; exact rfl; exact rfl; exact hk) | ((with_reducible apply At.alloc (d := 4)); exact rfl; exact rfl; intro b4) | (refine zsp ?_ ?_ <;> (intro hc; (try simp only [zhcs, reduceCtorEq] at hc); (try (exfalso; first | omega | contradiction | omega | exact absurd rfl hc | exact absurd (by decide) hc))))))
      all_goals ((with_reducible refine At.reachk ((s + 1)) ?_ ?_ ?_ ?_); exact zsubs; exact zml; exact zente; exact ⟨⟨h, hn⟩, by omega⟩)
    · have hk := check (l[s]!)
      rw [show (l[s]!).chk = 2 from if_neg ho] at hk
      rw [show decide (∀ i, i < l.length → (l[i]!).ok) = false from decide_eq_false fun hh => ho (hh s h)]
      (repeat' (first | refine zss ?_ | ((first | (with_reducible first | apply At.val | apply AtQ.val)); (exact zprA); exact rfl) | refine zsM ?_ | ((with_reducible first | apply AtM1.callp | apply AtQ.callp | apply At.callp); kernel_rfl; exact rfl; exact rfl; exact hk) | ((with_reducible apply At.alloc (d := 4)); exact rfl; exact rfl; intro b4) | (refine zsp ?_ ?_ <;> (intro hc; (try simp only [zhcs, reduceCtorEq] at hc); (try (exfalso; first | omega | contradiction | omega | exact absurd rfl hc | exact absurd (by decide) hc))))))
      all_goals ((with_reducible apply At.retB1 (B := [])); exact rfl; exact rfl; exact zml; exact zkp; exact ⟨rfl, rfl, rfl⟩)
  · rw [show decide (∀ i, i < l.length → (l[i]!).ok) = true from decide_eq_true fun i hi => ha i (by omega)]
    (repeat' (first | refine zss ?_ | ((first | (with_reducible first | apply At.val | apply AtQ.val)); (exact zprA); exact rfl) | refine zsM ?_ | ((with_reducible apply At.alloc (d := 4)); exact rfl; exact rfl; intro b4) | (refine zsp ?_ ?_ <;> (intro hc; (try simp only [zhcs, reduceCtorEq] at hc); (try (exfalso; first | omega | contradiction | omega | exact absurd rfl hc | exact absurd (by decide) hc))))))
    all_goals ((with_reducible apply At.retB1 (B := [])); exact rfl; exact rfl; exact zml; exact zkp; exact ⟨rfl, rfl, rfl⟩)
def two (p c : Ev) : Prop := p.ok ∧ c.ok
instance (p c : Ev) : Decidable (two p c) := by unfold two; infer_instance
theorem right2 {m : Mem} (a b : Ev) (p : Option Addr) (c : Nat) (sl0 : Sl m cells 4 p c [a, b]) (k : Nat) (hk : k = 2) :
    Rd Try.prog 39 #[.slice p k c] m [] (.bool (decide (two a b))) := by
  subst hk
  have := right p c [a, b] (by show 2 ≤ _; decide) sl0
  have e : (∀ i, i < [a, b].length → ([a, b][i]!).ok) ↔ two a b := by
    constructor
    · intro h; exact ⟨h 0 (by show 0 < 2; decide), h 1 (by show 1 < 2; decide)⟩
    · rintro ⟨h1, h2⟩ i hi
      rcases i with _ | _ | i
      · exact h1
      · exact h2
      · have : i + 1 + 1 < 2 := hi; omega
  rw [show decide (∀ i, i < [a, b].length → ([a, b][i]!).ok) = decide (two a b) by rw [decide_eq_decide]; exact e] at this
  exact this
def fol (p c : Ev) : Bool := decide (two p c) && decide (p.T < c.T)
theorem follow (p c : Ev) : Pu Try.prog 28 #[p.v, c.v] (.bool (fol p c)) := Pu.of_le fun m => by
  by_cases h : two p c
  · refine Ct.enterV (by rfl) Try.func28 rfl Try.ntmps28 rfl (fun w0 Rest => ?_)
    rw [show fol p c = decide (p.T < c.T) by unfold fol; rw [decide_eq_true h, Bool.true_and]]
    (repeat' (first | refine zss ?_ | ((first | (with_reducible first | apply At.val | apply AtQ.val)); (first | exact pr_move (by rw [decide_eq_true h]; rfl) | exact zprA); exact rfl) | refine zsM ?_ | ((with_reducible apply At.lit cells [p, c]); exact inferInstance; (iterate 7 exact rfl); intro _) | (refine At.own_freeze inferInstance (by repeat constructor) fun m' hm' sl0 => ?_; skip) | ((with_reducible first | apply AtM1.cr | apply AtQ.cr | apply At.cr); exact rfl; exact rfl; exact fun _ hmm => right2 p c _ _ (Sl.mono sl0 hmm) 2 rfl; exact ztk; kernel_rfl) | ((with_reducible apply At.box (d := 2)); exact rfl; exact rfl; exact rfl; intro b2) | ((with_reducible apply At.box (d := 3)); exact rfl; exact rfl; exact rfl; intro b3) | (refine zsp ?_ ?_ <;> (intro hc; (try simp only [zhcs, reduceCtorEq] at hc); (try (exfalso; first | contradiction | omega | exact absurd rfl hc | exact absurd (by decide) hc))))))
    all_goals ((with_reducible apply At.retB1 (B := [])); exact rfl; exact rfl; exact zml; exact zkp; exact ⟨rfl, by assumption, rfl⟩)
  · refine Ct.enterV (by rfl) Try.func28 rfl Try.ntmps28 rfl (fun w0 Rest => ?_)
    rw [show fol p c = false by unfold fol; rw [decide_eq_false h, Bool.false_and]]
    (repeat' (first | refine zss ?_ | ((first | (with_reducible first | apply At.val | apply AtQ.val)); (first | exact pr_move (by rw [decide_eq_false h]; rfl) | exact zprA); exact rfl) | refine zsM ?_ | ((with_reducible apply At.lit cells [p, c]); exact inferInstance; (iterate 7 exact rfl); intro _) | (refine At.own_freeze inferInstance (by repeat constructor) fun m' hm' sl0 => ?_; skip) | ((with_reducible first | apply AtM1.cr | apply AtQ.cr | apply At.cr); exact rfl; exact rfl; exact fun _ hmm => right2 p c _ _ (Sl.mono sl0 hmm) 2 rfl; exact ztk; kernel_rfl) | ((with_reducible apply At.box (d := 2)); exact rfl; exact rfl; exact rfl; intro b2) | ((with_reducible apply At.box (d := 3)); exact rfl; exact rfl; exact rfl; intro b3) | (refine zsp ?_ ?_ <;> (intro hc; (try simp only [zhcs, reduceCtorEq] at hc); (try (exfalso; first | contradiction | omega | exact absurd rfl hc | exact absurd (by decide) hc))))))
    all_goals ((with_reducible apply At.retB1 (B := [])); exact rfl; exact rfl; exact zml; exact zkp; exact ⟨rfl, by assumption, rfl⟩)
end Ev
structure Cell where
  (n : Int) (F : Ev) (L : Ev) (I : Nat) (R : Int) (G : Int) (X : Int)
namespace Cell
open Wide
abbrev cells (c : Cell) : List Value := [.int .i64 c.n, .int .i64 c.F.T, .int .u64 (c.F.V : Int), .int .i64 c.F.C, .bool c.F.S, .int .i64 c.L.T, .int .u64 (c.L.V : Int), .int .i64 c.L.C, .bool c.L.S,
  .int .u64 ((c.I / 18446744073709551616 : Nat) : Int), .int .u64 ((c.I % 18446744073709551616 : Nat) : Int), .int .i64 c.R, .int .i64 c.G, .int .i64 c.X]
abbrev v (c : Cell) : Value := .agg (cells c).toArray
instance : Fl cells 14 := ⟨fun _ => rfl, fun x v h => by simp at h; rcases h with rfl | rfl | rfl | rfl | rfl | rfl | rfl | rfl | rfl | rfl | rfl | rfl | rfl | rfl <;> rfl, by decide⟩
abbrev mk' (I : Nat) (R G X : Int) : Cell := ⟨0, Ev.z, Ev.z, I, R, G, X⟩
abbrev z : Cell := mk' 0 0 0 0
theorem mk_eq {I : Nat} {h l R G X : Int} (hh : h = ((I / 18446744073709551616 : Nat) : Int)) (hl : l = ((I % 18446744073709551616 : Nat) : Int)) :
    Value.agg #[.int .i64 0, .int .i64 0, .int .u64 0, .int .i64 0, .bool false, .int .i64 0, .int .u64 0, .int .i64 0, .bool false, .int .u64 h, .int .u64 l, .int .i64 R, .int .i64 G, .int .i64 X] = (mk' I R G X).v := by subst hh hl; rfl
end Cell
namespace Ev
def btw (p c : Ev) : Cell × Int :=
  if ¬ two p c then (Cell.z, 2) else if c.T ≤ p.T then (Cell.z, 9) else if c.S = true then (Cell.z, 0) else if p.T < c.C then (Cell.mk' c.V 1 0 (c.T - c.C), 0)
  else if p.S = true then (Cell.mk' 0 0 1 0, 0) else if c.V < p.V then (Cell.mk' c.V 1 0 (c.T - p.T), 0) else (Cell.mk' (c.V - p.V) 0 0 (c.T - p.T), 0)
theorem wide_lo {n : Nat} (h : n < 18446744073709551616) : n / 18446744073709551616 = 0 ∧ n % 18446744073709551616 = n := ⟨by omega, by omega⟩
theorem anew (c : Ev) (x : Int) (hV : c.V < 18446744073709551616) : Pu Try.prog 70 #[c.v, .int .i64 x] (Cell.mk' c.V 1 0 x).v := Pu.intro fun m => by
  refine Ct.enterV (by rfl) Try.func70 rfl Try.ntmps70 rfl (fun w0 Rest => ?_)
  (repeat' (first | refine zss ?_ | ((first | (with_reducible first | apply At.val | apply AtQ.val)); (exact zprA); exact rfl) | refine zs0 ?_ | ((with_reducible first | apply AtM1.callp | apply AtQ.callp | apply At.callp); kernel_rfl; exact rfl; exact rfl; exact Wide.of_ c.V hV) | ((with_reducible apply At.box (d := 2)); exact rfl; exact rfl; exact rfl; intro b2) | ((with_reducible apply At.alloc (d := 4)); exact rfl; exact rfl; intro b4) | (refine zsp ?_ ?_ <;> (intro hc; (try simp only [zhcs, reduceCtorEq] at hc); (try (exfalso; first | contradiction | omega | exact absurd rfl hc | exact absurd (by decide) hc))))))
  all_goals ((with_reducible apply At.retV (B := [])); exact rfl; (repeat' (first | exact RVs.nil | (with_reducible apply RVs.cons) | exact rv_tmp (by rfl) | exact rv_cellN (by rfl) (by repeat constructor) (by rfl) (by rfl) (by rfl) | exact rv_cell1 (by rfl) (by repeat constructor) (by rfl) (by rfl) | exact rv_cellA (by rfl) (by repeat constructor) (by rfl) (by rfl) zlq)); exact zml; exact zkp; exact ⟨rfl, rfl, rfl⟩)
theorem between (p c : Ev) (hp : p.V < 18446744073709551616) (hc : c.V < 18446744073709551616) : Pu Try.prog 65 #[p.v, c.v] (.tuple #[(btw p c).1.v, .int .i64 (btw p c).2]) := Pu.of_le fun m => by
  have hV := hc
  clear hc
  rcases hb : btw p c with ⟨x, w⟩
  unfold btw at hb
  refine Ct.enterV (by rfl) Try.func65 rfl Try.ntmps65 rfl (fun w0 Rest => ?_)
  by_cases h : two p c
  · rw [if_neg (not_not_intro h)] at hb
    have ⟨h1, h2⟩ := h
    unfold ok at h1 h2
    obtain ⟨h11, h12, h13, h14, h15⟩ := h1
    obtain ⟨h21, h22, h23, h24, h25⟩ := h2
    repeat' split at hb
    all_goals cases hb
    all_goals (repeat' (first | ((with_reducible apply At.mixed (id := 13) 14 (.q 0 (.q 1 (.q 2 (.q 3 (.q 4 (.q 5 (.q 6 (.q 7 (.q 8 (.q 9 (.q 10 (.q 11 (.x 12 (.q 13 .done))))))))))))))); exact rfl; kernel_rfl; kernel_rfl; kernel_rfl) | refine zsx ?_ | refine zss ?_ | ((with_reducible apply AtM.bo); exact rfl; exact rfl; exact rfl) | ((first | (with_reducible first | apply At.val | apply AtQ.val) | ((with_reducible first | apply AtM1.valz | apply AtM1.val); exact rfl) | ((with_reducible apply AtM1.val); exact rfl)); (first | exact pr_not (by rw [decide_eq_true h]; rfl) | exact zprA); exact rfl) | refine zsM ?_ | refine zxM ?_ | ((with_reducible apply At.lit cells [p, c]); exact inferInstance; (iterate 7 exact rfl); intro _) | (refine At.own_freeze inferInstance (by repeat constructor) fun m' hm' sl0 => ?_; skip) | ((with_reducible first | apply AtM1.cr | apply AtQ.cr | apply At.cr); exact rfl; exact rfl; exact fun _ hmm => right2 p c _ _ (Sl.mono sl0 hmm) 2 rfl; exact ztk; kernel_rfl) | ((with_reducible first | apply AtM1.callp | apply AtQ.callp | apply At.callp); kernel_rfl; exact rfl; exact rfl; exact anew c _ hV) | ((with_reducible first | apply AtM1.callp | apply AtQ.callp | apply At.callp); kernel_rfl; exact rfl; exact rfl; exact Wide.of_ (c.V - p.V) (by omega)) | ((with_reducible first | apply AtM1.callp | apply AtQ.callp | apply At.callp); kernel_rfl; exact rfl; exact rfl; exact Wide.ofI _ (by omega) (by omega)) | ((with_reducible apply At.box (d := 2)); exact rfl; exact rfl; exact rfl; intro b2) | ((with_reducible apply At.box (d := 3)); exact rfl; exact rfl; exact rfl; intro b3) | ((with_reducible apply At.alloc (d := 4)); exact rfl; exact rfl; intro b4) | (refine zsp ?_ ?_ <;> (intro hc; (try simp only [zhcs, reduceCtorEq] at hc); (try (exfalso; first | (first | omega | (exact absurd hc (by assumption)) | (simp_all; done)) | contradiction | omega | exact absurd rfl hc | exact absurd (by decide) hc))))))
    all_goals ((with_reducible apply At.retV (B := [])); exact rfl; (repeat' (first | exact RVs.nil | (with_reducible apply RVs.cons) | exact rv_tmp (by rfl) | exact rv_cellN (by rfl) (by repeat constructor) (by rfl) (by rfl) (by rfl) | exact rv_cell1 (by rfl) (by repeat constructor) (by rfl) (by rfl) | exact rv_cellA (by rfl) (by repeat constructor) (by rfl) (by rfl) zlq)); exact zml; exact zkp; exact ⟨by first | rfl | (rw [Int.toNat_sub]; rfl), by assumption, rfl⟩)
  · rw [if_pos h] at hb
    cases hb
    (repeat' (first | refine zss ?_ | ((first | (with_reducible first | apply At.val | apply AtQ.val)); (first | exact pr_not (by rw [decide_eq_false h]; rfl) | exact zprA); exact rfl) | refine zsM ?_ | ((with_reducible apply At.lit cells [p, c]); exact inferInstance; (iterate 7 exact rfl); intro _) | (refine At.own_freeze inferInstance (by repeat constructor) fun m' hm' sl0 => ?_; skip) | ((with_reducible first | apply AtM1.cr | apply AtQ.cr | apply At.cr); exact rfl; exact rfl; exact fun _ hmm => right2 p c _ _ (Sl.mono sl0 hmm) 2 rfl; exact ztk; kernel_rfl) | ((with_reducible apply At.box (d := 2)); exact rfl; exact rfl; exact rfl; intro b2) | ((with_reducible apply At.box (d := 3)); exact rfl; exact rfl; exact rfl; intro b3) | ((with_reducible apply At.alloc (d := 4)); exact rfl; exact rfl; intro b4) | (refine zsp ?_ ?_ <;> (intro hc; (try simp only [zhcs, reduceCtorEq] at hc); (try (exfalso; first | contradiction | omega | exact absurd rfl hc | exact absurd (by decide) hc))))))
    all_goals ((with_reducible apply At.retV (B := [])); exact rfl; (repeat' (first | exact RVs.nil | (with_reducible apply RVs.cons) | exact rv_tmp (by rfl) | exact rv_cellN (by rfl) (by repeat constructor) (by rfl) (by rfl) (by rfl) | exact rv_cell1 (by rfl) (by repeat constructor) (by rfl) (by rfl) | exact rv_cellA (by rfl) (by repeat constructor) (by rfl) (by rfl) zlq)); exact zml; exact zkp; exact ⟨rfl, by assumption, rfl⟩)
set_option maxHeartbeats 4000000 in
theorem rbetween (p c : Ev) (hp : p.V < 18446744073709551616) (hc : c.V < 18446744073709551616) : Pu Try.prog 44 #[p.v, c.v] (.tuple #[(btw p c).1.v, .int .i64 (btw p c).2]) := Pu.intro fun m => by
  have hV := hc
  clear hc
  have kp := rcheck p
  have kc := rcheck c
  unfold chk at kp kc
  rcases hb : btw p c with ⟨x, w⟩
  unfold btw at hb
  refine Ct.enterV (by rfl) Try.func44 rfl Try.ntmps44 rfl (fun w0 Rest => ?_)
  by_cases h : two p c
  · rw [if_neg (not_not_intro h)] at hb
    rw [if_pos h.1] at kp
    rw [if_pos h.2] at kc
    have ⟨h1, h2⟩ := h
    unfold ok at h1 h2
    obtain ⟨h11, h12, h13, h14, h15⟩ := h1
    obtain ⟨h21, h22, h23, h24, h25⟩ := h2
    repeat' split at hb
    all_goals cases hb
    all_goals (repeat' (first | ((with_reducible apply At.mixedX (id := 9) [.blk b6 47 (Cell.cells Cell.z)] 14 (.q 0 (.q 1 (.q 2 (.q 3 (.q 4 (.q 5 (.q 6 (.q 7 (.q 8 (.l 9 (.q 10 (.l 11 (.q 12 (.x 13 .done))))))))))))))); (repeat' (first | exact Take.nil | ((with_reducible apply Take.cons); (focus ((repeat constructor); done))))); exact rfl; kernel_rfl; kernel_rfl; kernel_rfl) | ((with_reducible apply At.mixedX (id := 13) [.blk b6 47 (Cell.cells Cell.z)] 14 (.q 0 (.q 1 (.q 2 (.q 3 (.q 4 (.q 5 (.q 6 (.q 7 (.q 8 (.l 9 (.q 10 (.l 11 (.q 12 (.x 13 .done))))))))))))))); (repeat' (first | exact Take.nil | ((with_reducible apply Take.cons); (focus ((repeat constructor); done))))); exact rfl; kernel_rfl; kernel_rfl; kernel_rfl) | ((with_reducible apply At.mixedX (id := 6) [.blk b6 47 (Cell.cells Cell.z)] 15 (.q 0 (.q 1 (.q 2 (.q 3 (.q 4 (.q 5 (.q 6 (.q 7 (.q 8 (.q 9 (.q 10 (.q 11 (.l 12 (.q 13 (.x 14 .done)))))))))))))))); (repeat' (first | exact Take.nil | ((with_reducible apply Take.cons); (focus ((repeat constructor); done))))); exact rfl; kernel_rfl; kernel_rfl; kernel_rfl) | refine zsx ?_ | refine zss ?_ | ((with_reducible apply AtM.bo); exact rfl; exact rfl; exact rfl) | ((first | (with_reducible first | apply At.val | apply AtQ.val) | ((with_reducible first | apply AtM1.valz | apply AtM1.val); exact rfl) | ((with_reducible apply AtM1.val); exact rfl)); (exact zprA); exact rfl) | refine zs0 ?_ | refine zx0 ?_ | ((with_reducible first | apply AtM1.callp | apply AtQ.callp | apply At.callp); kernel_rfl; exact rfl; exact rfl; exact kp) | ((with_reducible first | apply AtM1.callp | apply AtQ.callp | apply At.callp); kernel_rfl; exact rfl; exact rfl; exact kc) | ((with_reducible apply At.box (d := 2)); exact rfl; exact rfl; exact rfl; intro b2) | ((with_reducible apply At.box (d := 3)); exact rfl; exact rfl; exact rfl; intro b3) | ((with_reducible apply At.alloc (d := 4)); exact rfl; exact rfl; intro b4) | ((with_reducible apply At.alloc (d := 6)); exact rfl; exact rfl; intro b6) | (refine zsp ?_ ?_ <;> (intro hc; (try simp only [zhcs, reduceCtorEq] at hc); (try (exfalso; first | (first | omega | (exact absurd hc (by assumption)) | (simp_all; done)) | contradiction | omega | exact absurd rfl hc | exact absurd (by decide) hc))))))
    all_goals ((with_reducible apply At.retV (B := [])); exact rfl; (repeat' (first | exact RVs.nil | (with_reducible apply RVs.cons) | exact rv_tmp (by rfl) | exact rv_cellN (by rfl) (by repeat constructor) (by rfl) (by rfl) (by rfl) | exact rv_cell1 (by rfl) (by repeat constructor) (by rfl) (by rfl) | exact rv_cellA (by rfl) (by repeat constructor) (by rfl) (by rfl) zlq)); exact zml; exact zkp; exact ⟨by first | rfl | exact congrArg (fun v => Value.tuple #[v, .int .i64 0]) (Cell.mk_eq (by omega) (by omega)), rfl, rfl⟩)
  · rw [if_pos h] at hb
    cases hb
    by_cases h1 : p.ok
    · rw [if_pos h1] at kp
      rw [if_neg fun h2 => h ⟨h1, h2⟩] at kc
      (repeat' (first | refine zss ?_ | ((first | (with_reducible first | apply At.val | apply AtQ.val)); (exact zprA); exact rfl) | refine zs0 ?_ | ((with_reducible first | apply AtM1.callp | apply AtQ.callp | apply At.callp); kernel_rfl; exact rfl; exact rfl; exact kp) | ((with_reducible first | apply AtM1.callp | apply AtQ.callp | apply At.callp); kernel_rfl; exact rfl; exact rfl; exact kc) | ((with_reducible apply At.box (d := 2)); exact rfl; exact rfl; exact rfl; intro b2) | ((with_reducible apply At.box (d := 3)); exact rfl; exact rfl; exact rfl; intro b3) | ((with_reducible apply At.alloc (d := 4)); exact rfl; exact rfl; intro b4) | ((with_reducible apply At.alloc (d := 6)); exact rfl; exact rfl; intro b6) | (refine zsp ?_ ?_ <;> (intro hc; (try simp only [zhcs, reduceCtorEq] at hc); (try (exfalso; first | contradiction | omega | exact absurd rfl hc | exact absurd (by decide) hc))))))
      all_goals ((with_reducible apply At.retV (B := [])); exact rfl; (repeat' (first | exact RVs.nil | (with_reducible apply RVs.cons) | exact rv_tmp (by rfl) | exact rv_cellN (by rfl) (by repeat constructor) (by rfl) (by rfl) (by rfl) | exact rv_cell1 (by rfl) (by repeat constructor) (by rfl) (by rfl) | exact rv_cellA (by rfl) (by repeat constructor) (by rfl) (by rfl) zlq)); exact zml; exact zkp; exact ⟨rfl, rfl, rfl⟩)
    · rw [if_neg h1] at kp
      (repeat' (first | refine zss ?_ | ((first | (with_reducible first | apply At.val | apply AtQ.val)); (exact zprA); exact rfl) | refine zs0 ?_ | ((with_reducible first | apply AtM1.callp | apply AtQ.callp | apply At.callp); kernel_rfl; exact rfl; exact rfl; exact kp) | ((with_reducible apply At.box (d := 2)); exact rfl; exact rfl; exact rfl; intro b2) | ((with_reducible apply At.box (d := 3)); exact rfl; exact rfl; exact rfl; intro b3) | ((with_reducible apply At.alloc (d := 4)); exact rfl; exact rfl; intro b4) | ((with_reducible apply At.alloc (d := 6)); exact rfl; exact rfl; intro b6) | (refine zsp ?_ ?_ <;> (intro hc; (try simp only [zhcs, reduceCtorEq] at hc); (try (exfalso; first | contradiction | omega | exact absurd rfl hc | exact absurd (by decide) hc))))))
      all_goals ((with_reducible apply At.retV (B := [])); exact rfl; (repeat' (first | exact RVs.nil | (with_reducible apply RVs.cons) | exact rv_tmp (by rfl) | exact rv_cellN (by rfl) (by repeat constructor) (by rfl) (by rfl) (by rfl) | exact rv_cell1 (by rfl) (by repeat constructor) (by rfl) (by rfl) | exact rv_cellA (by rfl) (by repeat constructor) (by rfl) (by rfl) zlq)); exact zml; exact zkp; exact ⟨rfl, rfl, rfl⟩)
end Ev
end Go.Proofs.Ytoplagjjojlceaa
/- Lists of events: right ones, those that rise by time, comparisons. -/
set_option linter.unusedSimpArgs false
set_option linter.unusedVariables false
set_option linter.unusedSectionVars false
set_option maxRecDepth 20000
set_option maxHeartbeats 4000000
namespace Go.Proofs.Ytoplagjjojlceaa
open Go Go.J
attribute [local irreducible] At AtQ AtM AtM1 PR Ct Pu Rd Res.blk Res.own Res.ex RVs RV
namespace Mrg
open Ev
def aok (l : List Ev) : Prop := ∀ i, i < l.length → (l[i]!).ok
def asc (l : List Ev) : Prop := ∀ i, i < l.length - 1 → (l[i]!).T < (l[i + 1]!).T
instance (l : List Ev) : Decidable (aok l) := by unfold aok; infer_instance
instance (l : List Ev) : Decidable (asc l) := by unfold asc; infer_instance
def chk (l : List Ev) : Int := if aok l then (if asc l then 0 else 9) else 2
theorem ev_ext {a b : Ev} (h1 : a.T = b.T) (h2 : a.V = b.V) (h3 : a.C = b.C) (h4 : a.S = b.S) : a = b := by
  cases a; cases b; cases h1; cases h2; cases h3; cases h4; rfl
instance : DecidableEq Ev := fun a b => decidable_of_iff (a.T = b.T ∧ a.V = b.V ∧ a.C = b.C ∧ a.S = b.S) ⟨fun h => ev_ext h.1 h.2.1 h.2.2.1 h.2.2.2, fun h => h ▸ ⟨rfl, rfl, rfl, rfl⟩⟩
theorem and_ev (a b : Ev) : andL [decide (a.T = b.T), decide ((a.V : Int) = (b.V : Int)), decide (a.C = b.C), a.S == b.S] = decide (a = b) := by
  by_cases h : a = b
  · subst h; simp [andL_cons, andL_nil]
  · rw [decide_eq_false h]
    cases hb : andL [decide (a.T = b.T), decide ((a.V : Int) = (b.V : Int)), decide (a.C = b.C), a.S == b.S] with
    | false => rfl
    | true =>
      simp only [andL_cons, andL_nil, Bool.and_eq_true, decide_eq_true_eq, beq_iff_eq] at hb
      exact absurd (ev_ext hb.1 (by omega) hb.2.2.1 hb.2.2.2.1) h
theorem pr_evne {n : Nat} {F : Fr} {C : World → Prop} {x y : Operand} {u : TypeId} {a b : Ev} (hx : ev F x = some a.v) (hy : ev F y = some b.v) : PR Try.prog n F C (.binOp .neq 32 x y u) (.bool (!decide (a = b))) := by
  rw [← and_ev]
  exact pr_aggne2 hx hy (by rfl) (by kernel_rfl) (by kernel_rfl) (by rfl)
theorem pr_eveq {n : Nat} {F : Fr} {C : World → Prop} {x y : Operand} {u : TypeId} {a b : Ev} (hx : ev F x = some a.v) (hy : ev F y = some b.v) : PR Try.prog n F C (.binOp .eql 32 x y u) (.bool (decide (a = b))) := by
  rw [← and_ev]
  exact pr_aggeq2 hx hy (by rfl) (by kernel_rfl) (by kernel_rfl) (by rfl)
abbrev Asc (l : List Ev) : Prop := l.Pairwise (fun x y => x.T < y.T)
theorem asc_of : ∀ {l : List Ev}, asc l → Asc l
  | [], _ => .nil
  | [x], _ => List.pairwise_singleton _ _
  | x :: y :: l, h => by
    have h1 : x.T < y.T := h 0 (by simp)
    have h2 : Asc (y :: l) := asc_of fun i hi => h (i + 1) (by simp at hi ⊢; omega)
    refine List.Pairwise.cons (fun z hz => ?_) h2
    rcases List.mem_cons.1 hz with rfl | hz
    · exact h1
    · exact Int.lt_trans h1 ((List.pairwise_cons.1 h2).1 z hz)
theorem asc_to {l : List Ev} (h : Asc l) : asc l := fun i hi => by
  rw [getElem!_pos l i (by omega), getElem!_pos l (i + 1) (by omega)]
  exact List.pairwise_iff_getElem.1 h i (i + 1) (by omega) (by omega) (by omega)
theorem aok_iff {l : List Ev} : aok l ↔ ∀ e ∈ l, e.ok := by
  constructor
  · intro h e he
    obtain ⟨i, hi, rfl⟩ := List.mem_iff_getElem.1 he
    have := h i hi
    rwa [getElem!_pos l i hi] at this
  · intro h i hi
    rw [getElem!_pos l i hi]
    exact h _ (List.getElem_mem hi)
theorem chk_zero {l : List Ev} : chk l = 0 ↔ (∀ e ∈ l, e.ok) ∧ Asc l := by
  unfold chk
  rw [← aok_iff]
  by_cases h1 : aok l
  · rw [if_pos h1]
    by_cases h2 : asc l
    · rw [if_pos h2]; exact ⟨fun _ => ⟨h1, asc_of h2⟩, fun _ => rfl⟩
    · rw [if_neg h2]; exact ⟨fun h => absurd h (by decide), fun h => absurd (asc_to h.2) h2⟩
  · rw [if_neg h1]; exact ⟨fun h => absurd h (by decide), fun h => absurd h.1 h1⟩
theorem asc_inj {l : List Ev} (h : Asc l) {x y : Ev} (hx : x ∈ l) (hy : y ∈ l) (e : x.T = y.T) : x = y := by
  induction l with
  | nil => cases hx
  | cons z l ih =>
    obtain ⟨h1, h2⟩ := List.pairwise_cons.1 h
    rcases List.mem_cons.1 hx with ex | hx1 <;> rcases List.mem_cons.1 hy with ey | hy1
    · rw [ex, ey]
    · have := h1 y hy1; subst ex; omega
    · have := h1 x hx1; subst ey; omega
    · exact ih h2 hx1 hy1
theorem asc_ext : ∀ {l l' : List Ev}, Asc l → Asc l' → (∀ e, e ∈ l ↔ e ∈ l') → l = l'
  | [], [], _, _, _ => rfl
  | [], y :: l', _, _, h => absurd ((h y).2 (List.mem_cons_self ..)) (by simp)
  | x :: l, [], _, _, h => absurd ((h x).1 (List.mem_cons_self ..)) (by simp)
  | x :: l, y :: l', h1, h2, h => by
    obtain ⟨a1, a2⟩ := List.pairwise_cons.1 h1
    obtain ⟨b1, b2⟩ := List.pairwise_cons.1 h2
    have e : x = y := by
      rcases List.mem_cons.1 ((h x).1 (List.mem_cons_self ..)) with hx | hx
      · exact hx
      · rcases List.mem_cons.1 ((h y).2 (List.mem_cons_self ..)) with hy | hy
        · exact hy.symm
        · have := b1 x hx; have := a1 y hy; omega
    subst e
    congr 1
    refine asc_ext a2 b2 fun e => ⟨fun he => ?_, fun he => ?_⟩
    · rcases List.mem_cons.1 ((h e).1 (List.mem_cons_of_mem _ he)) with rfl | h3
      · have := a1 e he; omega
      · exact h3
    · rcases List.mem_cons.1 ((h e).2 (List.mem_cons_of_mem _ he)) with rfl | h3
      · have := b1 e he; omega
      · exact h3
/-- SameList -/
theorem same {m : Mem} (p : Option Addr) (c : Nat) (a : List Ev) (q : Option Addr) (d : Nat) (b : List Ev) (hl : a.length ≤ 1000000) (hlb : b.length ≤ 1000000) (sl0 : Sl m cells 4 p c a) (sl1 : Sl m cells 4 q d b) :
    Rd Try.prog 17 #[.slice p a.length c, .slice q b.length d] m [] (.bool (decide (a = b))) := by
  unfold Rd
  by_cases hlen : a.length = b.length
  · refine Ct.enterV (by rfl) Try.func17 rfl Try.ntmps17 rfl (fun w0 Rest => ?_)
    (repeat' (first | refine zss ?_ | ((first | (with_reducible first | apply At.val | apply AtQ.val)); (exact zprA); exact rfl) | refine zsM ?_ | (refine zsp ?_ ?_ <;> (intro hc; (try simp only [zhcs, reduceCtorEq] at hc); (try (exfalso; first | omega | contradiction | omega | exact absurd rfl hc | exact absurd (by decide) hc))))))
    (refine At.loopk (σ := Nat) [0, 1, 12] (fun s F0 => (13, .int .i64 (s : Int)) :: F0) (fun s => m) (fun s => Rest) (fun s => s ≤ a.length ∧ ∀ i, i < s → a[i]! = b[i]!) (fun s => a.length - s) 0 (by rfl) ?_ zsubs zml zente ?_)
    · exact ⟨Nat.zero_le _, fun i h => absurd h (Nat.not_lt_zero i)⟩
    rintro s ⟨hs, hn⟩
    by_cases h : s < a.length
    · by_cases e : a[s]! = b[s]!
      · have hnn : ∀ i, i < s + 1 → a[i]! = b[i]! := fun i hi => by
          by_cases e1 : i = s
          · subst e1; exact e
          · exact hn i (by omega)
        (repeat' (first | refine zss ?_ | ((first | (with_reducible first | apply At.val | apply AtQ.val)); (first | exact pr_evne (by rfl) (by rfl) | exact zprA); exact rfl) | refine zsM ?_ | (refine zsp ?_ ?_ <;> (intro hc; (try simp only [zhcs, reduceCtorEq] at hc); (try (exfalso; first | (first | omega | exact absurd e hc) | contradiction | omega | exact absurd rfl hc | exact absurd (by decide) hc))))))
        all_goals ((with_reducible refine At.reachk ((s + 1)) ?_ ?_ ?_ ?_); exact zsubs; exact zml; exact zente; exact ⟨⟨h, hnn⟩, by omega⟩)
      · rw [decide_eq_false (show ¬ a = b from fun h => e (by rw [h]))]
        (repeat' (first | refine zss ?_ | ((first | (with_reducible first | apply At.val | apply AtQ.val)); (first | exact pr_evne (by rfl) (by rfl) | exact zprA); exact rfl) | refine zsM ?_ | (refine zsp ?_ ?_ <;> (intro hc; (try simp only [zhcs, reduceCtorEq] at hc); (try (exfalso; first | (first | omega | exact absurd hc e) | contradiction | omega | exact absurd rfl hc | exact absurd (by decide) hc))))))
        all_goals ((with_reducible apply At.retB1 (B := [])); exact rfl; exact rfl; exact zml; exact zkp; exact ⟨rfl, rfl, rfl⟩)
    · rw [decide_eq_true (show a = b from List.ext_getElem hlen fun i h1 h2 => by have := hn i (by omega); rwa [getElem!_pos a i h1, getElem!_pos b i h2] at this)]
      (repeat' (first | refine zss ?_ | ((first | (with_reducible first | apply At.val | apply AtQ.val)); (exact zprA); exact rfl) | refine zsM ?_ | (refine zsp ?_ ?_ <;> (intro hc; (try simp only [zhcs, reduceCtorEq] at hc); (try (exfalso; first | omega | contradiction | omega | exact absurd rfl hc | exact absurd (by decide) hc))))))
      all_goals ((with_reducible apply At.retB1 (B := [])); exact rfl; exact rfl; exact zml; exact zkp; exact ⟨rfl, rfl, rfl⟩)
  · rw [decide_eq_false (show ¬ a = b from fun h => hlen (by rw [h]))]
    refine Ct.enterV (by rfl) Try.func17 rfl Try.ntmps17 rfl (fun w0 Rest => ?_)
    (repeat' (first | refine zss ?_ | ((first | (with_reducible first | apply At.val | apply AtQ.val)); (exact zprA); exact rfl) | refine zsM ?_ | (refine zsp ?_ ?_ <;> (intro hc; (try simp only [zhcs, reduceCtorEq] at hc); (try (exfalso; first | omega | contradiction | omega | exact absurd rfl hc | exact absurd (by decide) hc))))))
    all_goals ((with_reducible apply At.retB1 (B := [])); exact rfl; exact rfl; exact zml; exact zkp; exact ⟨rfl, rfl, rfl⟩)
end Mrg
end Go.Proofs.Ytoplagjjojlceaa
/- append where there is no room: to whatever can be read, into what is new. -/
set_option linter.unusedSimpArgs false
set_option linter.unusedVariables false
set_option linter.unusedSectionVars false
set_option maxRecDepth 20000
namespace Go.J
open Go
section
variable {P : Program} {n : Nat} {w0 : World} {F : Fr} {m : Mem} {Rs : List Res} {Q : Exit → Act → World → Prop} {α : Type} [Inhabited α] {f : α → List Value} {sz : Nat}
theorem At.appendF {ops : Array Oper} {rest : List Oper} {d : Nat} {x y : Operand} {t tx e2 : TypeId} {ty : TypeId} {pos : String} {aft : Array Edge} {E : TypeId} {p p2 : Option Addr} {c ln ln2 c2 : Nat} {l l2 : List α}
    (hx : ev F x = some (.slice p ln c)) (hy : ev F y = some (.slice p2 ln2 c2)) (h1 : Rdb (HW w0 m Rs) f sz p c l) (hln : ln = l.length) (h2 : Rdb (HW w0 m Rs) f sz p2 c2 l2) (hl2 : ln2 = l2.length)
    (ht : P.underlying t = some (.slice E)) (ht2 : P.underlying tx = some (.slice e2)) (he : elemB P E sz = true) (hc : c < l.length + l2.length)
    (hsm : l.length + l2.length ≤ 34359738368) (hd : Nat.blt d n = true)
    (h : ∀ p' c', At n w0 ((d, .slice p' (l ++ l2).length c') :: F) m (.own f sz E p' c' (l ++ l2) :: Rs) (wpList P ops Q rest)) :
    At n w0 F m Rs (wpList P ops Q (⟨some d, .call ⟨.builtin .append, #[x, y], #[t, tx]⟩, ty, pos, aft, none⟩ :: rest)) := fun a w ha hw =>
  wpList_plain rfl fun K hK => by
    subst hln hl2
    have hf := h1.fl
    obtain ⟨i, z, hi, hz, hsz, hbt, hzs⟩ := elemB_spec he
    have hby : (l.length + l2.length) * i.bytes ≤ 140737488355328 := Nat.le_trans (Nat.mul_le_mul hsm hbt) (by omega)
    have h63 : l.length + l2.length ≤ maxLen := by simp only [maxLen]; omega
    have hsmall : ((l.length + l2.length : Nat) : Int) ≤ 9223372036854775807 := by omega
    have s1 := rdb_src (P := P) h1 hw ht
    have s2 := rdb_src (P := P) h2 hw ht2
    have hl1 := flatMap_length hf.len l
    have hl2 := flatMap_length hf.len l2
    have hll : (l ++ l2).length = l.length + l2.length := by simp
    have hold : (Builtin.firstCells i.size l.length (.slice p l.length c)).run P w.drew = .ok (l.flatMap f).toArray w.drew := by rw [hsz]; exact s1.cellsD
    have hr := run_append_grow_src (P := P) (ty := ty) (w := w) t tx E i z ht hi hz p l.length c (l.flatMap f) hold (.slice p2 l2.length c2) l2.length (l2.flatMap f) (by rw [hsz]; exact s2) hc hsmall (growslice_fits hc hby)
    have hge := grownCap_ge w (l.length + l2.length) c E
    have hcm : grownCap w (l.length + l2.length) c E ≤ maxLen := grownCap_le_maxLen w (l.length + l2.length) c E h63
    rw [← hll] at hr hge hcm
    unfold Oper.wp
    have hrun : ∀ v w', (Builtin.append_ #[t, tx] ty #[.slice p l.length c, .slice p2 l2.length c2]).run P w = .ok v w' → (execOp a.eval ⟨some d, .call ⟨.builtin .append, #[x, y], #[t, tx]⟩, ty, pos, aft, none⟩).run P w = .ok (.value v) w' := fun v w' hr => by
      rw [BigFrame.execOp_builtin]
      simp [BigFrame.builtin_append, ha.ev hx, ha.ev hy, hr]
    rw [hrun _ _ hr]
    refine hK _ _ (h _ _ _ _ (ha.put hd) (hw.add rfl rfl rfl (by simp) (fun k hk => heap_alloc_old w.drew _ hk) ⟨fun k => k = w.heap.size, .inr ⟨w.heap.size, 0, _, rfl, heap_alloc_new w.drew _, hge, hcm, ?_, fun j hj => ?_, fun _ => Iff.rfl⟩, fun k hk => by omega⟩))
    · simp only [Array.size_append, List.size_toArray, size_zeroCells, hzs, List.length_append, hl1, hl2, ← Nat.add_mul]
      rw [List.length_append] at hge
      rw [Nat.add_sub_cancel' hge, Nat.zero_add]
      exact Nat.le_refl _
    · rw [Nat.zero_add, List.flatMap_append, Array.getElem?_append_left (by
        rw [hll, Nat.add_mul] at hj
        simp only [List.size_toArray, List.length_append, hl1, hl2]; omega)]
      simp
theorem addr_add0 (a : Addr) : a.add 0 = a := by cases a; simp [Addr.add]
theorem subp0 (p : Option Addr) (c sz : Nat) : subp p c 0 sz = p := by
  unfold subp
  split
  · rfl
  · rw [Nat.zero_mul]; cases p <;> simp [addr_add0]
theorem Rdb.cut {C : World → Prop} {p : Option Addr} {c : Nat} {l : List α} (h : Rdb C f sz p c l) (hi : Nat) (h1 : hi ≤ l.length) : Rdb C f sz p hi (l.take hi) := by
  have := Rdb.subh h hi h1
  rw [subp0] at this
  exact ⟨this.fl, this.some, fun w hw => by rw [List.length_take]; omega, this.cell⟩
/-- a part from the front, with no room behind it -/
theorem run_slice3 {t e : TypeId} (ht : P.underlying t = some (.slice e)) (hs : sizeB P e = some sz) (p : Option Addr) (l c hi : Nat) (h2 : hi ≤ c) (k k' : IntKind) (w : World) :
    (Instr.sliceAt t (.slice p l c) none (some (.int k (hi : Int))) (some (.int k' (hi : Int)))).run P w = .ok (.slice p hi hi) w := by
  have hr : ∀ w, (underlying t).run P w = .ok (.slice e) w := fun w => by simp only [underlying, program, bind, Sem.bind, Sem.run, ht]; rfl
  have a2 : (0 : Int) ≤ (hi : Int) ∧ (hi : Int) ≤ (c : Int) := ⟨by omega, by omega⟩
  unfold Instr.sliceAt
  simp only [Sem.run_bind, hr, Result.andThen]
  unfold Instr.slice
  simp only [Sem.run_bind, hr, Result.andThen]
  have hb : (Instr.sliceBounds true l c none (some (.int k (hi : Int))) (some (.int k' (hi : Int)))).run P w = .ok (0, hi, hi) w := by
    unfold Instr.sliceBounds Instr.sliceBound
    simp [asIntOf, pure, Sem.run, bind, Sem.bind, h2]
  rw [hb]
  simp only [run_sizeOf hs, pure, Sem.run]
  have := subp0 p hi sz
  unfold subp at this
  simp only [Nat.sub_zero, this]
theorem pr_slice3 {C : World → Prop} {x y z : Operand} {t e : TypeId} {p : Option Addr} {l c hi : Nat} {k k' : IntKind} (hx : ev F x = some (.slice p l c)) (hz : ev F z = some (.int k (hi : Int))) (hy : ev F y = some (.int k' (hi : Int))) (ht : P.underlying t = some (.slice e)) (hs : sizeB P e = some sz) (hle : LeSz C sz c l) (h2 : hi ≤ l) :
    PR P n F C (.slice t x none (some z) (some y)) (.slice p hi hi) := fun _ _ _ _ _ a w ha hC => by
  simp only [execOp, ha.ev hx, Sem.run_bind, Option.map_none, Option.map_some, ha.ev hz, ha.ev hy]
  rw [run_slice3 ht hs p l c hi (Nat.le_trans h2 (hle w hC))]
  rfl
end
end Go.J
/- What one owns may be made to stay: for a call's argument, and for what comes back. -/
set_option linter.unusedSimpArgs false
set_option linter.unusedVariables false
set_option linter.unusedSectionVars false
set_option maxRecDepth 20000
namespace Go.J
open Go
section
variable {P : Program} {m : Mem} {Rs : List Res} {α : Type} [Inhabited α] {f : α → List Value} {sz : Nat}
theorem HW.freeze {w0 w : World} {E : TypeId} {p : Option Addr} {c : Nat} {l : List α} (hf : Fl f sz) (hw : HW w0 m (.own f sz E p c l :: Rs) w) : ∃ m', m.le m' ∧ Sl m' f sz p c l ∧ HW w0 m' Rs w := by
  have k := At.own_freeze (n := 0) (w0 := w0) (F := []) (m := m) (Rs := .own f sz E p c l :: Rs) (K := fun _ w => ∃ m', m.le m' ∧ Sl m' f sz p c l ∧ HW w0 m' Rs w) hf pk0
    (fun m' hm' sl => by
      unfold At
      intro a w1 _ hw1
      exact ⟨m', hm', sl, hw1⟩)
  unfold At at k
  exact k ⟨#[], []⟩ w ⟨rfl, rfl, fun _ _ h => by cases h⟩ hw
theorem Ct.freezeG {g : FuncId} {args : Array Value} {E : TypeId} {p : Option Addr} {c : Nat} {l : List α} {R : Value → Mem → List Res → Prop} (hf : Fl f sz) (h : ∀ m', m.le m' → Sl m' f sz p c l → Ct P g args m' Rs R) :
    Ct P g args m (.own f sz E p c l :: Rs) R := by
  unfold Ct at h ⊢
  intro w0 Rest w hw
  obtain ⟨m', hm', sl, hw'⟩ := HW.freeze hf hw
  exact (h m' hm' sl w0 Rest w hw').mono fun _ _ ⟨v, m2, B, h1, h2, h3, h4⟩ => ⟨v, m2, B, h1, Mem.le_trans hm' h2, h3, h4⟩
theorem Ct.slice {g : FuncId} {args : Array Value} {A B0 : List Res} {E : TypeId} {l : List α} {R : Value → Option Addr → Nat → Prop} (hf : Fl f sz) (h : Ct P g args m A (fun v m' B => ∃ p c, R v p c ∧ B = .own f sz E p c l :: B0)) :
    Ct P g args m A (fun v m' B => B = B0 ∧ ∃ p c, R v p c ∧ Sl m' f sz p c l) := by
  unfold Ct at h ⊢
  intro w0 Rest w hw
  refine (h w0 Rest w hw).mono fun _ _ ⟨v, m2, B, h1, h2, ⟨p, c, h3, hB⟩, h4⟩ => ?_
  subst hB
  obtain ⟨m3, hm3, sl, hw3⟩ := HW.freeze hf h4
  exact ⟨v, m3, B0, h1, Mem.le_trans h2 hm3, ⟨rfl, p, c, h3, sl⟩, hw3⟩
/-- a slice's literal, that stays -/
theorem At.litF {n : Nat} {w0 : World} {F : Fr} {Q : Exit → Act → World → Prop} {ops : Array Oper} {rest : List Oper} {d : Nat} {t E : TypeId} {len : Nat} {xs : List (Nat × Operand)} {ps : List (Nat × Value)} {ty : TypeId} {pos : String} {aft : Array Edge}
    (f : α → List Value) (l : List α) (hf : Fl f sz) (ht : P.underlying t = some (.slice E)) (he : elemB P E sz = true) (hx : evps F xs = some ps) (hsm : Nat.ble (len * sz) 16777216 = true) (hl : l.length = len)
    (hb : litL P E sz len ps = flat (l.flatMap f)) (hd : Nat.blt d n = true)
    (h : ∀ b m', m.le m' → Sl m' f sz (some ⟨b, 0, none⟩) len l → At n w0 ((d, .slice (some ⟨b, 0, none⟩) len len) :: F) m' Rs (wpList P ops Q rest)) :
    At n w0 F m Rs (wpList P ops Q (⟨some d, .buildSlice t len xs.toArray, ty, pos, aft, none⟩ :: rest)) :=
  At.lit f l hf ht he hx hsm hl hb hd (fun b => At.own_freeze hf pk0 fun m' hm' sl => h b m' hm' sl)
end
end Go.J
/- A slice beside nil; what is cleared. -/
set_option linter.unusedSimpArgs false
set_option linter.unusedVariables false
set_option linter.unusedSectionVars false
set_option maxRecDepth 20000
namespace Go.J
open Go
section
variable {P : Program} {n : Nat} {F : Fr} {C : World → Prop}
theorem run_equal_slnil {t e : TypeId} {p : Option Addr} {l c l2 c2 : Nat} (ht : P.underlying t = some (.slice e)) (w : World) : (Op.equal t (.slice p l c) (.slice none l2 c2)).run P w = .ok p.isNone w := by
  simp [Op.equal, Op.maxDepth, Lib.run_equalIn_slice_nil w 9999 t e p l c l2 c2 ht]
theorem pr_sleql {x y : Operand} {p : Option Addr} {l c l2 c2 : Nat} {t u e : TypeId} (ht : P.underlying t = some (.slice e)) (hx : ev F x = some (.slice p l c)) (hy : ev F y = some (.slice none l2 c2)) : PR P n F C (.binOp .eql t x y u) (.bool p.isNone) :=
  pr_eql_of hx hy (fun _ => rfl) (by cases p <;> rfl) (fun w _ => run_equal_slnil ht w)
theorem pr_slneq {x y : Operand} {p : Option Addr} {l c l2 c2 : Nat} {t u e : TypeId} (ht : P.underlying t = some (.slice e)) (hx : ev F x = some (.slice p l c)) (hy : ev F y = some (.slice none l2 c2)) : PR P n F C (.binOp .neq t x y u) (.bool !p.isNone) :=
  pr_neq_of hx hy (fun _ => rfl) (by cases p <;> rfl) (fun w _ => run_equal_slnil ht w)
def zeroOneB (P : Program) (e : TypeId) : Bool := match P.info? e with
  | some i => match i.zero with
    | some z => z.cells.toList.all oneCell
    | none => false
  | none => false
end
section
variable {P : Program} {n : Nat} {w0 : World} {F : Fr} {m : Mem} {Rs : List Res} {Q : Exit → Act → World → Prop} {α : Type} [Inhabited α] {f : α → List Value} {sz : Nat} {E : TypeId} {p : Option Addr} {c : Nat} {l : List α} {Rs' : List Res}
theorem pr_slice_own {x z : Operand} {t : TypeId} {ln hi : Nat} {k : IntKind} (hx : ev F x = some (.slice p ln c)) (hz : ev F z = some (.int k (hi : Int))) (hp : Pick Rs (.own f sz E p c l) Rs') (hl : l.length = hi) (ht : P.underlying t = some (.slice E)) (hs : sizeB P E = some sz) :
    PR P n F (HW w0 m Rs) (.slice t x none (some z) none) (.slice (subp p c 0 sz) (hi - 0) (c - 0)) := by
  subst hl
  exact fun d ty pos aft g a w ha hC => pr_slice_h hx hz ht hs (own_le hp w hC) d ty pos aft g a w ha hC
theorem zeroCells_one {z : Array Value} (h : z.toList.all oneCell = true) (k : Nat) : ∀ v ∈ (Builtin.zeroCells z k).toList, v.oneCell' = true := fun v hv => by
  simp only [Builtin.zeroCells, Array.toList_map, Array.toList_range, List.mem_map, List.mem_range] at hv
  obtain ⟨i, hi, rfl⟩ := hv
  have hz : 0 < z.size := by
    rcases Nat.eq_zero_or_pos z.size with e | e
    · rw [e] at hi; simp at hi
    · exact e
  have hm := Nat.mod_lt i hz
  have := List.all_eq_true.1 h z[i % z.size]! (by
    rw [getElem!_pos z _ hm]
    exact Array.getElem_mem_toList hm)
  generalize z[i % z.size]! = u at this
  cases u <;> first | rfl | (simp [oneCell] at this)
/-- the end of what one owns is cleared: the rest stays -/
theorem At.clearW {ops : Array Oper} {rest : List Oper} {d : Option Nat} {x : Operand} {t : TypeId} {ty : TypeId} {pos : String} {aft : Array Edge} {ln c2 : Nat} {q : Option Addr}
    (lo : Nat) (hx : ev F x = some (.slice q ln c2)) (hp : Pick Rs (.own f sz E p c l) Rs') (hq : q = subp p c lo sz) (hf : Fl f sz) (ht : P.underlying t = some (.slice E)) (he : elemB P E sz = true) (hz1 : zeroOneB P E = true) (hlo : lo ≤ l.length) (hln : ln = l.length - lo) (hd : d = none)
    (h : At n w0 F m (.own f sz E p c (l.take lo) :: Rs') (wpList P ops Q rest)) :
    At n w0 F m Rs (wpList P ops Q (⟨d, .call ⟨.builtin .clear, #[x], #[t]⟩, ty, pos, aft, none⟩ :: rest)) := fun a w ha hw =>
  wpList_plain rfl fun K hK => by
    subst hln hd hq
    obtain ⟨i, z, hi, hz, hsz, hbt, hzs⟩ := elemB_spec he
    have hone : z.cells.toList.all oneCell = true := by
      unfold zeroOneB at hz1; rw [hi] at hz1; simp only [hz] at hz1; exact hz1
    have hrow : ∀ s, (Res.own f sz E p c l).p w s → ∃ w', (Builtin.clear_ #[t] ty #[.slice (subp p c lo sz) (l.length - lo) c2]).run P w = .ok (.tuple #[]) w' ∧ (Res.own f sz E p c (l.take lo)).p w' s ∧ w'.os = w.os ∧ w'.tape = w.tape ∧ w'.output = w.output ∧ w.heap.size ≤ w'.heap.size ∧ (∀ k, k < w.heap.size → ¬ s k → w'.heap[k]? = w.heap[k]?) := fun s hown => by
      by_cases hz0 : l.length - lo = 0
      · have hl : l.take lo = l := List.take_of_length_le (by omega)
        rw [hz0, hl]
        refine ⟨w, ?_, hown, rfl, rfl, rfl, Nat.le_refl _, fun _ _ _ => rfl⟩
        cases subp p c lo sz <;> simp [Builtin.clear_, run_underlying ht]
      · rcases hown with ⟨rfl, rfl, rfl, hno⟩ | ⟨g, o, cur, rfl, h4, h5, h6, h7, h8, hgs⟩
        · simp at hz0
        · have hne : c ≠ lo := by omega
          have hsub : subp (some ⟨g, o, none⟩) c lo sz = some ⟨g, o + lo * sz, none⟩ := by unfold subp; rw [if_neg hne]; simp [Addr.add_eq]
          rw [hsub]
          have hlen : (Builtin.zeroCells z.cells (l.length - lo)).toList.length = (l.length - lo) * sz := by rw [Array.length_toList, size_zeroCells, hzs]
          have hcs : l.length * sz ≤ c * sz := Nat.mul_le_mul_right _ h5
          have hsp : (l.length - lo) * sz + lo * sz = l.length * sz := by rw [← Nat.add_mul]; congr 1; omega
          have hst := run_storeCells_at P g (o + lo * sz) E (Builtin.zeroCells z.cells (l.length - lo)).toList 0 cur w h4 (by omega) (zeroCells_one hone _)
          simp only [Nat.add_zero] at hst
          refine ⟨w.setRow g (cur.toList.take (o + lo * sz) ++ (Builtin.zeroCells z.cells (l.length - lo)).toList ++ cur.toList.drop (o + lo * sz + (Builtin.zeroCells z.cells (l.length - lo)).toList.length)).toArray, ?_, .inr ⟨g, o, (cur.toList.take (o + lo * sz) ++ (Builtin.zeroCells z.cells (l.length - lo)).toList ++ cur.toList.drop (o + lo * sz + (Builtin.zeroCells z.cells (l.length - lo)).toList.length)).toArray, rfl, setRow_heap w g cur _ E _ h4, by simp only [List.length_take]; omega, h6, ?_, fun j hj => ?_, hgs⟩, rfl, rfl, rfl, by simp, fun i _ hi => setRow_other w g i _ (fun e => hi ((hgs i).2 e))⟩
          · obtain ⟨k, hk⟩ : ∃ k, l.length - lo = k + 1 := ⟨l.length - lo - 1, by omega⟩
            have hzv : ∀ w, (zeroValue E).run P w = .ok z w := fun w => by simp [zeroValue, typeInfo, hi, hz]
            rw [hk] at hst ⊢
            simp [Builtin.clear_, run_underlying ht, hzv, hst]
          · simp only [List.size_toArray, List.length_append, List.length_take, List.length_drop, Array.length_toList, size_zeroCells, hzs]
            omega
          · have hj2 : j < lo * sz := by rw [List.length_take] at hj; exact Nat.lt_of_lt_of_le hj (Nat.mul_le_mul_right _ (Nat.min_le_left _ _))
            have hll : lo * sz ≤ l.length * sz := Nat.mul_le_mul_right _ hlo
            rw [List.getElem?_toArray, List.append_assoc, List.getElem?_append_left (by simp only [List.length_take, Array.length_toList]; omega), List.getElem?_take, if_pos (by omega), Array.getElem?_toList, h8 j (by omega)]
            have e : l.flatMap f = (l.take lo).flatMap f ++ (l.drop lo).flatMap f := by rw [← List.flatMap_append, List.take_append_drop]
            rw [e, List.getElem?_append_left (by rw [flatMap_length hf.len]; exact hj)]
    obtain ⟨s0, hown⟩ := hw.get hp
    obtain ⟨w', hr', _⟩ := hrow s0 hown
    have hrun' : (execOp a.eval ⟨none, .call ⟨.builtin .clear, #[x], #[t]⟩, ty, pos, aft, none⟩).run P w = .ok (.value (.tuple #[])) w' := by
      rw [BigFrame.execOp_builtin]
      simp [BigFrame.builtin_clear, ha.ev hx, hr']
    unfold Oper.wp
    rw [hrun']
    refine hK _ _ (h _ _ ha (hw.turn hp fun s hs => ?_))
    obtain ⟨w2, hr2, h2, g1, g2, g3, g4, g5⟩ := hrow s hs
    rw [hr'] at hr2
    injection hr2 with _ e2
    subst e2
    exact ⟨s, h2, g1, g2, g3, g4, g5, fun k hk => .inl hk⟩
end
end Go.J
/- Rows of cells: what one owns, opened; copy, append and clear in place; append of zeros; capacity; whether two slices overlap. -/
set_option linter.unusedSimpArgs false
set_option linter.unusedVariables false
set_option linter.unusedSectionVars false
set_option maxRecDepth 20000
namespace Go.J
open Go
def Hld (cs : List Value) (o : Nat) (vs : List Value) : Prop := ∀ j, j < vs.length → cs[o + j]? = vs[j]?
def put (cs : List Value) (a : Nat) (vs : List Value) : List Value := cs.take a ++ vs ++ cs.drop (a + vs.length)
theorem put_len {cs vs : List Value} {a : Nat} (h : a + vs.length ≤ cs.length) : (put cs a vs).length = cs.length := by
  unfold put; simp only [List.length_append, List.length_take, List.length_drop]; omega
theorem put_get {cs vs : List Value} {a : Nat} (h : a + vs.length ≤ cs.length) (k : Nat) : (put cs a vs)[k]? = if a ≤ k ∧ k < a + vs.length then vs[k - a]? else cs[k]? := by
  unfold put
  have e1 : (cs.take a).length = a := by rw [List.length_take]; omega
  by_cases h1 : k < a
  · rw [if_neg (by omega), List.append_assoc, List.getElem?_append_left (by omega), List.getElem?_take, if_pos h1]
  · by_cases h2 : k < a + vs.length
    · rw [if_pos ⟨by omega, h2⟩, List.append_assoc, List.getElem?_append_right (by omega), e1, List.getElem?_append_left (by omega)]
    · rw [if_neg (by omega), List.getElem?_append_right (by rw [List.length_append, e1]; omega), List.length_append, e1, List.getElem?_drop]
      congr 1; omega
theorem Hld.put_in {cs vs : List Value} {a : Nat} (h : a + vs.length ≤ cs.length) : Hld (put cs a vs) a vs := fun j hj => by
  rw [put_get h, if_pos ⟨by omega, by omega⟩]; congr 1; omega
theorem Hld.put_out {cs vs us : List Value} {a o : Nat} (h : a + vs.length ≤ cs.length) (hh : Hld cs o us) (hd : o + us.length ≤ a ∨ a + vs.length ≤ o) : Hld (put cs a vs) o us := fun j hj => by
  rw [put_get h, if_neg (by omega)]; exact hh j hj
theorem Hld.app {cs us vs : List Value} {o : Nat} (h1 : Hld cs o us) (h2 : Hld cs (o + us.length) vs) : Hld cs o (us ++ vs) := fun j hj => by
  rw [List.length_append] at hj
  by_cases h : j < us.length
  · rw [List.getElem?_append_left h]; exact h1 j h
  · rw [List.getElem?_append_right (by omega), ← h2 (j - us.length) (by omega)]; congr 1; omega
theorem Hld.left {cs us vs : List Value} {o : Nat} (h : Hld cs o (us ++ vs)) : Hld cs o us := fun j hj => by
  rw [h j (by rw [List.length_append]; omega), List.getElem?_append_left hj]
theorem Hld.right {cs us vs : List Value} {o : Nat} (h : Hld cs o (us ++ vs)) : Hld cs (o + us.length) vs := fun j hj => by
  rw [Nat.add_assoc, h (us.length + j) (by rw [List.length_append]; omega), List.getElem?_append_right (by omega)]; congr 1; omega
section
variable {P : Program} {n : Nat} {w0 : World} {F : Fr} {m : Mem} {Rs Rs' R1 R2 : List Res} {Q : Exit → Act → World → Prop} {K : Act → World → Prop} {C : World → Prop} {α : Type} [Inhabited α] {f : α → List Value} {sz : Nat}
variable {E E2 : TypeId} {p : Option Addr} {c : Nat} {l : List α} {g g2 a o dl dc sl sc : Nat} {cs cs2 : List Value}
theorem At.own_row (hp : Pick Rs (.own f sz E p c l) Rs') (h0 : p = none → c = 0 → l = [] → At n w0 F m Rs K)
    (h1 : ∀ g o cs, p = some ⟨g, o, none⟩ → l.length ≤ c → c ≤ maxLen → o + c * sz ≤ cs.length → Hld cs o (l.flatMap f) → At n w0 F m (.blk g E cs :: Rs') K) (hf : Fl f sz) : At n w0 F m Rs K := fun a w ha hw => by
  obtain ⟨s, ⟨e1, e2, e3, _⟩ | ⟨g, o, cur, rfl, h2, h3, h4, h5, h6, h7⟩⟩ := hw.get hp
  · exact h0 e1 e2 e3 a w ha hw
  · refine h1 g o cur.toList rfl h3 h4 (by rw [Array.length_toList]; exact h5) (fun j hj => ?_) a w ha (hw.turn hp fun s' hs' => ?_)
    · rw [Array.getElem?_toList]; exact h6 j (by rw [flatMap_length hf.len] at hj; exact hj)
    · rcases hs' with ⟨e1, _⟩ | ⟨g', o', cur', e1, _, _, _, _, _, g7⟩
      · cases e1
      · injection e1 with e1; injection e1 with e1 _ _; subst e1
        refine ⟨fun k => k = g, ⟨?_, fun _ => Iff.rfl⟩, rfl, rfl, rfl, Nat.le_refl _, fun _ _ _ => rfl, fun k hk => .inl ((g7 k).2 hk)⟩
        rw [Array.toArray_toList]; exact h2
theorem own_close (hf : Fl f sz) (h1 : l.length ≤ c) (h2 : c ≤ maxLen) (h3 : o + c * sz ≤ cs.length) (h4 : Hld cs o (l.flatMap f)) : Ent (.blk g E cs :: Rs) (.own f sz E (some ⟨g, o, none⟩) c l :: Rs) := fun w s ⟨s1, s2, ⟨e1, e2⟩, g2, g3, g4⟩ =>
  ⟨s, ⟨s1, s2, .inr ⟨g, o, cs.toArray, rfl, e1, h1, h2, by rw [List.size_toArray]; exact h3, fun j hj => by rw [List.getElem?_toArray]; exact h4 j (by rw [flatMap_length hf.len]; exact hj), e2⟩, g2, g3, g4⟩, fun _ x => x⟩
theorem At.own_end (hf : Fl f sz) (h1 : l.length ≤ c) (h2 : c ≤ maxLen) (h3 : o + c * sz ≤ cs.length) (h4 : Hld cs o (l.flatMap f)) (hp : Pick Rs (.blk g E cs) Rs') (h : At n w0 F m (.own f sz E (some ⟨g, o, none⟩) c l :: Rs') K) : At n w0 F m Rs K :=
  At.ent ((Ent.of_pick hp).trans (own_close hf h1 h2 h3 h4)) h
theorem blk_cells (hp : Pick Rs (.blk g E cs) Rs') {vs : List Value} (hh : Hld cs a vs) (w : World) (hw : HW w0 m Rs w) (j : Nat) (hj : j < vs.length) : w.cell? ⟨g, a + j, none⟩ = vs[j]? := by
  rw [World.cell_of (hw.blk hp), List.getElem?_toArray]; exact hh j hj
theorem rdb_cellsV {q : Option Addr} {l2 : List α} {c2 g2 a2 : Nat} (h : Rdb C f sz q c2 l2) (hq : q = some ⟨g2, a2, none⟩) {vs : List Value} (hv : vs = l2.flatMap f) (w : World) (hw : C w) (j : Nat) (hj : j < vs.length) : w.cell? ⟨g2, a2 + j, none⟩ = vs[j]? := by
  subst hv
  exact rdb_cells h hw g2 a2 hq j (by rw [flatMap_length h.fl.len] at hj; exact hj)
/-- cells are written in place -/
theorem HW.putB {w : World} (hw : HW w0 m Rs w) (hp : Pick Rs (.blk g E cs) Rs') {vs : List Value} (hfit : a + vs.length ≤ cs.length) (h1 : ∀ v ∈ vs, v.oneCell' = true) :
    ∃ w', (storeCells ⟨g, a, none⟩ vs 0).run P w = .ok () w' ∧ HW w0 m (.blk g E (put cs a vs) :: Rs') w' := by
  have hb := hw.blk hp
  have hst := run_storeCells_at P g a E vs 0 cs.toArray w hb (by simpa using hfit) h1
  simp only [Nat.add_zero] at hst
  refine ⟨_, hst, hw.turn hp fun s hs => ⟨s, ⟨setRow_heap w g cs.toArray _ E _ hb, hs.2⟩, rfl, rfl, rfl, by simp, fun k _ hk => setRow_other w g k _ (fun e => hk ((hs.2 k).2 e)), fun k hk => .inl hk⟩⟩
theorem At.copyB {ops : Array Oper} {rest : List Oper} {d : Nat} {x y : Operand} {t tx ty : TypeId} {pos : String} {aft : Array Edge} {a2 k : Nat} (vs : List Value)
    (hx : ev F x = some (.slice (some ⟨g, a, none⟩) dl dc)) (hy : ev F y = some (.slice (some ⟨g2, a2, none⟩) sl sc)) (ht : P.underlying t = some (.slice E2)) (hs : sizeB P E2 = some sz)
    (hk : Nat.min sl dl = k) (hv : k * sz = vs.length) (hr : ∀ w, HW w0 m Rs w → ∀ j, j < vs.length → w.cell? ⟨g2, a2 + j, none⟩ = vs[j]?) (h1 : ∀ v ∈ vs, v.oneCell' = true)
    (hp : Pick Rs (.blk g E cs) Rs') (hfit : a + vs.length ≤ cs.length) (hd : Nat.blt d n = true)
    (h : At n w0 ((d, .int .i64 (k : Int)) :: F) m (.blk g E (put cs a vs) :: Rs') (wpList P ops Q rest)) :
    At n w0 F m Rs (wpList P ops Q (⟨some d, .call ⟨.builtin .copy, #[x, y], #[t, tx]⟩, ty, pos, aft, none⟩ :: rest)) := fun ac w ha hw =>
  wpList_plain rfl fun K hK => by
    obtain ⟨w', hst, hw'⟩ := hw.putB (P := P) hp hfit h1
    have hl := run_loadCells (P := P) w g2 a2 vs (hr w hw)
    have hrun : (execOp ac.eval ⟨some d, .call ⟨.builtin .copy, #[x, y], #[t, tx]⟩, ty, pos, aft, none⟩).run P w = .ok (.value (.int .i64 (k : Int))) w' := by
      rw [BigFrame.execOp_builtin]
      have hu : ∀ w, (underlying t).run P w = .ok (.slice E2) w := fun w => by simp only [underlying, program, bind, Sem.bind, Sem.run, ht]; rfl
      have h0 : (Builtin.copy_ #[t, tx] ty #[.slice (some ⟨g, a, none⟩) dl dc, .slice (some ⟨g2, a2, none⟩) sl sc]).run P w = .ok (goInt k) w' := by
        unfold Builtin.copy_
        simp only [Sem.run_bind, hu, Result.andThen, Builtin.lenOf, Builtin.firstCells, List.getElem?_toArray, List.getElem?_cons_zero, List.getElem?_cons_succ, Sem.run_pure, run_sizeOf hs, hk, hv, hl, hst]
      simp [BigFrame.builtin_copy, ha.ev hx, ha.ev hy, h0, goInt]
    unfold Oper.wp
    rw [hrun]
    exact hK _ _ (h _ _ (ha.put hd) hw')
/-- append where there is room, at cells -/
theorem At.appendB {ops : Array Oper} {rest : List Oper} {d : Nat} {x y : Operand} {t tx ty : TypeId} {pos : String} {aft : Array Edge} {i k : Nat} {q : Option Addr} (vs : List Value)
    (hx : ev F x = some (.slice (some ⟨g, o, none⟩) i c)) (hy : ev F y = some (.slice q k sc)) (ht : P.underlying t = some (.slice E2)) (htx : P.underlying tx = some (.slice E2)) (hs : sizeB P E2 = some sz)
    (hv : k * sz = vs.length) (hr : 0 < k → ∃ g2 a2, q = some ⟨g2, a2, none⟩ ∧ ∀ w, HW w0 m Rs w → ∀ j, j < vs.length → w.cell? ⟨g2, a2 + j, none⟩ = vs[j]?) (h1 : ∀ v ∈ vs, v.oneCell' = true) (hroom : i + k ≤ c)
    (hp : Pick Rs (.blk g E cs) Rs') (hfit : o + i * sz + vs.length ≤ cs.length) (hd : Nat.blt d n = true)
    (h : At n w0 ((d, .slice (some ⟨g, o, none⟩) (i + k) c) :: F) m (.blk g E (put cs (o + i * sz) vs) :: Rs') (wpList P ops Q rest)) :
    At n w0 F m Rs (wpList P ops Q (⟨some d, .call ⟨.builtin .append, #[x, y], #[t, tx]⟩, ty, pos, aft, none⟩ :: rest)) := fun ac w ha hw =>
  wpList_plain rfl fun K hK => by
    obtain ⟨w', hst, hw'⟩ := hw.putB (P := P) hp hfit h1
    have hu : ∀ w, (underlying t).run P w = .ok (.slice E2) w := fun w => by simp only [underlying, program, bind, Sem.bind, Sem.run, ht]; rfl
    have hux : ∀ w, (underlying tx).run P w = .ok (.slice E2) w := fun w => by simp only [underlying, program, bind, Sem.bind, Sem.run, htx]; rfl
    have hc : (Builtin.firstCells sz k (.slice q k sc)).run P w = .ok vs.toArray w := by
      rcases Nat.eq_zero_or_pos k with hk | hk
      · have hvs : vs = [] := List.eq_nil_of_length_eq_zero (by rw [← hv, hk, Nat.zero_mul])
        subst hvs hk
        cases q with
        | none => rfl
        | some b =>
          show (loadCells b (0 * sz)).run P w = _
          rw [Nat.zero_mul]
          exact run_loadCells_list w b [] (fun j v h => by cases h)
      · obtain ⟨g2, a2, rfl, hr2⟩ := hr hk
        show (loadCells ⟨g2, a2, none⟩ (k * sz)).run P w = _
        rw [hv]
        exact run_loadCells w g2 a2 vs (hr2 w hw)
    have hrun : (execOp ac.eval ⟨some d, .call ⟨.builtin .append, #[x, y], #[t, tx]⟩, ty, pos, aft, none⟩).run P w = .ok (.value (.slice (some ⟨g, o, none⟩) (i + k) c)) w' := by
      rw [BigFrame.execOp_builtin]
      have h0 : (Builtin.append_ #[t, tx] ty #[.slice (some ⟨g, o, none⟩) i c, .slice q k sc]).run P w = .ok (.slice (some ⟨g, o, none⟩) (i + k) c) w' := by
        simp [Builtin.append_, hu, hux, run_sizeOf hs, Builtin.lenOf, hroom, hc, Addr.add_eq, hst]
      simp [BigFrame.builtin_append, ha.ev hx, ha.ev hy, h0]
    unfold Oper.wp
    rw [hrun]
    exact hK _ _ (h _ _ (ha.put hd) hw')
/-- clear, at cells -/
theorem At.clearB {ops : Array Oper} {rest : List Oper} {d : Option Nat} {x : Operand} {t ty : TypeId} {pos : String} {aft : Array Edge} {k : Nat}
    (hx : ev F x = some (.slice (some ⟨g, a, none⟩) k c)) (ht : P.underlying t = some (.slice E2)) (he : elemB P E2 sz = true) (hz1 : zeroOneB P E2 = true)
    (hp : Pick Rs (.blk g E cs) Rs') (hfit : a + k * sz ≤ cs.length) (hd : d = none)
    (h : ∀ vs, vs.length = k * sz → At n w0 F m (.blk g E (put cs a vs) :: Rs') (wpList P ops Q rest)) :
    At n w0 F m Rs (wpList P ops Q (⟨d, .call ⟨.builtin .clear, #[x], #[t]⟩, ty, pos, aft, none⟩ :: rest)) := fun ac w ha hw =>
  wpList_plain rfl fun K hK => by
    subst hd
    obtain ⟨i, z, hi, hz, hsz, hbt, hzs⟩ := elemB_spec he
    have hone : z.cells.toList.all oneCell = true := by
      unfold zeroOneB at hz1; rw [hi] at hz1; simp only [hz] at hz1; exact hz1
    have hlen : (Builtin.zeroCells z.cells k).toList.length = k * sz := by rw [Array.length_toList, size_zeroCells, hzs]
    obtain ⟨w', hst, hw'⟩ := hw.putB (P := P) (vs := (Builtin.zeroCells z.cells k).toList) hp (by rw [hlen]; exact hfit) (zeroCells_one hone _)
    have hzv : ∀ w, (zeroValue E2).run P w = .ok z w := fun w => by simp [zeroValue, typeInfo, hi, hz]
    have hu : ∀ w, (underlying t).run P w = .ok (.slice E2) w := fun w => by simp only [underlying, program, bind, Sem.bind, Sem.run, ht]; rfl
    have hrun : (execOp ac.eval ⟨none, .call ⟨.builtin .clear, #[x], #[t]⟩, ty, pos, aft, none⟩).run P w = .ok (.value (.tuple #[])) w' := by
      rw [BigFrame.execOp_builtin]
      have h0 : (Builtin.clear_ #[t] ty #[.slice (some ⟨g, a, none⟩) k c]).run P w = .ok (.tuple #[]) w' := by
        cases k with
        | zero =>
          have : (Builtin.zeroCells z.cells 0).toList = [] := List.eq_nil_of_length_eq_zero (by rw [hlen, Nat.zero_mul])
          rw [this] at hst
          simp only [storeCells, pure, Sem.run] at hst
          cases hst
          simp [Builtin.clear_, hu]
        | succ k => simp [Builtin.clear_, hu, hzv, hst]
      simp [BigFrame.builtin_clear, ha.ev hx, h0]
    unfold Oper.wp
    rw [hrun]
    exact hK _ _ (h _ hlen _ _ ha hw')
/-- append of so many zeros, where there is no room -/
theorem At.appendZ {ops : Array Oper} {rest : List Oper} {d : Nat} {x y : Operand} {t tn ty : TypeId} {pos : String} {aft : Array Edge} {i k : Nat} {kn : IntKind} (z : α)
    (hx : ev F x = some (.slice p i c)) (hy : ev F y = some (.int .i64 (k : Int))) (h1 : Rdb (HW w0 m Rs) f sz p c l) (hi : i = l.length) (ht : P.underlying t = some (.slice E)) (htn : P.underlying tn = some (.int kn)) (he : elemB P E sz = true) (hz : zeroL P E = some (f z))
    (hgrow : c < l.length + k) (h0 : 0 < k) (hsm : l.length + k ≤ 34359738368) (hd : Nat.blt d n = true)
    (h : ∀ p' c', At n w0 ((d, .slice p' (l ++ List.replicate k z).length c') :: F) m (.own f sz E p' c' (l ++ List.replicate k z) :: Rs) (wpList P ops Q rest)) :
    At n w0 F m Rs (wpList P ops Q (⟨some d, .call ⟨.builtin .append, #[x, y], #[t, tn]⟩, ty, pos, aft, none⟩ :: rest)) := fun ac w ha hw =>
  wpList_plain rfl fun K hK => by
    subst hi
    have hf := h1.fl
    obtain ⟨i, zv, hi, hzv, hsz, hbt, hzs⟩ := elemB_spec he
    obtain ⟨i', z', hi', hz', hzc⟩ := zeroL_spec hz
    rw [hi] at hi'; cases hi'
    rw [hzv] at hz'; cases hz'
    have hby : (l.length + k) * i.bytes ≤ 140737488355328 := Nat.le_trans (Nat.mul_le_mul hsm hbt) (by omega)
    have h63 : l.length + k ≤ maxLen := by simp only [maxLen]; omega
    have s1 := rdb_src (P := P) h1 hw ht
    have hl1 := flatMap_length hf.len l
    have hold : (Builtin.firstCells i.size l.length (.slice p l.length c)).run P w.drew = .ok (l.flatMap f).toArray w.drew := by rw [hsz]; exact s1.cellsD
    have hge := grownCap_ge w (l.length + k) c E
    have hcm : grownCap w (l.length + k) c E ≤ maxLen := grownCap_le_maxLen w (l.length + k) c E h63
    have hlz : (f z).length = sz := hf.len z
    have hcp : Builtin.zeroCells zv.cells k = (copies k (f z)).toArray := by
      have := copies_arr zv.cells (f z) hzc k
      rw [hlz] at this
      unfold Builtin.zeroCells
      rw [← this, hzs]
    have hfm : (l ++ List.replicate k z).flatMap f = l.flatMap f ++ copies k (f z) := by rw [List.flatMap_append, flatMap_replicate]
    have hr : (Builtin.append_ #[t, tn] ty #[.slice p l.length c, .int .i64 (k : Int)]).run P w = .ok (.slice (some ⟨w.heap.size, 0, none⟩) (l.length + k) (grownCap w (l.length + k) c E))
        (w.drew.alloc (.cells ((l.flatMap f ++ copies k (f z)).toArray ++ Builtin.zeroCells zv.cells (grownCap w (l.length + k) c E - (l.length + k))) E)) := by
      have hwk : IntKind.i64.wrap (k : Int) = k := by rw [IntKind.wrap_i64]; omega
      have hneg : ¬ ((k : Int) < 0) := by omega
      have hkb : k * i.bytes ≤ 281474976710656 := Nat.le_trans (Nat.mul_le_mul (show k ≤ 34359738368 by omega) hbt) (by omega)
      have h48 : ¬ (281474976710656 < (k : Int) * (i.bytes : Int)) := by rw [← Int.natCast_mul]; omega
      have hn : ¬ (l.length + k ≤ c) := by omega
      have h63' : ¬ (9223372036854775807 < (l.length : Int) + (k : Int)) := by omega
      have hb63 : ¬ (281474976710656 < Builtin.nextslicecap (l.length + k) c * i.bytes) := by have := growslice_fits hgrow hby; omega
      have hk0 : ¬ k = 0 := by omega
      have hs0 : ¬ (k * i.size = 0) := Nat.mul_ne_zero hk0 (by have := hf.pos; omega)
      rw [show (l.flatMap f ++ copies k (f z)).toArray = (l.flatMap f).toArray ++ (copies k (f z)).toArray by simp, ← hcp]
      simp [Builtin.append_, run_underlying ht, run_underlying htn, sizeOf, typeInfo, zeroValue, hi, hzv, asInt, asIntOf, hwk, hneg, h48, hn, h63', hb63, hk0, hs0, Question.forced, hold, newRow, grownCap]
    unfold Oper.wp
    have hrun : ∀ v w', (Builtin.append_ #[t, tn] ty #[.slice p l.length c, .int .i64 (k : Int)]).run P w = .ok v w' → (execOp ac.eval ⟨some d, .call ⟨.builtin .append, #[x, y], #[t, tn]⟩, ty, pos, aft, none⟩).run P w = .ok (.value v) w' := fun v w' hr => by
      rw [BigFrame.execOp_builtin]
      simp [BigFrame.builtin_append, ha.ev hx, ha.ev hy, hr]
    rw [hrun _ _ hr]
    have hll : (l ++ List.replicate k z).length = l.length + k := by simp
    rw [← hll] at hge hcm ⊢
    refine hK _ _ (h _ _ _ _ (ha.put hd) (hw.add rfl rfl rfl (by simp) (fun j hj => heap_alloc_old w.drew _ hj) ⟨fun j => j = w.heap.size, .inr ⟨w.heap.size, 0, _, rfl, heap_alloc_new w.drew _, hge, hcm, ?_, fun j hj => ?_, fun _ => Iff.rfl⟩, fun j hj => by omega⟩))
    · rw [← hfm]
      simp only [Array.size_append, List.size_toArray, size_zeroCells, hzs, flatMap_length hf.len, ← Nat.add_mul]
      rw [Nat.add_sub_cancel' hge, Nat.zero_add]
      exact Nat.le_refl _
    · rw [Nat.zero_add, ← hfm, Array.getElem?_append_left (by simp only [List.size_toArray, flatMap_length hf.len]; exact hj)]
      simp
theorem pr_cap_sl {x : Operand} {t e : TypeId} {ln : Nat} (ht : P.underlying t = some (.slice e)) (hx : ev F x = some (.slice p ln c)) : PR P n F C (.call ⟨.builtin .cap, #[x], #[t]⟩) (.int .i64 (c : Int)) := fun _ _ _ _ _ a w ha _ => by
  simp [execOp, resolve, invoke, builtin, ha.ev hx, Builtin.cap_, underlying, program, ht, Sem.run, goInt]
/-- a part whose end is told with its room -/
theorem run_slice4 {t e : TypeId} (ht : P.underlying t = some (.slice e)) (hs : sizeB P e = some sz) (p : Option Addr) (l c lo hi mx : Nat) (h1 : lo ≤ hi) (h2 : hi ≤ mx) (h3 : mx ≤ c) (k k' k2 : IntKind) (w : World) :
    (Instr.sliceAt t (.slice p l c) (some (.int k (lo : Int))) (some (.int k' (hi : Int))) (some (.int k2 (mx : Int)))).run P w = .ok (.slice (subp p mx lo sz) (hi - lo) (mx - lo)) w := by
  have hr : ∀ w, (underlying t).run P w = .ok (.slice e) w := fun w => by simp only [underlying, program, bind, Sem.bind, Sem.run, ht]; rfl
  unfold Instr.sliceAt
  simp only [Sem.run_bind, hr, Result.andThen]
  unfold Instr.slice
  simp only [Sem.run_bind, hr, Result.andThen]
  have hb : (Instr.sliceBounds true l c (some (.int k (lo : Int))) (some (.int k' (hi : Int))) (some (.int k2 (mx : Int)))).run P w = .ok (lo, hi, mx) w := by
    unfold Instr.sliceBounds Instr.sliceBound
    simp [asIntOf, pure, Sem.run, bind, Sem.bind, h1, h2, h3]
  rw [hb]
  simp only [run_sizeOf hs, pure, Sem.run, subp]
theorem pr_slice4 {x y z u : Operand} {t e : TypeId} {ln lo hi mx : Nat} {k k' k2 : IntKind} (hx : ev F x = some (.slice p ln c)) (hy : ev F y = some (.int k (lo : Int))) (hz : ev F z = some (.int k' (hi : Int))) (hu : ev F u = some (.int k2 (mx : Int))) (ht : P.underlying t = some (.slice e)) (hs : sizeB P e = some sz) (h1 : lo ≤ hi) (h2 : hi ≤ mx) (h3 : mx ≤ c) :
    PR P n F C (.slice t x (some y) (some z) (some u)) (.slice (subp p mx lo sz) (hi - lo) (mx - lo)) := fun _ _ _ _ _ a w ha hC => by
  simp only [execOp, ha.ev hx, Sem.run_bind, Option.map_some, ha.ev hy, ha.ev hz, ha.ev hu]
  rw [run_slice4 ht hs p ln c lo hi mx h1 h2 h3]
  rfl
/-- parts of a row that is there -/
theorem pr_slice_bl {x y : Operand} {t e : TypeId} {ln lo : Nat} {k : IntKind} (hx : ev F x = some (.slice (some ⟨g, o, none⟩) ln c)) (hy : ev F y = some (.int k (lo : Int))) (ht : P.underlying t = some (.slice e)) (hs : sizeB P e = some sz) (h1 : lo ≤ ln) (h2 : ln ≤ c) (hlt : lo < c) :
    PR P n F C (.slice t x (some y) none none) (.slice (some ⟨g, o + lo * sz, none⟩) (ln - lo) (c - lo)) := by
  have := pr_slice_l (P := P) (n := n) (C := C) hx hy ht hs h1 h2
  rwa [show subp (some ⟨g, o, none⟩) c lo sz = some ⟨g, o + lo * sz, none⟩ by unfold subp; rw [if_neg (by omega)]; simp [Addr.add_eq]] at this
theorem pr_slice_bh {x y : Operand} {t e : TypeId} {ln hi : Nat} {k : IntKind} (hx : ev F x = some (.slice p ln c)) (hy : ev F y = some (.int k (hi : Int))) (ht : P.underlying t = some (.slice e)) (hs : sizeB P e = some sz) (h2 : hi ≤ c) :
    PR P n F C (.slice t x none (some y) none) (.slice p hi c) := by
  have := pr_slice_h (P := P) (n := n) (C := C) hx hy ht hs h2
  rwa [subp0, Nat.sub_zero, Nat.sub_zero] at this
theorem pr_slice_blh {x y z : Operand} {t e : TypeId} {ln lo hi : Nat} {k k' : IntKind} (hx : ev F x = some (.slice (some ⟨g, o, none⟩) ln c)) (hy : ev F y = some (.int k (lo : Int))) (hz : ev F z = some (.int k' (hi : Int))) (ht : P.underlying t = some (.slice e)) (hs : sizeB P e = some sz) (h1 : lo ≤ hi) (h2 : hi ≤ c) (hlt : lo < c) :
    PR P n F C (.slice t x (some y) (some z) none) (.slice (some ⟨g, o + lo * sz, none⟩) (hi - lo) (c - lo)) := by
  have := pr_slice_lh (P := P) (n := n) (C := C) hx hy hz ht hs h1 h2
  rwa [show subp (some ⟨g, o, none⟩) c lo sz = some ⟨g, o + lo * sz, none⟩ by unfold subp; rw [if_neg (by omega)]; simp [Addr.add_eq]] at this
theorem subp_lt {lo : Nat} (h : lo < c) : subp (some ⟨g, o, none⟩) c lo sz = some ⟨g, o + lo * sz, none⟩ := by unfold subp; rw [if_neg (by omega)]; simp [Addr.add_eq]
/-- a row that is there, read as a slice -/
theorem blk_rdbF (hp : Pick Rs (.blk g E cs) Rs') (hf : Fl f sz) (hh : Hld cs o (l.flatMap f)) (hc : l.length ≤ c) : Rdb (HW w0 m Rs) f sz (some ⟨g, o, none⟩) c l :=
  ⟨hf, fun _ _ _ => ⟨_, _, rfl⟩, fun _ _ => hc, fun w hw i j hi hj => by
    show w.cell? ⟨g, o + (i * sz + j), none⟩ = _
    have hb : (i + 1) * sz ≤ l.length * sz := Nat.mul_le_mul_right _ hi
    rw [Nat.add_mul] at hb
    rw [World.cell_of (hw.blk hp), List.getElem?_toArray, hh _ (by rw [flatMap_length hf.len]; omega), flatMap_get hf.len l i j hi hj]⟩
theorem Hld.split {i : Nat} (hf : Fl f sz) (hh : Hld cs o (l.flatMap f)) (hi : i ≤ l.length) : Hld cs o ((l.take i).flatMap f) ∧ Hld cs (o + i * sz) ((l.drop i).flatMap f) := by
  have e : l.flatMap f = (l.take i).flatMap f ++ (l.drop i).flatMap f := by rw [← List.flatMap_append, List.take_append_drop]
  rw [e] at hh
  refine ⟨hh.left, ?_⟩
  have := hh.right
  rwa [flatMap_length hf.len, List.length_take, Nat.min_eq_left hi] at this
/-- .. whose cells are known at once -/
theorem At.appendZB {ops : Array Oper} {rest : List Oper} {d : Nat} {x y : Operand} {t tn ty : TypeId} {pos : String} {aft : Array Edge} {i k : Nat} {kn : IntKind} (z : α)
    (hx : ev F x = some (.slice p i c)) (hy : ev F y = some (.int .i64 (k : Int))) (h1 : Rdb (HW w0 m Rs) f sz p c l) (hi : i = l.length) (ht : P.underlying t = some (.slice E)) (htn : P.underlying tn = some (.int kn)) (he : elemB P E sz = true) (hz : zeroL P E = some (f z))
    (hgrow : c < l.length + k) (h0 : 0 < k) (hsm : l.length + k ≤ 34359738368) (hd : Nat.blt d n = true)
    (h : ∀ g o c' cs, l.length + k ≤ c' → c' ≤ maxLen → o + c' * sz ≤ cs.length → Hld cs o ((l ++ List.replicate k z).flatMap f) → At n w0 ((d, .slice (some ⟨g, o, none⟩) (l.length + k) c') :: F) m (.blk g E cs :: Rs) (wpList P ops Q rest)) :
    At n w0 F m Rs (wpList P ops Q (⟨some d, .call ⟨.builtin .append, #[x, y], #[t, tn]⟩, ty, pos, aft, none⟩ :: rest)) := by
  refine At.appendZ z hx hy h1 hi ht htn he hz hgrow h0 hsm hd fun p' c' => ?_
  have hll : (l ++ List.replicate k z).length = l.length + k := by simp
  refine At.own_row pk0 (fun _ _ e => absurd (congrArg List.length e) (by rw [hll]; simp; omega)) (fun g o cs e h2 h3 h4 h5 => ?_) h1.fl
  subst e
  rw [hll] at h2 ⊢
  exact h g o c' cs h2 h3 h4 h5
theorem Pick.skip {X Y : Res} {A B T : List Res} (hp : Pick A X B) (hp2 : Pick B Y T) : ∃ T', Pick A Y T' := by
  induction hp generalizing T with
  | here => exact ⟨_, .there hp2⟩
  | @there X' R A B _ ih =>
    cases hp2 with
    | here => exact ⟨_, .here⟩
    | there h => obtain ⟨T', hT⟩ := ih h; exact ⟨_, .there hT⟩
theorem At.blk_ne (hp : Pick Rs (.blk g E cs) R1) (hp2 : Pick R1 (.blk g2 E2 cs2) R2) (h : g ≠ g2 → At n w0 F m Rs K) : At n w0 F m Rs K := fun a w ha hw => by
  refine h (fun e => ?_) a w ha hw
  obtain ⟨s, ⟨s1, s2, h1, h2, hd, he⟩, _⟩ := (hw.ent (Ent.of_pick hp)).res
  obtain ⟨s3, s4, h3, _, _, he2⟩ := (Sat.pick hp2).1 h2
  exact hd g ⟨(h1.2 g).2 rfl, (he2 g).2 (.inl ((h3.2 g).2 e))⟩
theorem pr_overlaps {id : FuncId} {fn : Func} {x y : Operand} {t r : TypeId} {ts : Array TypeId} {b : Nat} (hf : P.funcs[id]? = some fn) (hname : (fn.name == "runtime.NumGoroutine") = false) (hb : fn.body.isNone = true) (hn : Extern.findNext fn = none) (he : Extern.find fn = some (Extern.SlicesOverlaps.overlaps #[t, t] #[r]))
    (hx : ev F x = some (.slice (some ⟨g, a, none⟩) sl sc)) (hy : ev F y = some (.slice (some ⟨g2, b, none⟩) dl dc)) (ht : P.underlying t = some (.slice E)) (hs : sizeB P E = some sz) (hp : Pick Rs (.blk g E cs) R1) (hp2 : Pick R1 (.blk g2 E2 cs2) R2) (hne : g ≠ g2) (h0 : 0 < cs2.length) :
    PR P n F (HW w0 m Rs) (.call ⟨.value (.func id), #[x, y], ts⟩) (.bool false) := fun _ _ _ _ _ ac w ha hw => by
  rw [execOp_call_go]
  have h1 := hw.blk hp
  obtain ⟨R3, hp3⟩ := hp.skip hp2
  have h2 := hw.blk hp3
  have : (#[] ++ (#[x, y] : Array Operand).map ac.eval ++ #[] : Array Value) = #[.slice (some ⟨g, a, none⟩) sl sc, .slice (some ⟨g2, b, none⟩) dl dc] := by simp [ha.ev hx, ha.ev hy]
  rw [this, run_callFunc_extern hf hname hb hn he]
  have hfz : ∀ o', w.frozen? ⟨g, o', none⟩ = false := fun o' => by simp [World.frozen?, h1]
  rw [Lib.run_overlaps_apart w t r E ht sz (fun w => run_sizeOf hs w) ⟨g, a, none⟩ ⟨g2, b, none⟩ sl sc dl dc hne E E2 cs.length cs2.length (by simp [World.shape?, h1]) (by simp [World.shape?, h2]) (by omega) (hfz _) (hfz _)]
  rfl
end
end Go.J
/- Lists of whole numbers, of texts, of bools, as cells; whether two are one. -/
set_option linter.unusedSimpArgs false
set_option linter.unusedVariables false
set_option linter.unusedSectionVars false
set_option maxRecDepth 20000
set_option maxHeartbeats 4000000
namespace Go.Proofs.Ytoplagjjojlceaa
open Go Go.J
attribute [local irreducible] At AtQ AtM AtM1 PR Ct Pu Rd Res.blk Res.own Res.ex RVs RV
namespace Ls
abbrev fI : Int → List Value := fun x => [.int .i64 x]
instance : Fl fI 1 := ⟨fun _ => rfl, fun _ v h => by simp at h; subst h; rfl, by decide⟩
abbrev fS : List UInt8 → List Value := fun x => [.string (str x)]
instance : Fl fS 1 := ⟨fun _ => rfl, fun _ v h => by simp at h; subst h; rfl, by decide⟩
abbrev fO : Bool → List Value := fun x => [.bool x]
instance : Fl fO 1 := ⟨fun _ => rfl, fun _ v h => by simp at h; subst h; rfl, by decide⟩
abbrev fH : Nat → List Value := fun x => [.int .u16 (x : Int)]
instance : Fl fH 1 := ⟨fun _ => rfl, fun _ v h => by simp at h; subst h; rfl, by decide⟩
/-- a slice that stands in a slice -/
structure SX (α : Type) where
  (l : List α) (p : Option Addr) (c : Nat)
instance {α : Type} : Inhabited (SX α) := ⟨⟨[], none, 0⟩⟩
abbrev fX {α : Type} : SX α → List Value := fun x => [.slice x.p x.l.length x.c]
instance {α : Type} : Fl (fX (α := α)) 1 := ⟨fun _ => rfl, fun _ v h => by simp at h; subst h; rfl, by decide⟩
theorem ext! {α : Type} [Inhabited α] {a b : List α} (hl : a.length = b.length) (h : ∀ i, i < a.length → a[i]! = b[i]!) : a = b :=
  List.ext_getElem hl fun i h1 h2 => by have := h i h1; rwa [getElem!_pos a i h1, getElem!_pos b i h2] at this
theorem take_snoc {α : Type} [Inhabited α] {l : List α} {i : Nat} (h : i < l.length) : l.take (i + 1) = l.take i ++ [l[i]!] := by
  rw [getElem!_pos l i h, List.take_succ_eq_append_getElem h]
theorem drop_cons {α : Type} [Inhabited α] {l : List α} {i : Nat} (h : i < l.length) : l.drop i = l[i]! :: l.drop (i + 1) := by
  rw [getElem!_pos l i h, List.drop_eq_getElem_cons h]
theorem mem! {α : Type} [Inhabited α] {l : List α} {i : Nat} (h : i < l.length) : l[i]! ∈ l := by
  rw [getElem!_pos l i h]; exact List.getElem_mem h
theorem clipSl {m : Mem} {α : Type} [Inhabited α] {f : α → List Value} {sz : Nat} {p : Option Addr} {c : Nat} {l : List α} (h : Sl m f sz p c l) : Sl m f sz p l.length l := by
  have hle := h.le
  refine ⟨h.fl, Nat.le_refl _, Nat.le_trans hle h.big, fun e => by have := h.nil e; omega, fun a ha h0 => ?_⟩
  obtain ⟨h1, E, cs, fz, h2, h3, h4⟩ := h.some a ha (by omega)
  exact ⟨h1, E, cs, fz, h2, Nat.le_trans (Nat.add_le_add_left (Nat.mul_le_mul_right _ hle) _) h3, h4⟩
end Ls
end Go.Proofs.Ytoplagjjojlceaa
/- DeleteFunc, of events of a range, and of a name. -/
set_option linter.unusedSimpArgs false
set_option linter.unusedVariables false
set_option linter.unusedSectionVars false
set_option maxRecDepth 20000
set_option maxHeartbeats 4000000
namespace Go.Proofs.Ytoplagjjojlceaa
open Go Go.J
attribute [local irreducible] At AtQ AtM AtM1 PR Ct Pu Rd Res.blk Res.own Res.ex RVs RV
namespace Fl
open Ev
abbrev pt (b : Nat) : Value := .pointer (some ⟨b, 0, none⟩)
def keep (a b : Int) (e : Ev) : Bool := decide (a ≤ e.T ∧ e.T < b)
abbrev bx (b4 b5 : Nat) (a b : Int) : List Res := [.blk b4 2 [.int .i64 a], .blk b5 2 [.int .i64 b]]
theorem clos {m : Mem} (b4 b5 : Nat) (a b : Int) (e : Ev) : Ct Try.prog 33 #[e.v, pt b4, pt b5] m (bx b4 b5 a b) (fun v m' B => v = .bool (!keep a b e) ∧ m = m' ∧ B = bx b4 b5 a b) := by
  by_cases h : e.T < a
  · rw [show keep a b e = false from decide_eq_false (by omega)]
    refine Ct.enterV (by rfl) Try.func33 rfl Try.ntmps33 rfl (fun w0 Rest => ?_)
    (repeat' (first | refine zss ?_ | refine zs0 ?_ | ((with_reducible apply At.box (d := 3)); exact rfl; exact rfl; exact rfl; intro b3) | (refine zsp ?_ ?_ <;> (intro hc; (try simp only [zhcs, reduceCtorEq] at hc); (try (exfalso; first | omega | contradiction | omega | exact absurd rfl hc | exact absurd (by decide) hc))))))
    all_goals ((with_reducible apply At.retB1 (B := bx b4 b5 a b)); exact rfl; exact rfl; exact zml; exact zkp; exact ⟨rfl, rfl, rfl⟩)
  · rw [show (!keep a b e) = decide (b ≤ e.T) by unfold keep; rw [← decide_not, decide_eq_decide]; omega]
    refine Ct.enterV (by rfl) Try.func33 rfl Try.ntmps33 rfl (fun w0 Rest => ?_)
    (repeat' (first | refine zss ?_ | refine zs0 ?_ | ((with_reducible apply At.box (d := 3)); exact rfl; exact rfl; exact rfl; intro b3) | (refine zsp ?_ ?_ <;> (intro hc; (try simp only [zhcs, reduceCtorEq] at hc); (try (exfalso; first | omega | contradiction | omega | exact absurd rfl hc | exact absurd (by decide) hc))))))
    all_goals ((with_reducible apply At.retB1 (B := bx b4 b5 a b)); exact rfl; exact rfl; exact zml; exact zkp; exact ⟨rfl, rfl, rfl⟩)
abbrev ow (p : Option Addr) (c : Nat) (l : List Ev) : Res := .own cells 4 32 p c l
theorem closF {m : Mem} (b4 b5 : Nat) (a b : Int) (e : Ev) (h : keep a b e = false) : Ct Try.prog 33 #[e.v, pt b4, pt b5] m (bx b4 b5 a b) (fun v m' B => v = .bool true ∧ m = m' ∧ B = bx b4 b5 a b) := by
  have := clos (m := m) b4 b5 a b e; rwa [h] at this
theorem closT {m : Mem} (b4 b5 : Nat) (a b : Int) (e : Ev) (h : keep a b e = true) : Ct Try.prog 33 #[e.v, pt b4, pt b5] m (bx b4 b5 a b) (fun v m' B => v = .bool false ∧ m = m' ∧ B = bx b4 b5 a b) := by
  have := clos (m := m) b4 b5 a b e; rwa [h] at this
abbrev bxo (b4 b5 : Nat) (a b : Int) (p : Option Addr) (c : Nat) (l : List Ev) : List Res := [.blk b4 2 [.int .i64 a], .blk b5 2 [.int .i64 b], ow p c l]
abbrev fnv (b4 b5 : Nat) : Value := .func (.func 33) #[] #[pt b4, pt b5]
theorem indexF {m : Mem} (b4 b5 : Nat) (a b : Int) (p : Option Addr) (c : Nat) (l : List Ev) (hl : l.length ≤ 1000000) :
    Ct Try.prog 43 #[.slice p l.length c, fnv b4 b5] m (bxo b4 b5 a b p c l) (fun v m' B => m = m' ∧ B = bxo b4 b5 a b p c l ∧
      ((v = .int .i64 (-1) ∧ ∀ i, i < l.length → keep a b (l[i]!) = true) ∨ (∃ k : Nat, v = .int .i64 (k : Int) ∧ k < l.length ∧ keep a b (l[k]!) = false ∧ ∀ i, i < k → keep a b (l[i]!) = true))) := by
  refine Ct.enterV (by rfl) Try.func43 rfl Try.ntmps43 rfl (fun w0 Rest => ?_)
  (repeat' (first | refine zss ?_ | refine zsO ?_ | (refine zsp ?_ ?_ <;> (intro hc; (try simp only [zhcs, reduceCtorEq] at hc); (try (exfalso; first | contradiction | omega | exact absurd rfl hc | exact absurd (by decide) hc))))))
  (refine At.loopk (σ := Nat) [0, 1, 7] (fun s F0 => (8, .int .i64 (s : Int)) :: F0) (fun s => m) (fun s => .blk b4 2 [.int .i64 a] :: .blk b5 2 [.int .i64 b] :: ow p c l :: Rest) (fun s => s ≤ l.length ∧ ∀ i, i < s → keep a b (l[i]!) = true) (fun s => l.length - s) 0 (by rfl) ?_ zsubs zml zente ?_)
  · exact ⟨Nat.zero_le _, fun i h => absurd h (Nat.not_lt_zero i)⟩
  rintro s ⟨hs, hn⟩
  by_cases h : s < l.length
  · cases hk : keep a b (l[s]!) with
    | true =>
      have hnn : ∀ i, i < s + 1 → keep a b (l[i]!) = true := fun i hi => by
        by_cases e1 : i = s
        · subst e1; exact hk
        · exact hn i (by omega)
      (repeat' (first | refine zss ?_ | refine zsO ?_ | ((with_reducible apply At.callf); exact rfl; kernel_rfl; exact rfl; exact rfl; exact closT b4 b5 a b _ hk; exact ztk; rintro v' m' B' hm' ⟨rfl, rfl, rfl⟩; skip) | (refine zsp ?_ ?_ <;> (intro hc; (try simp only [zhcs, reduceCtorEq] at hc); (try (exfalso; first | omega | contradiction | omega | exact absurd rfl hc | exact absurd (by decide) hc))))))
      all_goals ((with_reducible refine At.reachk ((s + 1)) ?_ ?_ ?_ ?_); exact zsubs; exact zml; exact zente; exact ⟨⟨h, hnn⟩, by omega⟩)
    | false =>
      (repeat' (first | refine zss ?_ | refine zsO ?_ | ((with_reducible apply At.callf); exact rfl; kernel_rfl; exact rfl; exact rfl; exact closF b4 b5 a b _ hk; exact ztk; rintro v' m' B' hm' ⟨rfl, rfl, rfl⟩; skip) | (refine zsp ?_ ?_ <;> (intro hc; (try simp only [zhcs, reduceCtorEq] at hc); (try (exfalso; first | omega | contradiction | omega | exact absurd rfl hc | exact absurd (by decide) hc))))))
      all_goals ((with_reducible apply At.retB1 (B := bxo b4 b5 a b p c l)); exact rfl; exact rfl; exact zml; exact zkp; exact ⟨rfl, rfl, .inr ⟨_, rfl, h, hk, hn⟩⟩)
  · (repeat' (first | refine zss ?_ | refine zsO ?_ | (refine zsp ?_ ?_ <;> (intro hc; (try simp only [zhcs, reduceCtorEq] at hc); (try (exfalso; first | omega | contradiction | omega | exact absurd rfl hc | exact absurd (by decide) hc))))))
    all_goals ((with_reducible apply At.retB1 (B := bxo b4 b5 a b p c l)); exact rfl; exact rfl; exact zml; exact zkp; exact ⟨rfl, rfl, .inl ⟨rfl, fun i hi => hn i (by omega)⟩⟩)
section
variable {α : Type} [Inhabited α]
structure DS (α : Type) where
  (i j : Nat) (L : List α)
theorem filt_snoc (f : α → Bool) (l : List α) (j : Nat) (hj : j < l.length) : (l.take (j + 1)).filter f = (l.take j).filter f ++ (if f (l[j]!) then [l[j]!] else []) := by
  rw [List.take_add_one, List.filter_append, getElem!_pos l j hj, List.getElem?_eq_getElem hj]
  congr 1
  simp only [Option.toList_some, List.filter_cons, List.filter_nil]
theorem all_filt {f : α → Bool} {l : List α} (h : ∀ i, i < l.length → f (l[i]!) = true) : l.filter f = l := by
  rw [List.filter_eq_self]
  intro e he
  obtain ⟨i, hi, rfl⟩ := List.mem_iff_getElem.1 he
  have := h i hi
  rwa [getElem!_pos l i hi] at this
def dinv (f : α → Bool) (l : List α) (s : DS α) : Prop := s.i < s.j ∧ s.j ≤ l.length ∧ s.L.length = l.length ∧ s.L.take s.i = (l.take s.j).filter f ∧ s.L.drop s.j = l.drop s.j
theorem dinv.get {f : α → Bool} {l : List α} {s : DS α} (h : dinv f l s) (hj : s.j < l.length) : s.L[s.j]! = l[s.j]! := by
  obtain ⟨_, _, h3, _, h5⟩ := h
  rw [getElem!_pos s.L s.j (by omega), getElem!_pos l s.j hj]
  have e1 : (s.L.drop s.j)[0]? = (l.drop s.j)[0]? := by rw [h5]
  rw [List.getElem?_drop, List.getElem?_drop, Nat.add_zero, List.getElem?_eq_getElem (by omega), List.getElem?_eq_getElem hj] at e1
  exact Option.some.inj e1
theorem drop_succ' {a b : List α} {j : Nat} (h : a.drop j = b.drop j) : a.drop (j + 1) = b.drop (j + 1) := by
  rw [← List.drop_drop, ← List.drop_drop, h]
theorem dinv.no {f : α → Bool} {l : List α} {s : DS α} (h : dinv f l s) (hj : s.j < l.length) (hk : f (l[s.j]!) = false) : dinv f l ⟨s.i, s.j + 1, s.L⟩ := by
  obtain ⟨h1, h2, h3, h4, h5⟩ := h
  refine ⟨by show s.i < s.j + 1; omega, hj, h3, ?_, drop_succ' h5⟩
  show s.L.take s.i = _
  rw [filt_snoc f l s.j hj, hk, h4]; simp
theorem dinv.yes {f : α → Bool} {l : List α} {s : DS α} (h : dinv f l s) (hj : s.j < l.length) (hk : f (l[s.j]!) = true) : dinv f l ⟨s.i + 1, s.j + 1, s.L.set s.i (l[s.j]!)⟩ := by
  obtain ⟨h1, h2, h3, h4, h5⟩ := h
  refine ⟨by show s.i + 1 < s.j + 1; omega, hj, by simpa using h3, ?_, ?_⟩
  · show (s.L.set s.i (l[s.j]!)).take (s.i + 1) = _
    rw [filt_snoc f l s.j hj, if_pos hk, ← h4, List.take_add_one, List.take_set_of_le (Nat.le_refl _), List.getElem?_set_self (by omega)]; rfl
  · show (s.L.set s.i (l[s.j]!)).drop (s.j + 1) = _
    rw [List.drop_set_of_lt (by omega)]; exact drop_succ' h5
end
theorem deleteF {m : Mem} (b4 b5 : Nat) (a b : Int) (p : Option Addr) (c : Nat) (l : List Ev) (hl : l.length ≤ 1000000) :
    Ct Try.prog 32 #[.slice p l.length c, fnv b4 b5] m (bxo b4 b5 a b p c l) (fun v m' B => m = m' ∧ ∃ p2 c2, v = .slice p2 (l.filter (keep a b)).length c2 ∧ B = bxo b4 b5 a b p2 c2 (l.filter (keep a b))) := by
  by_cases hall : ∀ i, i < l.length → keep a b (l[i]!) = true
  · rw [all_filt hall]
    have hi : Ct Try.prog 43 #[.slice p l.length c, fnv b4 b5] m (bxo b4 b5 a b p c l) (fun v m' B => m = m' ∧ B = bxo b4 b5 a b p c l ∧ v = .int .i64 (-1)) :=
      (indexF b4 b5 a b p c l hl).mono fun v m' B _ ⟨h1, h2, h3⟩ => ⟨h1, h2, by
        rcases h3 with ⟨h4, _⟩ | ⟨k, _, hk, h5, _⟩
        · exact h4
        · rw [hall k hk] at h5; cases h5⟩
    refine Ct.enterV (by rfl) Try.func32 rfl Try.ntmps32 rfl (fun w0 Rest => ?_)
    (repeat' (first | refine zss ?_ | refine zsO ?_ | ((with_reducible first | apply At.c1 | apply At.c0); exact rfl; exact rfl; exact hi; exact ztk; kernel_rfl; rintro v' m' B' hm' ⟨rfl, rfl, rfl⟩; skip; (try (have hq0 : hm' = Mem.le_refl _ := rfl; clear hq0 hm'))) | ((with_reducible apply At.alloc (d := 7)); exact rfl; exact rfl; intro b7) | (refine zsp ?_ ?_ <;> (intro hc; (try simp only [zhcs, reduceCtorEq] at hc); (try (exfalso; first | omega | contradiction | omega | exact absurd rfl hc | exact absurd (by decide) hc))))))
    all_goals ((with_reducible apply At.retB1 (B := bxo b4 b5 a b _ _ l)); exact rfl; exact rfl; exact zml; exact zkp; exact ⟨rfl, _, _, rfl, rfl⟩)
  · have hi : Ct Try.prog 43 #[.slice p l.length c, fnv b4 b5] m (bxo b4 b5 a b p c l) (fun v m' B => m = m' ∧ B = bxo b4 b5 a b p c l ∧ ∃ k : Nat, v = .int .i64 (k : Int) ∧ k < l.length ∧ keep a b (l[k]!) = false ∧ ∀ i, i < k → keep a b (l[i]!) = true) :=
      (indexF b4 b5 a b p c l hl).mono fun v m' B _ ⟨h1, h2, h3⟩ => ⟨h1, h2, by
        rcases h3 with ⟨_, h4⟩ | h4
        · exact absurd h4 hall
        · exact h4⟩
    refine Ct.enterV (by rfl) Try.func32 rfl Try.ntmps32 rfl (fun w0 Rest => ?_)
    (repeat' (first | refine zss ?_ | refine zsO ?_ | ((with_reducible first | apply At.c1 | apply At.c0); exact rfl; exact rfl; exact hi; exact ztk; kernel_rfl; rintro v' m' B' hm' ⟨rfl, rfl, k, rfl, hk1, hk2, hk3⟩; skip; (try (have hq0 : hm' = Mem.le_refl _ := rfl; clear hq0 hm'))) | ((with_reducible apply At.alloc (d := 7)); exact rfl; exact rfl; intro b7) | (refine zsp ?_ ?_ <;> (intro hc; (try simp only [zhcs, reduceCtorEq] at hc); (try (exfalso; first | omega | contradiction | omega | exact absurd rfl hc | exact absurd (by decide) hc))))))
    (refine At.loopk (σ := DS Ev) [0, 1] (fun s F0 => (5, .int .i64 (s.i : Int)) :: (6, .int .i64 (s.j : Int)) :: F0) (fun s => m) (fun s => .blk b4 2 [.int .i64 a] :: .blk b5 2 [.int .i64 b] :: ow p c s.L :: Rest) (fun s => dinv (keep a b) l s) (fun s => l.length - s.j) ⟨k, k + 1, l⟩ (by rfl) ?_ zsubs zml zente ?_)
    · refine ⟨Nat.lt_succ_self k, hk1, rfl, ?_, rfl⟩
      show l.take k = (l.take (k + 1)).filter _
      rw [filt_snoc _ l k hk1, if_neg (by rw [hk2]; decide), List.append_nil, all_filt]
      intro i hi
      rw [List.length_take] at hi
      have := hk3 i (by omega)
      rw [getElem!_pos (l.take k) i (by rw [List.length_take]; exact hi), List.getElem_take]
      rwa [getElem!_pos l i (by omega)] at this
    rintro s hd
    have hd' := hd
    obtain ⟨d1, d2, d3, d4, d5⟩ := hd'
    rw [← d3]
    by_cases h : s.j < l.length
    · have hg := hd.get h
      have h' : s.j < s.L.length := by omega
      cases hk : keep a b (l[s.j]!) with
      | true =>
        have hy := hd.yes h hk
        rw [← hg] at hk hy
        (repeat' (first | refine zss ?_ | refine zsO ?_ | ((with_reducible apply At.callf); exact rfl; kernel_rfl; exact rfl; exact rfl; exact closT b4 b5 a b _ hk; exact ztk; rintro v' m' B' hm' ⟨rfl, rfl, rfl⟩; skip) | ((with_reducible apply At.storeW (f := cells) (x' := (s.L[s.j]!))); (iterate 3 exact rfl); exact (by repeat constructor); exact rfl; exact inferInstance; exact zom; (iterate 3 exact rfl)) | ((with_reducible apply At.alloc (d := 7)); exact rfl; exact rfl; intro b7) | (refine zsp ?_ ?_ <;> (intro hc; (try simp only [zhcs, reduceCtorEq] at hc); (try (exfalso; first | omega | contradiction | omega | exact absurd rfl hc | exact absurd (by decide) hc))))))
        all_goals ((with_reducible refine At.reachk ((⟨s.i + 1, s.j + 1, s.L.set s.i (s.L[s.j]!)⟩ : DS Ev)) ?_ ?_ ?_ ?_); exact zsubs; exact zml; exact zente; exact ⟨hy, Nat.sub_lt_sub_left h' (Nat.lt_succ_self s.j)⟩)
      | false =>
        have hy := hd.no h hk
        rw [← hg] at hk
        (repeat' (first | refine zss ?_ | refine zsO ?_ | ((with_reducible apply At.callf); exact rfl; kernel_rfl; exact rfl; exact rfl; exact closF b4 b5 a b _ hk; exact ztk; rintro v' m' B' hm' ⟨rfl, rfl, rfl⟩; skip) | ((with_reducible apply At.alloc (d := 7)); exact rfl; exact rfl; intro b7) | (refine zsp ?_ ?_ <;> (intro hc; (try simp only [zhcs, reduceCtorEq] at hc); (try (exfalso; first | omega | contradiction | omega | exact absurd rfl hc | exact absurd (by decide) hc))))))
        all_goals ((with_reducible refine At.reachk ((⟨s.i, s.j + 1, s.L⟩ : DS Ev)) ?_ ?_ ?_ ?_); exact zsubs; exact zml; exact zente; exact ⟨hy, Nat.sub_lt_sub_left h' (Nat.lt_succ_self s.j)⟩)
    · have hj : l.take s.j = l := List.take_of_length_le (by omega)
      rw [hj] at d4
      have hlen : (s.L.take s.i).length = s.i := by rw [List.length_take]; omega
      have hcl : s.i ≤ s.L.length := by omega
      rw [← d4, hlen]
      (repeat' (first | refine zss ?_ | refine zsO ?_ | ((with_reducible apply At.alloc (d := 7)); exact rfl; exact rfl; intro b7) | (refine zsp ?_ ?_ <;> (intro hc; (try simp only [zhcs, reduceCtorEq] at hc); (try (exfalso; first | omega | contradiction | omega | exact absurd rfl hc | exact absurd (by decide) hc))))))
      refine At.clearW (f := cells) (l := s.L) s.i (by rfl) (by repeat constructor) rfl inferInstance (by rfl) (by rfl) (by rfl) hcl rfl rfl ?_
      (repeat' (first | refine zss ?_ | ((first | (with_reducible first | apply At.val | apply AtQ.val)); (exact pr_slice_own (by rfl) (by rfl) (by repeat constructor) hlen (by rfl) (by rfl)); exact rfl) | refine zsO ?_ | ((with_reducible apply At.alloc (d := 7)); exact rfl; exact rfl; intro b7) | (refine zsp ?_ ?_ <;> (intro hc; (try simp only [zhcs, reduceCtorEq] at hc); (try (exfalso; first | omega | contradiction | omega | exact absurd rfl hc | exact absurd (by decide) hc))))))
      all_goals ((with_reducible apply At.retB1 (B := bxo b4 b5 a b _ _ _)); exact rfl; exact rfl; exact zml; exact zkp; exact ⟨rfl, p, c, by rw [subp0]; rfl, rfl⟩)
def keepS (a t : List UInt8) : Bool := !decide (t = a)
abbrev bxS (b4 : Nat) (a : List UInt8) : List Res := [.blk b4 9 [.string (str a)]]
theorem closS {m : Mem} (b4 : Nat) (a e : List UInt8) : Ct Try.prog 30 #[.string (str e), pt b4] m (bxS b4 a) (fun v m' B => v = .bool (!keepS a e) ∧ m = m' ∧ B = bxS b4 a) := by
  rw [show (!keepS a e) = decide (e = a) by unfold keepS; rw [Bool.not_not]]
  refine Ct.enterV (by rfl) Try.func30 rfl Try.ntmps30 rfl (fun w0 Rest => ?_)
  (repeat' (first | refine zss ?_ | refine zs0 ?_ | (refine zsp ?_ ?_ <;> (intro hc; (try simp only [zhcs, reduceCtorEq] at hc); (try (exfalso; first | omega | contradiction | omega | exact absurd rfl hc | exact absurd (by decide) hc))))))
  all_goals ((with_reducible apply At.retB1 (B := bxS b4 a)); exact rfl; exact rfl; exact zml; exact zkp; exact ⟨rfl, rfl, rfl⟩)
abbrev owS (p : Option Addr) (c : Nat) (l : List (List UInt8)) : Res := .own Ls.fS 1 9 p c l
theorem closFS {m : Mem} (b4 : Nat) (a e : List UInt8) (h : keepS a e = false) : Ct Try.prog 30 #[.string (str e), pt b4] m (bxS b4 a) (fun v m' B => v = .bool true ∧ m = m' ∧ B = bxS b4 a) := by
  have := closS (m := m) b4 a e; rwa [h] at this
theorem closTS {m : Mem} (b4 : Nat) (a e : List UInt8) (h : keepS a e = true) : Ct Try.prog 30 #[.string (str e), pt b4] m (bxS b4 a) (fun v m' B => v = .bool false ∧ m = m' ∧ B = bxS b4 a) := by
  have := closS (m := m) b4 a e; rwa [h] at this
abbrev bxoS (b4 : Nat) (a : List UInt8) (p : Option Addr) (c : Nat) (l : List (List UInt8)) : List Res := [.blk b4 9 [.string (str a)], owS p c l]
abbrev fnvS (b4 : Nat) : Value := .func (.func 30) #[] #[pt b4]
theorem indexFS {m : Mem} (b4 : Nat) (a : List UInt8) (p : Option Addr) (c : Nat) (l : List (List UInt8)) (hl : l.length ≤ 1000000) :
    Ct Try.prog 40 #[.slice p l.length c, fnvS b4] m (bxoS b4 a p c l) (fun v m' B => m = m' ∧ B = bxoS b4 a p c l ∧
      ((v = .int .i64 (-1) ∧ ∀ i, i < l.length → keepS a (l[i]!) = true) ∨ (∃ k : Nat, v = .int .i64 (k : Int) ∧ k < l.length ∧ keepS a (l[k]!) = false ∧ ∀ i, i < k → keepS a (l[i]!) = true))) := by
  refine Ct.enterV (by rfl) Try.func40 rfl Try.ntmps40 rfl (fun w0 Rest => ?_)
  (repeat' (first | refine zss ?_ | refine zsO ?_ | (refine zsp ?_ ?_ <;> (intro hc; (try simp only [zhcs, reduceCtorEq] at hc); (try (exfalso; first | contradiction | omega | exact absurd rfl hc | exact absurd (by decide) hc))))))
  (refine At.loopk (σ := Nat) [0, 1, 7] (fun s F0 => (8, .int .i64 (s : Int)) :: F0) (fun s => m) (fun s => .blk b4 9 [.string (str a)] :: owS p c l :: Rest) (fun s => s ≤ l.length ∧ ∀ i, i < s → keepS a (l[i]!) = true) (fun s => l.length - s) 0 (by rfl) ?_ zsubs zml zente ?_)
  · exact ⟨Nat.zero_le _, fun i h => absurd h (Nat.not_lt_zero i)⟩
  rintro s ⟨hs, hn⟩
  by_cases h : s < l.length
  · cases hk : keepS a (l[s]!) with
    | true =>
      have hnn : ∀ i, i < s + 1 → keepS a (l[i]!) = true := fun i hi => by
        by_cases e1 : i = s
        · subst e1; exact hk
        · exact hn i (by omega)
      (repeat' (first | refine zss ?_ | refine zsO ?_ | ((with_reducible apply At.callf); exact rfl; kernel_rfl; exact rfl; exact rfl; exact closTS b4 a _ hk; exact ztk; rintro v' m' B' hm' ⟨rfl, rfl, rfl⟩; skip) | (refine zsp ?_ ?_ <;> (intro hc; (try simp only [zhcs, reduceCtorEq] at hc); (try (exfalso; first | omega | contradiction | omega | exact absurd rfl hc | exact absurd (by decide) hc))))))
      all_goals ((with_reducible refine At.reachk ((s + 1)) ?_ ?_ ?_ ?_); exact zsubs; exact zml; exact zente; exact ⟨⟨h, hnn⟩, by omega⟩)
    | false =>
      (repeat' (first | refine zss ?_ | refine zsO ?_ | ((with_reducible apply At.callf); exact rfl; kernel_rfl; exact rfl; exact rfl; exact closFS b4 a _ hk; exact ztk; rintro v' m' B' hm' ⟨rfl, rfl, rfl⟩; skip) | (refine zsp ?_ ?_ <;> (intro hc; (try simp only [zhcs, reduceCtorEq] at hc); (try (exfalso; first | omega | contradiction | omega | exact absurd rfl hc | exact absurd (by decide) hc))))))
      all_goals ((with_reducible apply At.retB1 (B := bxoS b4 a p c l)); exact rfl; exact rfl; exact zml; exact zkp; exact ⟨rfl, rfl, .inr ⟨_, rfl, h, hk, hn⟩⟩)
  · (repeat' (first | refine zss ?_ | refine zsO ?_ | (refine zsp ?_ ?_ <;> (intro hc; (try simp only [zhcs, reduceCtorEq] at hc); (try (exfalso; first | omega | contradiction | omega | exact absurd rfl hc | exact absurd (by decide) hc))))))
    all_goals ((with_reducible apply At.retB1 (B := bxoS b4 a p c l)); exact rfl; exact rfl; exact zml; exact zkp; exact ⟨rfl, rfl, .inl ⟨rfl, fun i hi => hn i (by omega)⟩⟩)
theorem deleteFS {m : Mem} (b4 : Nat) (a : List UInt8) (p : Option Addr) (c : Nat) (l : List (List UInt8)) (hl : l.length ≤ 1000000) :
    Ct Try.prog 29 #[.slice p l.length c, fnvS b4] m (bxoS b4 a p c l) (fun v m' B => m = m' ∧ ∃ p2 c2, v = .slice p2 (l.filter (keepS a)).length c2 ∧ B = bxoS b4 a p2 c2 (l.filter (keepS a))) := by
  by_cases hall : ∀ i, i < l.length → keepS a (l[i]!) = true
  · rw [all_filt hall]
    have hi : Ct Try.prog 40 #[.slice p l.length c, fnvS b4] m (bxoS b4 a p c l) (fun v m' B => m = m' ∧ B = bxoS b4 a p c l ∧ v = .int .i64 (-1)) :=
      (indexFS b4 a p c l hl).mono fun v m' B _ ⟨h1, h2, h3⟩ => ⟨h1, h2, by
        rcases h3 with ⟨h4, _⟩ | ⟨k, _, hk, h5, _⟩
        · exact h4
        · rw [hall k hk] at h5; cases h5⟩
    refine Ct.enterV (by rfl) Try.func29 rfl Try.ntmps29 rfl (fun w0 Rest => ?_)
    (repeat' (first | refine zss ?_ | refine zsO ?_ | ((with_reducible first | apply At.c1 | apply At.c0); exact rfl; exact rfl; exact hi; exact ztk; kernel_rfl; rintro v' m' B' hm' ⟨rfl, rfl, rfl⟩; skip; (try (have hq0 : hm' = Mem.le_refl _ := rfl; clear hq0 hm'))) | (refine zsp ?_ ?_ <;> (intro hc; (try simp only [zhcs, reduceCtorEq] at hc); (try (exfalso; first | omega | contradiction | omega | exact absurd rfl hc | exact absurd (by decide) hc))))))
    all_goals ((with_reducible apply At.retB1 (B := bxoS b4 a _ _ l)); exact rfl; exact rfl; exact zml; exact zkp; exact ⟨rfl, _, _, rfl, rfl⟩)
  · have hi : Ct Try.prog 40 #[.slice p l.length c, fnvS b4] m (bxoS b4 a p c l) (fun v m' B => m = m' ∧ B = bxoS b4 a p c l ∧ ∃ k : Nat, v = .int .i64 (k : Int) ∧ k < l.length ∧ keepS a (l[k]!) = false ∧ ∀ i, i < k → keepS a (l[i]!) = true) :=
      (indexFS b4 a p c l hl).mono fun v m' B _ ⟨h1, h2, h3⟩ => ⟨h1, h2, by
        rcases h3 with ⟨_, h4⟩ | h4
        · exact absurd h4 hall
        · exact h4⟩
    refine Ct.enterV (by rfl) Try.func29 rfl Try.ntmps29 rfl (fun w0 Rest => ?_)
    (repeat' (first | refine zss ?_ | refine zsO ?_ | ((with_reducible first | apply At.c1 | apply At.c0); exact rfl; exact rfl; exact hi; exact ztk; kernel_rfl; rintro v' m' B' hm' ⟨rfl, rfl, k, rfl, hk1, hk2, hk3⟩; skip; (try (have hq0 : hm' = Mem.le_refl _ := rfl; clear hq0 hm'))) | (refine zsp ?_ ?_ <;> (intro hc; (try simp only [zhcs, reduceCtorEq] at hc); (try (exfalso; first | omega | contradiction | omega | exact absurd rfl hc | exact absurd (by decide) hc))))))
    (refine At.loopk (σ := DS (List UInt8)) [0, 1] (fun s F0 => (5, .int .i64 (s.i : Int)) :: (6, .int .i64 (s.j : Int)) :: F0) (fun s => m) (fun s => .blk b4 9 [.string (str a)] :: owS p c s.L :: Rest) (fun s => dinv (keepS a) l s) (fun s => l.length - s.j) ⟨k, k + 1, l⟩ (by rfl) ?_ zsubs zml zente ?_)
    · refine ⟨Nat.lt_succ_self k, hk1, rfl, ?_, rfl⟩
      show l.take k = (l.take (k + 1)).filter _
      rw [filt_snoc _ l k hk1, if_neg (by rw [hk2]; decide), List.append_nil, all_filt]
      intro i hi
      rw [List.length_take] at hi
      have := hk3 i (by omega)
      rw [getElem!_pos (l.take k) i (by rw [List.length_take]; exact hi), List.getElem_take]
      rwa [getElem!_pos l i (by omega)] at this
    rintro s hd
    have hd' := hd
    obtain ⟨d1, d2, d3, d4, d5⟩ := hd'
    rw [← d3]
    by_cases h : s.j < l.length
    · have hg := hd.get h
      have h' : s.j < s.L.length := by omega
      cases hk : keepS a (l[s.j]!) with
      | true =>
        have hy := hd.yes h hk
        rw [← hg] at hk hy
        (repeat' (first | refine zss ?_ | refine zsO ?_ | ((with_reducible apply At.callf); exact rfl; kernel_rfl; exact rfl; exact rfl; exact closTS b4 a _ hk; exact ztk; rintro v' m' B' hm' ⟨rfl, rfl, rfl⟩; skip) | ((with_reducible apply At.storeW (f := Ls.fS) (x' := (s.L[s.j]!))); (iterate 3 exact rfl); exact (by repeat constructor); exact rfl; exact inferInstance; exact zom; (iterate 3 exact rfl)) | (refine zsp ?_ ?_ <;> (intro hc; (try simp only [zhcs, reduceCtorEq] at hc); (try (exfalso; first | omega | contradiction | omega | exact absurd rfl hc | exact absurd (by decide) hc))))))
        all_goals ((with_reducible refine At.reachk ((⟨s.i + 1, s.j + 1, s.L.set s.i (s.L[s.j]!)⟩ : DS (List UInt8))) ?_ ?_ ?_ ?_); exact zsubs; exact zml; exact zente; exact ⟨hy, Nat.sub_lt_sub_left h' (Nat.lt_succ_self s.j)⟩)
      | false =>
        have hy := hd.no h hk
        rw [← hg] at hk
        (repeat' (first | refine zss ?_ | refine zsO ?_ | ((with_reducible apply At.callf); exact rfl; kernel_rfl; exact rfl; exact rfl; exact closFS b4 a _ hk; exact ztk; rintro v' m' B' hm' ⟨rfl, rfl, rfl⟩; skip) | (refine zsp ?_ ?_ <;> (intro hc; (try simp only [zhcs, reduceCtorEq] at hc); (try (exfalso; first | omega | contradiction | omega | exact absurd rfl hc | exact absurd (by decide) hc))))))
        all_goals ((with_reducible refine At.reachk ((⟨s.i, s.j + 1, s.L⟩ : DS (List UInt8))) ?_ ?_ ?_ ?_); exact zsubs; exact zml; exact zente; exact ⟨hy, Nat.sub_lt_sub_left h' (Nat.lt_succ_self s.j)⟩)
    · have hj : l.take s.j = l := List.take_of_length_le (by omega)
      rw [hj] at d4
      have hlen : (s.L.take s.i).length = s.i := by rw [List.length_take]; omega
      have hcl : s.i ≤ s.L.length := by omega
      rw [← d4, hlen]
      (repeat' (first | refine zss ?_ | refine zsO ?_ | (refine zsp ?_ ?_ <;> (intro hc; (try simp only [zhcs, reduceCtorEq] at hc); (try (exfalso; first | omega | contradiction | omega | exact absurd rfl hc | exact absurd (by decide) hc))))))
      refine At.clearW (f := Ls.fS) (l := s.L) s.i (by rfl) (by repeat constructor) rfl inferInstance (by rfl) (by rfl) (by rfl) hcl rfl rfl ?_
      (repeat' (first | refine zss ?_ | ((first | (with_reducible first | apply At.val | apply AtQ.val)); (exact pr_slice_own (by rfl) (by rfl) (by repeat constructor) hlen (by rfl) (by rfl)); exact rfl) | refine zsO ?_ | (refine zsp ?_ ?_ <;> (intro hc; (try simp only [zhcs, reduceCtorEq] at hc); (try (exfalso; first | omega | contradiction | omega | exact absurd rfl hc | exact absurd (by decide) hc))))))
      all_goals ((with_reducible apply At.retB1 (B := bxoS b4 a _ _ _)); exact rfl; exact rfl; exact zml; exact zkp; exact ⟨rfl, p, c, by rw [subp0]; rfl, rfl⟩)
end Fl
end Go.Proofs.Ytoplagjjojlceaa
/- The order of texts. -/
set_option linter.unusedSimpArgs false
set_option linter.unusedVariables false
set_option linter.unusedSectionVars false
set_option maxRecDepth 20000
namespace Go.J
open Go
abbrev ltB : List UInt8 → List UInt8 → Bool := Op.bytesLess
theorem u8_lt_irrefl (a : UInt8) : ¬ a < a := by rw [UInt8.lt_iff_toNat_lt]; omega
theorem u8_lt_trans {a b c : UInt8} (h : a < b) (k : b < c) : a < c := by rw [UInt8.lt_iff_toNat_lt] at *; omega
theorem u8_tri (a b : UInt8) : a < b ∨ a = b ∨ b < a := by
  rw [UInt8.lt_iff_toNat_lt, UInt8.lt_iff_toNat_lt]
  rcases Nat.lt_trichotomy a.toNat b.toNat with h | h | h
  · exact .inl h
  · exact .inr (.inl (UInt8.toNat_inj.1 h))
  · exact .inr (.inr h)
theorem ltB_cons (a b : UInt8) (x y : List UInt8) : ltB (a :: x) (b :: y) = true ↔ a < b ∨ (a = b ∧ ltB x y = true) := by
  simp [ltB, Op.bytesLess]
theorem ltB_nil (x : List UInt8) : ltB x [] = false := by cases x <;> rfl
theorem ltB_nil_cons (b : UInt8) (y : List UInt8) : ltB [] (b :: y) = true := rfl
theorem ltB_irrefl : ∀ x : List UInt8, ltB x x = false
  | [] => rfl
  | a :: x => by
    have := ltB_irrefl x
    cases h : ltB (a :: x) (a :: x) with
    | false => rfl
    | true => rcases (ltB_cons a a x x).1 h with h | ⟨_, h⟩
              · exact absurd h (u8_lt_irrefl a)
              · rw [this] at h; cases h
theorem ltB_trans : ∀ {x y z : List UInt8}, ltB x y = true → ltB y z = true → ltB x z = true
  | x, [], _, h, _ => by rw [ltB_nil] at h; cases h
  | _, _ :: _, [], _, k => by rw [ltB_nil] at k; cases k
  | [], _ :: _, _ :: _, _, _ => rfl
  | a :: x, b :: y, c :: z, h, k => by
    rw [ltB_cons] at h k ⊢
    rcases h with h | ⟨rfl, h⟩
    · rcases k with k | ⟨rfl, k⟩
      · exact .inl (u8_lt_trans h k)
      · exact .inl h
    · rcases k with k | ⟨rfl, k⟩
      · exact .inl k
      · exact .inr ⟨rfl, ltB_trans h k⟩
theorem ltB_tri : ∀ x y : List UInt8, ltB x y = true ∨ x = y ∨ ltB y x = true
  | [], [] => .inr (.inl rfl)
  | [], _ :: _ => .inl rfl
  | _ :: _, [] => .inr (.inr rfl)
  | a :: x, b :: y => by
    rw [ltB_cons, ltB_cons]
    rcases u8_tri a b with h | rfl | h
    · exact .inl (.inl h)
    · rcases ltB_tri x y with h | rfl | h
      · exact .inl (.inr ⟨rfl, h⟩)
      · exact .inr (.inl rfl)
      · exact .inr (.inr (.inr ⟨rfl, h⟩))
    · exact .inr (.inr (.inl h))
theorem ltB_asymm {x y : List UInt8} (h : ltB x y = true) : ltB y x = false := by
  cases k : ltB y x with
  | false => rfl
  | true => have := ltB_trans h k; rw [ltB_irrefl] at this; cases this
theorem ltB_ne {x y : List UInt8} (h : ltB x y = true) : x ≠ y := fun e => by subst e; rw [ltB_irrefl] at h; cases h
theorem gtB (x y : List UInt8) : (!(ltB x y || x == y)) = ltB y x := by
  rcases ltB_tri x y with h | rfl | h
  · rw [h, ltB_asymm h]; rfl
  · rw [ltB_irrefl]; simp
  · rw [h, ltB_asymm h]
    have : (x == y) = false := by simpa using (ltB_ne h).symm
    rw [this]; rfl
/-- what begins so does not come ahead of it -/
theorem pre_not_lt : ∀ {f s : List UInt8}, f <+: s → ltB s f = false
  | [], s, _ => ltB_nil s
  | a :: f, [], h => by cases (List.prefix_nil.1 h)
  | a :: f, b :: s, h => by
    rw [List.cons_prefix_cons] at h
    obtain ⟨rfl, h⟩ := h
    have ih := pre_not_lt h
    cases k : ltB (a :: s) (a :: f) with
    | false => rfl
    | true => rcases (ltB_cons a a s f).1 k with k | ⟨_, k⟩
              · exact absurd k (u8_lt_irrefl a)
              · rw [ih] at k; cases k
/-- where one begins so no more, none behind it does -/
theorem pre_gone : ∀ {f s t : List UInt8}, ltB s f = false → ¬ f <+: s → ltB s t = true → ¬ f <+: t
  | [], s, _, _, h, _ => absurd (List.nil_prefix) h
  | a :: f, [], _, h, _, _ => by cases h
  | a :: f, b :: s, [], _, _, h => by rw [ltB_nil] at h; cases h
  | a :: f, b :: s, c :: t, h1, h2, h3 => fun h4 => by
    rw [List.cons_prefix_cons] at h2 h4
    obtain ⟨rfl, h4⟩ := h4
    have h1' : ¬ (b < a ∨ (b = a ∧ ltB s f = true)) := fun e => by rw [(ltB_cons b a s f).2 e] at h1; cases h1
    rcases (ltB_cons b a s t).1 h3 with k3 | ⟨rfl, k3⟩
    · exact h1' (.inl k3)
    · refine pre_gone (f := f) (s := s) (t := t) ?_ (fun e => h2 ⟨rfl, e⟩) k3 h4
      cases k : ltB s f with
      | false => rfl
      | true => exact absurd (.inr ⟨rfl, k⟩) h1'
section
variable {P : Program} {n : Nat} {F : Fr} {C : World → Prop} {x y : Operand} {p q : List UInt8} {t u : TypeId} {r : Bool}
theorem run_strcmp (op : BinOp) (hop : op = .lss ∨ op = .leq ∨ op = .gtr ∨ op = .geq) {v : Bool} (hx : ev F x = some (.string (str p))) (hy : ev F y = some (.string (str q)))
    (hv : (Op.stringOp op (str p) (str q)) = pure (.bool v)) : PR P n F C (.binOp op t x y u) (.bool v) := fun _ _ _ _ _ a w ha _ => by
  have hg : ∀ w, (eqGuard op t x y (.string (str p)) (.string (str q))).run P w = .ok () w := fun w => by rcases hop with rfl | rfl | rfl | rfl <;> rfl
  have hb : binOp op t (.string (str p)) (.string (str q)) = Op.stringOp op (str p) (str q) := by rcases hop with rfl | rfl | rfl | rfl <;> rfl
  simp only [execOp, ha.ev hx, ha.ev hy, hb, Sem.run_bind, hg, Result.andThen]
  rw [hv]
  rfl
theorem pr_strlss (hx : ev F x = some (.string (str p))) (hy : ev F y = some (.string (str q))) (h : ltB p q = r) : PR P n F C (.binOp .lss t x y u) (.bool r) :=
  run_strcmp .lss (.inl rfl) hx hy (by subst h; simp [Op.stringOp, str])
theorem pr_strgtr (hx : ev F x = some (.string (str p))) (hy : ev F y = some (.string (str q))) (h : ltB q p = r) : PR P n F C (.binOp .gtr t x y u) (.bool r) :=
  run_strcmp .gtr (.inr (.inr (.inl rfl))) hx hy (by subst h; rw [← gtB]; simp [Op.stringOp, str])
theorem pr_strleq (hx : ev F x = some (.string (str p))) (hy : ev F y = some (.string (str q))) (h : ltB q p = r) : PR P n F C (.binOp .leq t x y u) (.bool (!r)) :=
  run_strcmp .leq (.inr (.inl rfl)) hx hy (by subst h; rw [← gtB, Bool.not_not]; simp [Op.stringOp, str])
theorem pr_strgeq (hx : ev F x = some (.string (str p))) (hy : ev F y = some (.string (str q))) (h : ltB p q = r) : PR P n F C (.binOp .geq t x y u) (.bool (!r)) :=
  run_strcmp .geq (.inr (.inr (.inr rfl))) hx hy (by subst h; simp [Op.stringOp, str])
end
end Go.J
/- Labels (plain): which are right, what a name has, their order. -/
set_option linter.unusedSimpArgs false
set_option linter.unusedVariables false
set_option linter.unusedSectionVars false
set_option maxRecDepth 20000
set_option maxHeartbeats 4000000
namespace Go.Proofs.Ytoplagjjojlceaa
open Go Go.J
/-- a label -/
structure Lab where
  (n v : List UInt8)
deriving DecidableEq, Inhabited
abbrev Lab.val (x : Lab) : Value := .agg #[.string (str x.n), .string (str x.v)]
namespace Lb
abbrev cells : Lab → List Value := fun x => [.string (str x.n), .string (str x.v)]
instance : Fl cells 2 := ⟨fun _ => rfl, fun _ v h => by simp at h; rcases h with rfl | rfl <;> rfl, by decide⟩
def dig (c : UInt8) : Bool := decide (48 ≤ bI c ∧ bI c ≤ 57)
def sgn (c : UInt8) : Bool := decide ((97 ≤ bI c ∧ bI c ≤ 122) ∨ (65 ≤ bI c ∧ bI c ≤ 90) ∨ (48 ≤ bI c ∧ bI c ≤ 57) ∨ bI c = 95)
def nameB (s : List UInt8) : Bool := decide (1 ≤ s.length ∧ s.length ≤ 64 ∧ dig s[0]! = false ∧ ∀ i, i < s.length → sgn s[i]! = true)
def okAt (l : List Lab) (i : Nat) : Bool := decide (nameB l[i]!.n = true ∧ l[i]!.v.length ≤ 128 ∧ (0 < i → ltB l[i - 1]!.n l[i]!.n = true))
def tot (l : List Lab) : Nat := (l.map fun x => x.n.length + x.v.length).sum
def right (l : List Lab) : Prop := 1 ≤ l.length ∧ l.length ≤ 16 ∧ (∀ i, i < l.length → okAt l i = true) ∧ tot l ≤ 256
instance (l : List Lab) : Decidable (right l) := by unfold right; infer_instance
def chk (l : List Lab) : Int := if right l then 0 else 8
def few (l : List Lab) : Prop := l.length ≤ 40 ∧ ∀ i, i < l.length → l[i]!.n.length ≤ 1000 ∧ l[i]!.v.length ≤ 1000
instance (l : List Lab) : Decidable (few l) := by unfold few; infer_instance
def val (l : List Lab) (t : List UInt8) : List UInt8 := match l.find? fun x => decide (x.n = t) with
  | some x => x.v
  | none => []
theorem or_letter : ∀ n : Nat, n < 256 → (decide (97 ≤ bits .or .u8 (n : Int) 32 ∧ bits .or .u8 (n : Int) 32 ≤ 122)) = decide ((97 ≤ (n : Int) ∧ (n : Int) ≤ 122) ∨ (65 ≤ (n : Int) ∧ (n : Int) ≤ 90)) := by decide +kernel
theorem or_let (c : UInt8) : (97 ≤ bits .or .u8 (bI c) 32 ∧ bits .or .u8 (bI c) 32 ≤ 122) ↔ ((97 ≤ bI c ∧ bI c ≤ 122) ∨ (65 ≤ bI c ∧ bI c ≤ 90)) := by
  have := or_letter c.toNat c.toNat_lt
  rwa [decide_eq_decide] at this
theorem lab_ext {a b : Lab} (h1 : a.n = b.n) (h2 : a.v = b.v) : a = b := by cases a; cases b; cases h1; cases h2; rfl
theorem and_lab (a b : Lab) : andL [decide (str a.n = str b.n), decide (str a.v = str b.v)] = decide (a = b) := by
  by_cases h : a = b
  · subst h; simp [andL_cons, andL_nil]
  · rw [decide_eq_false h]
    cases hb : andL [decide (str a.n = str b.n), decide (str a.v = str b.v)] with
    | false => rfl
    | true =>
      simp only [andL_cons, andL_nil, Bool.and_eq_true, decide_eq_true_eq] at hb
      exact absurd (lab_ext (str_inj.1 hb.1) (str_inj.1 hb.2.1)) h
theorem pr_lbne {n : Nat} {F : Fr} {C : World → Prop} {x y : Operand} {u : TypeId} {a b : Lab} (hx : ev F x = some a.val) (hy : ev F y = some b.val) : PR Try.prog n F C (.binOp .neq 59 x y u) (.bool (!decide (a = b))) := by
  rw [← and_lab]
  exact pr_aggne2 hx hy (by rfl) (by kernel_rfl) (by kernel_rfl) (by rfl)
theorem pr_lbeq {n : Nat} {F : Fr} {C : World → Prop} {x y : Operand} {u : TypeId} {a b : Lab} (hx : ev F x = some a.val) (hy : ev F y = some b.val) : PR Try.prog n F C (.binOp .eql 59 x y u) (.bool (decide (a = b))) := by
  rw [← and_lab]
  exact pr_aggeq2 hx hy (by rfl) (by kernel_rfl) (by kernel_rfl) (by rfl)
theorem tot_take {l : List Lab} {i : Nat} (h : i < l.length) : tot (l.take (i + 1)) = tot (l.take i) + (l[i]!.n.length + l[i]!.v.length) := by
  rw [Ls.take_snoc h]; simp [tot]
theorem tot_take_le (l : List Lab) (i : Nat) : tot (l.take i) ≤ tot l := by
  conv => rhs; rw [← List.take_append_drop i l]
  unfold tot
  rw [List.map_append, List.sum_append]
  omega
theorem bad_at {l : List Lab} {i : Nat} (hi : i < l.length) (h : ¬ (nameB l[i]!.n = true ∧ l[i]!.v.length ≤ 128 ∧ (0 < i → ltB l[i - 1]!.n l[i]!.n = true))) : chk l = 8 := by
  unfold chk
  rw [if_neg fun k => h (of_decide_eq_true (k.2.2.1 i hi))]
theorem bad_tot {l : List Lab} {i : Nat} (h : 256 < tot (l.take i)) : chk l = 8 := by
  unfold chk
  have := tot_take_le l i
  rw [if_neg fun k => by have := k.2.2.2; omega]
theorem bad_len {l : List Lab} (h : l.length < 1 ∨ 16 < l.length) : chk l = 8 := by
  unfold chk
  rw [if_neg fun k => by have := k.1; have := k.2.1; omega]
theorem chk_ok {l : List Lab} (h : right l) : chk l = 0 := if_pos h
theorem chk_right {l : List Lab} : chk l = 0 ↔ right l := by
  unfold chk; split
  · simp [*]
  · simp [*]
theorem val_none {l : List Lab} {t : List UInt8} (h : ∀ i, i < l.length → l[i]!.n ≠ t) : val l t = [] := by
  unfold val
  rw [List.find?_eq_none.2]
  intro x hx
  obtain ⟨i, hi, rfl⟩ := List.mem_iff_getElem.1 hx
  have := h i hi
  rw [getElem!_pos l i hi] at this
  simpa using this
theorem val_at : ∀ {l : List Lab} {t : List UInt8} {i : Nat}, i < l.length → l[i]!.n = t → (∀ k, k < i → l[k]!.n ≠ t) → val l t = l[i]!.v
  | [], _, _, h, _, _ => absurd h (Nat.not_lt_zero _)
  | x :: l, t, 0, _, h, _ => by unfold val; rw [List.find?_cons, show decide (x.n = t) = true from decide_eq_true h]; rfl
  | x :: l, t, i + 1, hi, h, hk => by
    have h0 : x.n ≠ t := hk 0 (by omega)
    have := val_at (l := l) (t := t) (i := i) (by simpa using hi) (by simpa using h) (fun k hk' => by simpa using hk (k + 1) (by omega))
    unfold val at this ⊢
    rw [List.find?_cons, show decide (x.n = t) = false from decide_eq_false h0]
    simpa using this
theorem nameB_no {s : List UInt8} (h : ¬ (1 ≤ s.length ∧ s.length ≤ 64 ∧ dig s[0]! = false ∧ ∀ i, i < s.length → sgn s[i]! = true)) : nameB s = false := decide_eq_false h
end Lb
end Go.Proofs.Ytoplagjjojlceaa
/- The bytes of a text that may be written; an array as a slice. -/
set_option linter.unusedSimpArgs false
set_option linter.unusedVariables false
set_option linter.unusedSectionVars false
set_option maxRecDepth 20000
namespace Go.J
open Go
/-- the bytes of a text, that may be written -/
def Res.byt (E : TypeId) (p : Option Addr) (c : Nat) (L : List Int) : Res where
  p w s := ∃ g cur, p = some ⟨g, 0, none⟩ ∧ w.heap[g]? = some (.cells cur E (cur.size, cur.size + 1)) ∧ L.length ≤ c ∧ c ≤ maxLen ∧ c ≤ cur.size ∧ (∀ j, j < L.length → cur[j]? = some (.int .u8 L[j]!)) ∧ ∀ k, s k ↔ k = g
  loc := fun {w w' s} h he => by
    obtain ⟨g, cur, h1, h2, h3, h4, h5, h6, h7⟩ := h
    exact ⟨g, cur, h1, by rw [he g ((h7 g).2 rfl)]; exact h2, h3, h4, h5, h6, h7⟩
  dom := fun {w s k} h hk => by
    obtain ⟨g, cur, h1, h2, h3, h4, h5, h6, h7⟩ := h
    rw [(h7 k).1 hk]; exact (Array.getElem?_eq_some_iff.1 h2).1
section
variable {P : Program} {n : Nat} {w0 : World} {F : Fr} {m : Mem} {Rs Rs' : List Res} {Q : Exit → Act → World → Prop} {K : Act → World → Prop} {E : TypeId} {p : Option Addr} {c : Nat} {L : List Int}
theorem byt_rdb (hp : Pick Rs (.byt E p c L) Rs') : Rdb (HW w0 m Rs) fb 1 p c L := by
  refine ⟨inferInstance, fun w hw hl => ?_, fun w hw => ?_, fun w hw i j hi hj => ?_⟩
  · obtain ⟨_, g, cur, h1, _⟩ := hw.get hp
    exact ⟨g, 0, h1⟩
  · obtain ⟨_, g, cur, h1, h2, h3, _⟩ := hw.get hp
    exact h3
  · obtain ⟨_, g, cur, h1, h2, h3, h4, h5, h6, h7⟩ := hw.get hp
    subst h1
    have hj0 : j = 0 := by omega
    subst hj0
    show w.cell? ⟨g, 0 + (i * 1 + 0), none⟩ = _
    rw [World.cell_of h2, show 0 + (i * 1 + 0) = i by omega, h6 i hi]
    rfl
theorem At.byt_freeze (hp : Pick Rs (.byt E p c L) Rs') (h : ∀ m' : Mem, m.le m' → Sl m' fb 1 p c L → At n w0 F m' Rs' K) : At n w0 F m Rs K := fun a w ha hw => by
  obtain ⟨s, ⟨s1, s2, h1, h2, hd, he⟩, hm⟩ := (hw.ent (Ent.of_pick hp)).res
  obtain ⟨g, cur, rfl, h4, h5, h6, h7, h8, hg⟩ := h1
  have hmb : m g = none := hm g ((he g).2 (.inl ((hg g).2 rfl)))
  refine h (fun k => if k = g then some (.cells cur E (cur.size, cur.size + 1)) else m k) (fun k o hk => ?_) ⟨inferInstance, h5, h6, (fun e => by cases e), fun a' ha' _ => ?_⟩ a w ha
    ⟨hw.os, hw.tape, hw.output, hw.size, fun k o hk => ?_, s2, h2, fun k hk => ?_⟩
  · show (if k = g then _ else _) = _
    rw [if_neg (fun e => by subst e; rw [hmb] at hk; cases hk)]; exact hk
  · cases ha'
    refine ⟨rfl, E, cur, _, if_pos rfl, by show 0 + c * 1 ≤ _; omega, fun i j hi hj => ?_⟩
    have hj0 : j = 0 := by omega
    subst hj0
    show cur[0 + (i * 1 + 0)]? = _
    rw [show 0 + (i * 1 + 0) = i by omega, h8 i hi]
    rfl
  · by_cases e : k = g
    · subst e
      rw [if_pos rfl] at hk; cases hk; exact h4
    · rw [if_neg e] at hk; exact hw.mem k o hk
  · show (if k = g then _ else _) = _
    rw [if_neg (fun e => hd k ⟨(hg k).2 e, hk⟩)]
    exact hm k ((he k).2 (.inr hk))
theorem At.str_own {ops : Array Oper} {rest : List Oper} {d : Nat} {x : Operand} {s t e : TypeId} {ty : TypeId} {pos : String} {aft : Array Edge} {l : List UInt8}
    (hs : P.underlying s = some .string) (ht : P.underlying t = some (.slice e)) (he : P.underlying e = some (.int .u8)) (hx : ev F x = some (.string (str l))) (hl : l.length ≤ 34359738368) (hd : Nat.blt d n = true)
    (h : ∀ p c, At n w0 ((d, .slice p (l.map bI).length c) :: F) m (.byt e p c (l.map bI) :: Rs) (wpList P ops Q rest)) : At n w0 F m Rs (wpList P ops Q (⟨some d, .convert s t x, ty, pos, aft, none⟩ :: rest)) := fun a w ha hw =>
  wpList_plain rfl fun K hK => by
    have hrun := run_bytes_of_string (P := P) w s t e (str l) hs ht he
    have hge := grownCap_ge w (str l).size 0 e
    have hle := grownCap_le_maxLen w (str l).size 0 e (by rw [str_size]; simp only [maxLen]; omega)
    generalize grownCap w (str l).size 0 e = c at hrun hge hle
    rw [str_size] at hrun hge
    have hsize : (bytesRow (str l) c).size = c := by rw [bytesRow_str]; simp; omega
    unfold Oper.wp
    have hex : (execOp a.eval ⟨some d, .convert s t x, ty, pos, aft, none⟩).run P w = .ok (.value (.slice (some ⟨w.heap.size, 0, none⟩) l.length c)) (w.drew.alloc (.cells (bytesRow (str l) c) e ((bytesRow (str l) c).size, (bytesRow (str l) c).size + 1))) := by
      simp only [execOp, ha.ev hx, Sem.run_bind, hrun, Result.andThen]
      rfl
    rw [hex]
    refine hK _ _ (h (some ⟨w.heap.size, 0, none⟩) c _ _ (by rw [List.length_map]; exact ha.put hd) (hw.add rfl rfl rfl (by show w.heap.size ≤ (w.heap.push _).size; simp) (fun k hk => by show (w.heap.push _)[k]? = _; rw [Array.getElem?_push, if_neg (by omega)])
      ⟨fun k => k = w.heap.size, ⟨w.heap.size, bytesRow (str l) c, rfl, by show (w.heap.push _)[w.heap.size]? = _; simp, by simpa using hge, hle, by rw [hsize]; exact Nat.le_refl _, fun j hj => ?_, fun _ => Iff.rfl⟩, fun k hk => by omega⟩))
    have hj' : j < l.length := by simpa using hj
    rw [bytesRow_str, Array.getElem?_append_left (by simp; omega)]
    simp [hj']
theorem At.store_byt {ops : Array Oper} {rest : List Oper} {t : TypeId} {x y : Operand} {ty : TypeId} {pos : String} {aft : Array Edge} {k : Nat} {v : Int}
    (hx : ev F x = some (.pointer (some (at_ p (k * 1))))) (hy : ev F y = some (.int .u8 v)) (hp : Pick Rs (.byt E p c L) Rs') (hs : sizeB P t = some 1) (hk : k < L.length)
    (h : At n w0 F m (.byt E p c (L.set k v) :: Rs') (wpList P ops Q rest)) : At n w0 F m Rs (wpList P ops Q (⟨none, .store t x y, ty, pos, aft, none⟩ :: rest)) := fun a w ha hw =>
  wpList_plain rfl fun K hK => by
    have hrow : ∀ s, (Res.byt E p c L).p w s → ∃ w', (storeVar t (at_ p (k * 1)) (.int .u8 v)).run P w = .ok () w' ∧ (Res.byt E p c (L.set k v)).p w' s ∧ w'.os = w.os ∧ w'.tape = w.tape ∧ w'.output = w.output ∧ w.heap.size ≤ w'.heap.size ∧ (∀ k, k < w.heap.size → ¬ s k → w'.heap[k]? = w.heap[k]?) := fun s hown => by
      obtain ⟨g, cur, rfl, h4, h5, h6, h7, h8, hgs⟩ := hown
      have hkc : k < cur.size := by omega
      have e0 : at_ (some ⟨g, 0, none⟩) (k * 1) = ⟨g, k, none⟩ := by show (⟨g, 0 + k * 1, none⟩ : Addr) = _; congr 1; omega
      have hcell : w.cell? ⟨g, k, none⟩ = some cur[k] := by simp [World.cell?, h4, hkc]
      have hfro : w.frozen? ⟨g, k, none⟩ = false := by
        simp only [World.frozen?, h4, Bool.and_eq_false_iff, decide_eq_false_iff_not]
        left
        omega
      have hst : (storeVar t (at_ (some ⟨g, 0, none⟩) (k * 1)) (.int .u8 v)).run P w = .ok () (w.setRow g (cur.setIfInBounds k (.int .u8 v))) := by
        have hs1 : (_root_.Go.store (⟨g, k, none⟩ : Addr) (.int .u8 v)).run P w = .ok () (w.setRow g (cur.setIfInBounds k (.int .u8 v))) := by
          rw [run_store P w _ _ _ rfl, hcell]
          simp [hfro, setCell_eq_setRow w g k cur E _ (.int .u8 v) h4]
        have ha0 : (⟨g, k, none⟩ : Addr).add 0 = ⟨g, k, none⟩ := addr_add0 _
        rw [e0]
        simp only [storeVar, Sem.run_bind, run_sizeOf hs, Result.andThen]
        simp only [Value.cells, storeCells, Sem.run_bind, ha0, hs1, Result.andThen]
        rw [if_neg (show ¬ ((#[Value.int .u8 v] : Array Value).size ≠ 1) by simp)]
        simp only [Sem.run_bind, hs1, Result.andThen]
        rfl
      refine ⟨_, hst, ⟨g, cur.setIfInBounds k (.int .u8 v), rfl, by rw [Array.size_setIfInBounds]; exact setRow_heap w g cur _ E _ h4, by rw [List.length_set]; exact h5, h6, by rw [Array.size_setIfInBounds]; exact h7, fun j hj => ?_, hgs⟩, rfl, rfl, rfl, by simp, fun i _ hi => setRow_other w g i _ (fun e => hi ((hgs i).2 e))⟩
      rw [List.length_set] at hj
      by_cases e : j = k
      · subst e
        rw [Array.getElem?_setIfInBounds_self_of_lt hkc, List.getElem!_eq_getElem?_getD, List.getElem?_set_self hj]; rfl
      · rw [Array.getElem?_setIfInBounds_ne (Ne.symm e), h8 j hj, List.getElem!_eq_getElem?_getD, List.getElem!_eq_getElem?_getD, List.getElem?_set_ne (Ne.symm e)]
    obtain ⟨s0, hown⟩ := hw.get hp
    obtain ⟨w', hr', _⟩ := hrow s0 hown
    have hrun' : (execOp a.eval ⟨none, .store t x y, ty, pos, aft, none⟩).run P w = .ok .skip w' := by
      have e0 : (Pure.pure (at_ p (k * 1)) : Sem Addr).run P w = .ok (at_ p (k * 1)) w := rfl
      simp only [execOp, ha.ev hx, ha.ev hy, Instr.storeAt, Instr.sureAddr, Sem.run_bind, e0, Result.andThen, hr']
      rfl
    unfold Oper.wp
    rw [hrun']
    refine hK _ _ (h _ _ ha (hw.turn hp fun s hs => ?_))
    obtain ⟨w2, hr2, h2, g1, g2, g3, g4, g5⟩ := hrow s hs
    rw [hr'] at hr2
    injection hr2 with _ e2
    subst e2
    exact ⟨s, h2, g1, g2, g3, g4, g5, fun k hk => .inl hk⟩
theorem pr_index_byt {x y : Operand} {t : TypeId} {ln k : Nat} {ki : IntKind} (hx : ev F x = some (.slice p ln c)) (hy : ev F y = some (.int ki (k : Int))) (hp : Pick Rs (.byt E p c L) Rs')
    (ht : P.underlying t = some (.slice E)) (hs : sizeB P E = some 1) (hl : ln = L.length) (hk : k < L.length) : PR P n F (HW w0 m Rs) (.indexAddr t x y) (.pointer (some (at_ p (k * 1)))) :=
  pr_indexAddr (byt_rdb hp) ht hs hx hy hl hk
theorem pr_load_byt {x : Operand} {t : TypeId} {k : Nat} (hx : ev F x = some (.pointer (some (at_ p (k * 1))))) (hp : Pick Rs (.byt E p c L) Rs') (hk : k < L.length) (ht : isAggB P t = some false) : PR P n F (HW w0 m Rs) (.load t x) (.int .u8 L[k]!) :=
  pr_load_sl1 (byt_rdb hp) hk ht hx rfl
/-- an array that is a block, as a slice -/
theorem pr_slice_arr {C : World → Prop} {x : Operand} {t e : TypeId} {len b sz : Nat} (hx : ev F x = some (.pointer (some ⟨b, 0, none⟩))) (ht : P.underlying t = some (.array len e)) (hs : sizeB P e = some sz) :
    PR P n F C (.slice t x none none none) (.slice (some ⟨b, 0, none⟩) len len) := fun _ _ _ _ _ a w ha hC => by
  have hr : ∀ w, (underlying t).run P w = .ok (.array len e) w := fun w => by simp only [underlying, program, bind, Sem.bind, Sem.run, ht]; rfl
  have hb : (Instr.sliceBounds false len len none none none).run P w = .ok (0, len, len) w := by
    unfold Instr.sliceBounds Instr.sliceBound
    simp [pure, Sem.run, bind, Sem.bind]
  have e0 : (Pure.pure (⟨b, 0, none⟩ : Addr) : Sem Addr).run P w = .ok ⟨b, 0, none⟩ w := rfl
  have hz : (if len = 0 then (⟨b, 0, none⟩ : Addr) else (⟨b, 0, none⟩ : Addr).add (0 * sz)) = ⟨b, 0, none⟩ := by
    split
    · rfl
    · rw [Nat.zero_mul]; exact addr_add0 _
  simp only [execOp, ha.ev hx, Option.map_none, Sem.run_bind]
  unfold Instr.sliceAt
  simp only [Sem.run_bind, hr, Result.andThen, Instr.sureAddr, e0, hb, run_sizeOf hs, pure, Sem.run, hz, Nat.sub_zero]
/-- such a slice can be read -/
theorem blk_rdb {b c : Nat} {L : List Int} (hp : Pick Rs (.blk b E (L.map (fun x => Value.int .u8 x))) Rs') (hc : L.length = c) : Rdb (HW w0 m Rs) fb 1 (some ⟨b, 0, none⟩) c L := by
  refine ⟨inferInstance, fun w hw hl => ⟨b, 0, rfl⟩, fun w hw => by omega, fun w hw i j hi hj => ?_⟩
  have hj0 : j = 0 := by omega
  subst hj0
  have hb := hw.blk hp
  show w.cell? ⟨b, 0 + (i * 1 + 0), none⟩ = _
  rw [World.cell_of hb, show 0 + (i * 1 + 0) = i by omega]
  simp [hi, fb]
theorem Pu.ct {f : FuncId} {args : Array Value} {V : Value} (h : Pu P f args V) (m : Mem) : Ct P f args m [] (fun v m' B => v = V ∧ m = m' ∧ B = []) := (h m).mono fun _ _ _ _ ⟨a, b, c⟩ => ⟨a, b.symm, c⟩
end
end Go.J
/- The contracts of labels: names, Check, Value, Same, Small; the document's. -/
set_option linter.unusedSimpArgs false
set_option linter.unusedVariables false
set_option linter.unusedSectionVars false
set_option maxRecDepth 20000
set_option maxHeartbeats 4000000
namespace Go.Proofs.Ytoplagjjojlceaa
open Go Go.J
attribute [local irreducible] At AtQ AtM AtM1 PR Ct Pu Rd Res.blk Res.own Res.ex RVs RV
namespace Lb
theorem digit (c : UInt8) : Pu Try.prog 46 #[.int .u8 (bI c)] (.bool (dig c)) := Pu.intro fun m => by
  refine Ct.enterV (by rfl) Try.func46 rfl Try.ntmps46 rfl (fun w0 Rest => ?_)
  (repeat' (first | refine zss ?_ | refine zs0 ?_ | (refine zsp ?_ ?_ <;> (intro hc; (try simp only [zhcs, reduceCtorEq] at hc); (try (exfalso; first | contradiction | omega | exact absurd rfl hc | exact absurd (by decide) hc))))))
  all_goals ((with_reducible apply At.retB1 (B := [])); exact rfl; exact rfl; exact zml; exact zkp; exact ⟨congrArg Value.bool (by unfold dig; first | (rw [decide_eq_decide]; omega) | (symm; rw [decide_eq_false_iff_not]; omega) | (symm; rw [decide_eq_true_eq]; omega)), rfl, rfl⟩)
theorem sign (c : UInt8) : Pu Try.prog 49 #[.int .u8 (bI c)] (.bool (sgn c)) := Pu.intro fun m => by
  have ho := or_let c
  have hd := digit c
  cases h : dig c with
  | true =>
    have h' := of_decide_eq_true h
    rw [h] at hd
    rw [show sgn c = true by unfold sgn; rw [decide_eq_true_eq]; omega]
    refine Ct.enterV (by rfl) Try.func49 rfl Try.ntmps49 rfl (fun w0 Rest => ?_)
    (repeat' (first | refine zss ?_ | ((first | (with_reducible first | apply At.val | apply AtQ.val)); (exact pr_or (by rfl) (by rfl) rfl); exact rfl) | refine zs0 ?_ | ((with_reducible first | apply AtM1.callp | apply AtQ.callp | apply At.callp); kernel_rfl; exact rfl; exact rfl; exact hd) | (refine zsp ?_ ?_ <;> (intro hc; (try simp only [zhcs, reduceCtorEq] at hc); (try (exfalso; first | contradiction | omega | exact absurd rfl hc | exact absurd (by decide) hc))))))
    all_goals ((with_reducible apply At.retB1 (B := [])); exact rfl; exact rfl; exact zml; exact zkp; exact ⟨rfl, rfl, rfl⟩)
  | false =>
    have h' := of_decide_eq_false h
    rw [h] at hd
    have hs : sgn c = decide ((97 ≤ bits .or .u8 (bI c) 32 ∧ bits .or .u8 (bI c) 32 ≤ 122) ∨ bI c = 95) := by unfold sgn; rw [decide_eq_decide]; omega
    obtain ⟨o, eo⟩ : ∃ o, bits .or .u8 (bI c) 32 = o := ⟨_, rfl⟩
    rw [hs, eo]
    refine Ct.enterV (by rfl) Try.func49 rfl Try.ntmps49 rfl (fun w0 Rest => ?_)
    (repeat' (first | refine zss ?_ | ((first | (with_reducible first | apply At.val | apply AtQ.val)); (exact pr_or (by rfl) (by rfl) eo); exact rfl) | refine zs0 ?_ | ((with_reducible first | apply AtM1.callp | apply AtQ.callp | apply At.callp); kernel_rfl; exact rfl; exact rfl; exact hd) | (refine zsp ?_ ?_ <;> (intro hc; (try simp only [zhcs, reduceCtorEq] at hc); (try (exfalso; first | contradiction | omega | exact absurd rfl hc | exact absurd (by decide) hc))))))
    all_goals ((with_reducible apply At.retB1 (B := [])); exact rfl; exact rfl; exact zml; exact zkp; exact ⟨congrArg Value.bool (by first | (rw [decide_eq_decide]; omega) | (symm; rw [decide_eq_false_iff_not]; omega) | (symm; rw [decide_eq_true_eq]; omega)), rfl, rfl⟩)
theorem name1 (c : UInt8) : Pu Try.prog 48 #[.int .u8 (bI c)] (.bool (!sgn c)) := Pu.intro fun m => by
  refine Ct.enterV (by rfl) Try.func48 rfl Try.ntmps48 rfl (fun w0 Rest => ?_)
  (repeat' (first | refine zss ?_ | refine zs0 ?_ | ((with_reducible first | apply AtM1.callp | apply AtQ.callp | apply At.callp); kernel_rfl; exact rfl; exact rfl; exact sign c) | (refine zsp ?_ ?_ <;> (intro hc; (try simp only [zhcs, reduceCtorEq] at hc); (try (exfalso; first | contradiction | omega | exact absurd rfl hc | exact absurd (by decide) hc))))))
  all_goals ((with_reducible apply At.retB1 (B := [])); exact rfl; exact rfl; exact zml; exact zkp; exact ⟨rfl, rfl, rfl⟩)
theorem map_get {l : List UInt8} {s : Nat} (h : s < l.length) : (l.map bI)[s]! = bI (l[s]!) := by
  rw [getElem!_pos _ s (by rw [List.length_map]; exact h), getElem!_pos l s h, List.getElem_map]
theorem indexN {m : Mem} (p : Option Addr) (c : Nat) (l : List UInt8) (hl : l.length ≤ 1000000) (sl0 : Sl m fb 1 p c (l.map bI)) :
    Ct Try.prog 58 #[.slice p (l.map bI).length c, .func (.func 48) #[] #[]] m [] (fun r m' B => m = m' ∧ B = [] ∧ ∃ k : Int, r = .int .i64 k ∧ (0 ≤ k ↔ ¬ ∀ i, i < l.length → sgn (l[i]!) = true)) := by
  have hml : (l.map bI).length = l.length := by simp
  refine Ct.enterV (by rfl) Try.func58 rfl Try.ntmps58 rfl (fun w0 Rest => ?_)
  (repeat' (first | refine zss ?_ | refine zsM ?_ | (refine zsp ?_ ?_ <;> (intro hc; (try simp only [zhcs, reduceCtorEq] at hc); (try (exfalso; first | contradiction | omega | exact absurd rfl hc | exact absurd (by decide) hc))))))
  (refine At.loopk (σ := Nat) [0, 1, 7] (fun s F0 => (8, .int .i64 (s : Int)) :: F0) (fun s => m) (fun s => Rest) (fun s => s ≤ l.length ∧ ∀ i, i < s → sgn (l[i]!) = true) (fun s => l.length - s) 0 (by rfl) ?_ zsubs zml zente ?_)
  · exact ⟨Nat.zero_le _, fun i h => absurd h (Nat.not_lt_zero i)⟩
  rintro s ⟨hs, hn⟩
  by_cases h : s < l.length
  · have hg : (l.map bI)[s]! = bI (l[s]!) := map_get h
    have hlp := name1 (l[s]!)
    rw [← hg] at hlp
    cases e : sgn (l[s]!) with
    | false =>
      rw [e, Bool.not_false] at hlp
      (repeat' (first | refine zss ?_ | refine zsM ?_ | ((with_reducible apply At.callf); exact rfl; kernel_rfl; exact rfl; exact rfl; exact Pu.ct hlp _; exact ztk; rintro v' m' B' hm' ⟨rfl, rfl, rfl⟩; (try replace sl0 := sl0.mono hm')) | (refine zsp ?_ ?_ <;> (intro hc; (try simp only [zhcs, reduceCtorEq] at hc); (try (exfalso; first | omega | contradiction | omega | exact absurd rfl hc | exact absurd (by decide) hc))))))
      all_goals ((with_reducible apply At.retB1 (B := [])); exact rfl; exact rfl; exact zml; exact zkp; exact ⟨rfl, rfl, _, rfl, ⟨fun _ hh => absurd ((hh s h).symm.trans e) (by decide), fun _ => by omega⟩⟩)
    | true =>
      rw [e, Bool.not_true] at hlp
      have hnn : ∀ i, i < s + 1 → sgn (l[i]!) = true := fun i hi => by
        by_cases e1 : i = s
        · subst e1; exact e
        · exact hn i (by omega)
      (repeat' (first | refine zss ?_ | refine zsM ?_ | ((with_reducible apply At.callf); exact rfl; kernel_rfl; exact rfl; exact rfl; exact Pu.ct hlp _; exact ztk; rintro v' m' B' hm' ⟨rfl, rfl, rfl⟩; (try replace sl0 := sl0.mono hm')) | (refine zsp ?_ ?_ <;> (intro hc; (try simp only [zhcs, reduceCtorEq] at hc); (try (exfalso; first | omega | contradiction | omega | exact absurd rfl hc | exact absurd (by decide) hc))))))
      all_goals ((with_reducible refine At.reachk ((s + 1)) ?_ ?_ ?_ ?_); exact zsubs; exact zml; exact zente; exact ⟨⟨h, hnn⟩, by omega⟩)
  · (repeat' (first | refine zss ?_ | refine zsM ?_ | (refine zsp ?_ ?_ <;> (intro hc; (try simp only [zhcs, reduceCtorEq] at hc); (try (exfalso; first | omega | contradiction | omega | exact absurd rfl hc | exact absurd (by decide) hc))))))
    all_goals ((with_reducible apply At.retB1 (B := [])); exact rfl; exact rfl; exact zml; exact zkp; exact ⟨rfl, rfl, _, rfl, ⟨fun hh => absurd hh (by decide), fun hh => absurd (fun i hi => hn i (by omega)) hh⟩⟩)
theorem containsN {m : Mem} (p : Option Addr) (c : Nat) (l : List UInt8) (hl : l.length ≤ 1000000) (sl0 : Sl m fb 1 p c (l.map bI)) :
    Rd Try.prog 47 #[.slice p (l.map bI).length c, .func (.func 48) #[] #[]] m [] (.bool (!decide (∀ i, i < l.length → sgn (l[i]!) = true))) := by
  unfold Rd
  refine Ct.enterV (by rfl) Try.func47 rfl Try.ntmps47 rfl (fun w0 Rest => ?_)
  (repeat' (first | refine zss ?_ | refine zsM ?_ | ((with_reducible first | apply At.c1 | apply At.c0); exact rfl; exact rfl; exact indexN p c l hl sl0; exact ztk; kernel_rfl; rintro v' m' B' hm' ⟨rfl, rfl, k, rfl, hk⟩; (try replace sl0 := sl0.mono hm'); (try (have hq0 : hm' = Mem.le_refl _ := rfl; clear hq0 hm'))) | (refine zsp ?_ ?_ <;> (intro hc; (try simp only [zhcs, reduceCtorEq] at hc); (try (exfalso; first | contradiction | omega | exact absurd rfl hc | exact absurd (by decide) hc))))))
  all_goals ((with_reducible apply At.retB1 (B := [])); exact rfl; exact rfl; exact zml; exact zkp; exact ⟨congrArg Value.bool (by rw [← decide_not, decide_eq_decide]; exact hk), rfl, rfl⟩)
theorem name (s : List UInt8) : Pu Try.prog 37 #[.string (str s)] (.bool (nameB s)) := by
  by_cases h0 : s = []
  · subst h0
    refine Pu.intro fun m => ?_
    refine Ct.enterV (by rfl) Try.func37 rfl Try.ntmps37 rfl (fun w0 Rest => ?_)
    (repeat' (first | refine zss ?_ | refine zs0 ?_ | (refine zsp ?_ ?_ <;> (intro hc; (try simp only [zhcs, reduceCtorEq] at hc); (try (exfalso; first | contradiction | omega | exact absurd rfl hc | exact absurd (by decide) hc))))))
    all_goals ((with_reducible apply At.retB1 (B := [])); exact rfl; exact rfl; exact zml; exact zkp; exact ⟨rfl, rfl, rfl⟩)
  have hl0 : 1 ≤ s.length := by cases s with
    | nil => exact absurd rfl h0
    | cons x s => simp
  have hs0 : str s ≠ str [] := fun e => h0 (str_inj.1 e)
  by_cases h1 : s.length ≤ 64
  · have hd := digit (s[0]!)
    cases e : dig (s[0]!) with
    | true =>
      rw [e] at hd
      rw [nameB_no fun k => absurd (k.2.2.1.symm.trans e) (by decide)]
      refine Pu.intro fun m => ?_
      refine Ct.enterV (by rfl) Try.func37 rfl Try.ntmps37 rfl (fun w0 Rest => ?_)
      (repeat' (first | refine zss ?_ | refine zs0 ?_ | ((with_reducible first | apply AtM1.callp | apply AtQ.callp | apply At.callp); kernel_rfl; exact rfl; exact rfl; exact hd) | (refine zsp ?_ ?_ <;> (intro hc; (try simp only [zhcs, reduceCtorEq] at hc); (try (exfalso; first | (first | omega | exact absurd hc hs0) | contradiction | omega | exact absurd rfl hc | exact absurd (by decide) hc))))))
      all_goals ((with_reducible apply At.retB1 (B := [])); exact rfl; exact rfl; exact zml; exact zkp; exact ⟨rfl, rfl, rfl⟩)
    | false =>
      rw [e] at hd
      have hv : nameB s = decide (∀ i, i < s.length → sgn (s[i]!) = true) := by unfold nameB; rw [decide_eq_decide]; exact ⟨fun k => k.2.2.2, fun k => ⟨hl0, h1, e, k⟩⟩
      rw [hv]
      have hq : (!(!decide (∀ i, i < s.length → sgn (s[i]!) = true))) = decide (∀ i, i < s.length → sgn (s[i]!) = true) := Bool.not_not _
      refine Pu.of_le fun m => ?_
      have hle : m.le m := Mem.le_refl m
      refine Ct.enterV (by rfl) Try.func37 rfl Try.ntmps37 rfl (fun w0 Rest => ?_)
      (repeat' (first | refine zss ?_ | refine zsM ?_ | ((with_reducible first | apply AtM1.callp | apply AtQ.callp | apply At.callp); kernel_rfl; exact rfl; exact rfl; exact hd) | ((with_reducible apply At.str_bytes); (iterate 4 exact rfl); exact zom; exact rfl; intro p' c' m' hm' sl1; skip) | ((with_reducible first | apply AtM1.cr | apply AtQ.cr | apply At.cr); exact rfl; exact rfl; exact fun _ hmm => containsN _ _ s (by omega) (sl1.mono hmm); exact ztk; kernel_rfl) | (refine zsp ?_ ?_ <;> (intro hc; (try simp only [zhcs, reduceCtorEq] at hc); (try (exfalso; first | (first | omega | exact absurd hc hs0) | contradiction | omega | exact absurd rfl hc | exact absurd (by decide) hc))))))
      all_goals ((with_reducible apply At.retB1 (B := [])); exact rfl; exact rfl; exact zml; exact zkp; exact ⟨congrArg Value.bool hq, by assumption, rfl⟩)
  · rw [nameB_no fun k => by omega]
    refine Pu.intro fun m => ?_
    refine Ct.enterV (by rfl) Try.func37 rfl Try.ntmps37 rfl (fun w0 Rest => ?_)
    (repeat' (first | refine zss ?_ | refine zs0 ?_ | (refine zsp ?_ ?_ <;> (intro hc; (try simp only [zhcs, reduceCtorEq] at hc); (try (exfalso; first | (first | omega | exact absurd hc hs0) | contradiction | omega | exact absurd rfl hc | exact absurd (by decide) hc))))))
    all_goals ((with_reducible apply At.retB1 (B := [])); exact rfl; exact rfl; exact zml; exact zkp; exact ⟨rfl, rfl, rfl⟩)
theorem rname (tx : List UInt8) : Pu Try.prog 36 #[.string (str tx)] (.bool (nameB tx)) := by
  refine Pu.intro fun m => ?_
  by_cases h1 : 1 ≤ tx.length ∧ tx.length ≤ 64
  · cases e : dig (tx[0]!) with
    | true =>
      have e' := of_decide_eq_true e
      rw [nameB_no fun k => absurd (k.2.2.1.symm.trans e) (by decide)]
      refine Ct.enterV (by rfl) Try.func36 rfl Try.ntmps36 rfl (fun w0 Rest => ?_)
      (repeat' (first | refine zss ?_ | refine zs0 ?_ | (refine zsp ?_ ?_ <;> (intro hc; (try simp only [zhcs, reduceCtorEq] at hc); (try (exfalso; first | omega | contradiction | omega | exact absurd rfl hc | exact absurd (by decide) hc))))))
      all_goals ((with_reducible apply At.retB1 (B := [])); exact rfl; exact rfl; exact zml; exact zkp; exact ⟨rfl, rfl, rfl⟩)
    | false =>
      have e' := of_decide_eq_false e
      refine Ct.enterV (by rfl) Try.func36 rfl Try.ntmps36 rfl (fun w0 Rest => ?_)
      (repeat' (first | refine zss ?_ | refine zs0 ?_ | (refine zsp ?_ ?_ <;> (intro hc; (try simp only [zhcs, reduceCtorEq] at hc); (try (exfalso; first | omega | contradiction | omega | exact absurd rfl hc | exact absurd (by decide) hc))))))
      all_goals
        (refine At.loopk (σ := Nat) [0] (fun s F0 => (3, .int .i64 (s : Int)) :: F0) (fun s => m) (fun s => Rest) (fun s => s ≤ tx.length ∧ ∀ i, i < s → sgn (tx[i]!) = true) (fun s => tx.length - s) 0 (by rfl) ?_ zsubs zml zente ?_)
        · exact ⟨Nat.zero_le _, fun i h => absurd h (Nat.not_lt_zero i)⟩
        rintro j ⟨hj, hn⟩
        by_cases h : j < tx.length
        · cases hk : sgn (tx[j]!) with
          | true =>
            have hk' := of_decide_eq_true hk
            (repeat' (first | refine zss ?_ | refine zs0 ?_ | (refine zsp ?_ ?_ <;> (intro hc; (try simp only [zhcs, reduceCtorEq] at hc); (try (exfalso; first | omega | contradiction | omega | exact absurd rfl hc | exact absurd (by decide) hc))))))
            all_goals ((with_reducible refine At.reachk ((j + 1)) ?_ ?_ ?_ ?_); exact zsubs; exact zml; exact zente; exact ⟨⟨h, fun i hi => by
              by_cases e1 : i = j
              · subst e1; exact hk
              · exact hn i (by omega)⟩, by omega⟩)
          | false =>
            have hk' := of_decide_eq_false hk
            rw [nameB_no fun k => absurd ((k.2.2.2 j h).symm.trans hk) (by decide)]
            (repeat' (first | refine zss ?_ | refine zs0 ?_ | (refine zsp ?_ ?_ <;> (intro hc; (try simp only [zhcs, reduceCtorEq] at hc); (try (exfalso; first | omega | contradiction | omega | exact absurd rfl hc | exact absurd (by decide) hc))))))
            all_goals ((with_reducible apply At.retB1 (B := [])); exact rfl; exact rfl; exact zml; exact zkp; exact ⟨rfl, rfl, rfl⟩)
        · rw [show nameB tx = true from decide_eq_true ⟨h1.1, h1.2, e, fun i hi => hn i (by omega)⟩]
          (repeat' (first | refine zss ?_ | refine zs0 ?_ | (refine zsp ?_ ?_ <;> (intro hc; (try simp only [zhcs, reduceCtorEq] at hc); (try (exfalso; first | omega | contradiction | omega | exact absurd rfl hc | exact absurd (by decide) hc))))))
          all_goals ((with_reducible apply At.retB1 (B := [])); exact rfl; exact rfl; exact zml; exact zkp; exact ⟨rfl, rfl, rfl⟩)
  · rw [nameB_no fun k => h1 ⟨k.1, k.2.1⟩]
    refine Ct.enterV (by rfl) Try.func36 rfl Try.ntmps36 rfl (fun w0 Rest => ?_)
    (repeat' (first | refine zss ?_ | refine zs0 ?_ | (refine zsp ?_ ?_ <;> (intro hc; (try simp only [zhcs, reduceCtorEq] at hc); (try (exfalso; first | omega | contradiction | omega | exact absurd rfl hc | exact absurd (by decide) hc))))))
    all_goals ((with_reducible apply At.retB1 (B := [])); exact rfl; exact rfl; exact zml; exact zkp; exact ⟨rfl, rfl, rfl⟩)
end Lb
end Go.Proofs.Ytoplagjjojlceaa
