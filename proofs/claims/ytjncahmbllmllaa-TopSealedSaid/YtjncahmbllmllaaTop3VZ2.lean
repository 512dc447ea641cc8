/- Part 2 of what the law's proof needs: rules of the walk, contracts of functions, plain laws. No condition. -/
import Derived.Test.YtjncahmbllmllaaTop3VZ1
import Derived.Scope
import Derived.Laws.OwnMore
import Derived.Laws.Externs
import Derived.Lib.SliceRun
import Derived.Test.YtjncahmbllmllaaRows
import Derived.Lib.FrozenHead
import Derived.Laws.IdiomCopy
import Derived.Lib.Overlaps
/- Scopes, a 'return' without results, a slice made full, what one owns under a name. -/
set_option linter.unusedSimpArgs false
set_option linter.unusedVariables false
set_option linter.unusedSectionVars false
set_option maxRecDepth 20000
namespace Go.J
open Go

section
variable {P : Program} {n : Nat} {w0 : World} {F : Fr} {m : Mem} {Rs : List Res} {Q : Exit → Act → World → Prop} {K : Act → World → Prop} {C : World → Prop}

theorem At.scope {c : Code} (h : At n w0 F m Rs (c.wp P (Exit.noGoto Q))) : At n w0 F m Rs ((Code.scope c).wp P Q) := fun a w ha hw => wp_scope_straight (h a w ha hw)
theorem At.label {l : Nat} (h : At n w0 F m Rs (Q .normal)) : At n w0 F m Rs ((Code.label l).wp P Q) := fun a w ha hw => wp_label (h a w ha hw)
theorem At.nog_n (h : At n w0 F m Rs (Q .normal)) : At n w0 F m Rs (Exit.noGoto Q .normal) := h
theorem At.nog_r (h : At n w0 F m Rs (Q .ret)) : At n w0 F m Rs (Exit.noGoto Q .ret) := h
theorem At.nog_e {id : Nat} (h : At n w0 F m Rs (Q (.exit id))) : At n w0 F m Rs (Exit.noGoto Q (.exit id)) := h
theorem At.retR0 {fn : Func} {R : Value → Mem → List Res → Prop} {m0 : Mem} {Rest B : List Res} (hr : fn.results = #[]) (hm : m0.le m) (hB : Keep B Rs Rest) (hR : R (.tuple #[]) m B) :
    At n w0 F m Rs (bodyPost P fn (fun e w' => ∃ v m' B, e = .returned v ∧ m0.le m' ∧ R v m' B ∧ HW w0 m' (B ++ Rest) w') .ret) := fun a w ha hw =>
  ⟨ha.dfr, _, by rw [results_none hr], _, m, B, rfl, hm, hR, hw.ent hB.ent⟩

theorem pr_strindexn {x y : Operand} {t : TypeId} {l : List UInt8} {k : IntKind} {i : Nat} (ht : P.underlying t = some .string) (hx : ev F x = some (.string (str l))) (hy : ev F y = some (.int k (i : Int))) (h1 : i < l.length) :
    PR P n F C (.index t x y) (.int .u8 (bI l[i]!)) := pr_strindex ht hx hy (by omega) (by omega)
theorem pr_str_ln {x y : Operand} {t : TypeId} {l : List UInt8} {k : IntKind} {i : Nat} (ht : P.underlying t = some .string) (hx : ev F x = some (.string (str l))) (hy : ev F y = some (.int k (i : Int))) (h1 : i ≤ l.length) :
    PR P n F C (.slice t x (some y) none none) (.string (str (l.drop i))) := pr_str_l ht hx hy (by omega) (by omega)
theorem pr_str_hn {x z : Operand} {t : TypeId} {l : List UInt8} {k : IntKind} {i : Nat} (ht : P.underlying t = some .string) (hx : ev F x = some (.string (str l))) (hz : ev F z = some (.int k (i : Int))) (h1 : i ≤ l.length) :
    PR P n F C (.slice t x none (some z) none) (.string (str (l.take i))) := pr_str_h ht hx hz (by omega) (by omega)
theorem pr_str_lhn {x y z : Operand} {t : TypeId} {l : List UInt8} {k k' : IntKind} {i j : Nat} (ht : P.underlying t = some .string) (hx : ev F x = some (.string (str l))) (hy : ev F y = some (.int k (i : Int))) (hz : ev F z = some (.int k' (j : Int))) (h1 : i ≤ j) (h2 : j ≤ l.length) :
    PR P n F C (.slice t x (some y) (some z) none) (.string (str ((l.take j).drop i))) := pr_str_lh ht hx hy hz (by omega) (by omega) (by omega)

/-- a region that draws, where some of what one owns is for the loud operations alone -/
theorem At.mixedX {id : Nat} {l0 l : List Oper} (X : List Res) (N : Nat) (p : Plan) {Base : List Res} (hX : Take X Rs Base) (e : flat l0 = some l) (hN : Nat.beq l.length N = true) (hm : P.follows .mixedOrders = true) (hB : mixB l p = true)
    (h : AtM P n w0 F m Base X (Q .normal) l N (Array.replicate l.length false) p) : At n w0 F m Rs ((Code.region id l0.toArray true).wp P Q) := fun a w ha hw => by
  have := flat_eq l0 l e; subst this
  simp only [mixB, Bool.and_eq_true] at hB
  have hN' := Nat.eq_of_beq_eq_true hN
  subst hN'
  have hG := h hB.1 hB.2 (Closed.empty _ _) a ha
  refine Code.wp_mono (Q := Q0 (Q .normal)) (fun e a' w' q => by cases e <;> first | exact q | exact q.elim) (wp_region_any hm ?_)
  exact GM.any (P := P) l.length m Base X _ a { w with drawn := w.drawn + 1 } ((hw.ent hX.eqv.ent).drawn _) hG

/-- what came to be in memory is not told -/
theorem Ct.forget {f : FuncId} {args : Array Value} {A : List Res} {R R' : Value → Mem → List Res → Prop} (h : Ct P f args m A R) (hr : ∀ v m' B, m.le m' → R v m' B → R' v m B) : Ct P f args m A R' :=
  fun w0 Rest w hw => (h w0 Rest w hw).mono fun _ _ ⟨v, m', B, he, hm, hR, hw'⟩ => ⟨v, m, B, he, Mem.le_refl _, hr v m' B hm hR, hw'.weak hm⟩
theorem Pu.of_le {f : FuncId} {args : Array Value} {V : Value} (h : ∀ m, Ct P f args m [] (fun v m' B => v = V ∧ m.le m' ∧ B = [])) : Pu P f args V := Pu.intro fun m => Ct.forget (h m) fun _ _ _ _ ⟨h1, _, h3⟩ => ⟨h1, rfl, h3⟩

theorem flatMap_replicate {α : Type} (f : α → List Value) (z : α) : ∀ k : Nat, (List.replicate k z).flatMap f = copies k (f z)
  | 0 => rfl
  | k + 1 => by rw [List.replicate_succ, List.flatMap_cons, flatMap_replicate f z k]; rfl
/-- a slice that is made with all of its room taken -/
theorem At.makeN {α : Type} [Inhabited α] {f : α → List Value} {sz : Nat} {ops : Array Oper} {rest : List Oper} {d : Nat} {x y : Operand} {t E : TypeId} {ty : TypeId} {pos : String} {aft : Array Edge} {k1 k2 : IntKind} {cp : Nat} {q q' : Int}
    (z : α) (hf : Fl f sz) (ht : P.underlying t = some (.slice E)) (he : elemB P E sz = true) (hx : ev F x = some (.int k1 q)) (hy : ev F y = some (.int k2 q')) (hq : q = (cp : Int)) (hq' : q' = (cp : Int)) (hz : zeroL P E = some (f z)) (hsm : cp ≤ 34359738368) (hd : Nat.blt d n = true)
    (h : ∀ b, At n w0 ((d, .slice (some ⟨b, 0, none⟩) cp cp) :: F) m (.own f sz E (some ⟨b, 0, none⟩) cp (List.replicate cp z) :: Rs) (wpList P ops Q rest)) :
    At n w0 F m Rs (wpList P ops Q (⟨some d, .makeSlice t x y, ty, pos, aft, none⟩ :: rest)) := fun a w ha hw =>
  wpList_plain rfl fun K hK => by
    subst hq hq'
    obtain ⟨i, zv, hi, hzv, hsz, hbt, hzs⟩ := elemB_spec he
    obtain ⟨i', z', hi', hz', hzc⟩ := zeroL_spec hz
    rw [hi] at hi'; cases hi'
    rw [hzv] at hz'; cases hz'
    have hby : i.bytes * cp ≤ 281474976710656 := Nat.le_trans (Nat.mul_le_mul hbt hsm) (by omega)
    have h63 : cp ≤ maxLen := by simp only [maxLen]; omega
    obtain ⟨w', hr, h1, h2⟩ := run_make_full (P := P) w w.heap.size t E i zv sz ht hi hzv hsz k1 k2 cp hby h63 (Nat.le_refl _)
    unfold Oper.wp
    have hrun : (execOp a.eval ⟨some d, .makeSlice t x y, ty, pos, aft, none⟩).run P w = .ok (.value (.slice (some ⟨w.heap.size, 0, none⟩) cp cp)) w' := by
      simp [execOp, ha.ev hx, ha.ev hy, hr]
    rw [hrun]
    have hh := h w.heap.size
    refine hK _ _ (hh _ _ (ha.put hd) (hw.add h2.os h2.tape h2.output h2.size (fun k hk => h2.block k hk (by simp)) ⟨fun k => k = w.heap.size, ?_, fun k hk => by omega⟩))
    obtain ⟨g1, g2⟩ := h1
    rcases g2 with g2 | ⟨g, cap, cur, hv, _, h4, h5, h6, h7, h8⟩
    · cases g2.1
    · injection hv with e1 e2 e3
      injection e1 with e1
      injection e1 with e1 _ _
      subst e1 e3
      have hsize : zv.cells.size = sz := hzs
      have hlz : (f z).length = sz := hf.len z
      have hmade : (madeCells zv.cells (cp * sz)).toList = copies cp (f z) := by
        have := copies_arr zv.cells (f z) hzc cp
        rw [hlz] at this
        unfold madeCells
        rw [this]
      refine .inr ⟨_, 0, cur, rfl, h4, by rw [List.length_replicate]; exact Nat.le_refl _, h6, by omega, fun j hj => ?_, fun _ => Iff.rfl⟩
      rw [List.length_replicate] at hj
      rw [Nat.zero_add, flatMap_replicate, ← hmade, ← h8, List.getElem?_take, if_pos hj, Array.getElem?_toList]
end
end Go.J
/- Arrays that stand in a variable, values of which no more than the length is known, the model's own functions. -/
set_option linter.unusedSimpArgs false
set_option linter.unusedVariables false
set_option linter.unusedSectionVars false
set_option maxRecDepth 20000
namespace Go.J
open Go

section
variable {P : Program} {n : Nat} {w0 : World} {F : Fr} {m : Mem} {Rs : List Res} {Q : Exit → Act → World → Prop} {K : Act → World → Prop} {C : World → Prop}

/-! ### arrays -/
theorem run_indexArr {t e : TypeId} {sz len : Nat} (ht : P.underlying t = some (.array len e)) (hs : sizeB P e = some sz) (b o k : Nat) (ki : IntKind) (hk : k < len) (w : World) :
    (Instr.indexAt t (.pointer (some ⟨b, o, none⟩)) (.int ki (k : Int))).run P w = .ok (.pointer (some ⟨b, o + k * sz, none⟩)) w := by
  have hr : ∀ w, (underlying t).run P w = .ok (.array len e) w := run_underlying ht
  have h1 : (0 : Int) ≤ (k : Int) ∧ (k : Int) < (len : Int) := ⟨by omega, by omega⟩
  unfold Instr.indexAt
  simp only [asIntOf, pure, Sem.run_bind, Sem.run, Result.andThen, hr, Instr.sureAddr, h1, and_self, if_true, run_sizeOf hs, Int.toNat_natCast, Addr.add_eq]
theorem pr_indexArr {x y : Operand} {t e : TypeId} {len b o k sz : Nat} {ki : IntKind} (hx : ev F x = some (.pointer (some ⟨b, o, none⟩))) (hy : ev F y = some (.int ki (k : Int))) (ht : P.underlying t = some (.array len e)) (hs : sizeB P e = some sz) (hk : k < len) :
    PR P n F C (.indexAddr t x y) (.pointer (some ⟨b, o + k * sz, none⟩)) := fun _ _ _ _ _ a w ha _ => by
  simp only [execOp, ha.ev hx, ha.ev hy, Sem.run_bind, run_indexArr ht hs b o k ki hk]
  rfl
/-- the elements are of one cell, the array is the whole block -/
theorem pr_indexArr1 {x y : Operand} {t e : TypeId} {len b k : Nat} {ki : IntKind} (hx : ev F x = some (.pointer (some ⟨b, 0, none⟩))) (hy : ev F y = some (.int ki (k : Int))) (ht : P.underlying t = some (.array len e)) (hs : sizeB P e = some 1) (hk : k < len) :
    PR P n F C (.indexAddr t x y) (.pointer (some ⟨b, k, none⟩)) := by
  have := pr_indexArr (n := n) (C := C) hx hy ht hs hk
  rwa [Nat.zero_add, Nat.mul_one] at this
theorem pr_indexArr1i {x y : Operand} {t e : TypeId} {len b : Nat} {q : Int} {ki : IntKind} (hx : ev F x = some (.pointer (some ⟨b, 0, none⟩))) (hy : ev F y = some (.int ki q)) (ht : P.underlying t = some (.array len e)) (hs : sizeB P e = some 1) (h0 : 0 ≤ q) (hk : q < len) :
    PR P n F C (.indexAddr t x y) (.pointer (some ⟨b, q.toNat, none⟩)) := pr_indexArr1 hx (k := q.toNat) (by rw [hy, Int.toNat_of_nonneg h0]) ht hs (by omega)
theorem pr_load_arr {α : Type} [Inhabited α] {g : α → Value} {l : List α} {x : Operand} {t : TypeId} {b k : Nat} {E : TypeId} {Rs' : List Res} (hx : ev F x = some (.pointer (some ⟨b, k, none⟩))) (hp : Pick Rs (.blk b E (l.map g)) Rs') (ht : isAggB P t = some false) (hk : k < l.length) :
    PR P n F (HW w0 m Rs) (.load t x) (g l[k]!) := pr_load1 ht hx fun w hw => by
  rw [World.cell_of (hw.blk hp)]
  simp [hk]
theorem putl_set : ∀ (cs : List Value) (k : Nat) (v : Value), k < cs.length → putl cs k [v] = some (cs.set k v)
  | [], _, _, h => by simp at h
  | c :: cs, 0, v, _ => by
    have : ∀ l : List Value, putl l 0 [] = some l := fun l => by cases l <;> simp [putl]
    simp [putl, this]
  | c :: cs, k + 1, v, h => by
    have := putl_set cs k v (by simpa using h)
    simp [putl, this]
theorem At.storeArr {α : Type} {g : α → Value} {l : List α} {ops : Array Oper} {rest : List Oper} {t : TypeId} {x y : Operand} {ty : TypeId} {pos : String} {aft : Array Edge} {b k : Nat} {v : Value} {E : TypeId} {Rs' : List Res}
    (x' : α) (hx : ev F x = some (.pointer (some ⟨b, k, none⟩))) (hy : ev F y = some v) (hv : g x' = v) (hc : cellsB v = some [v]) (hs : sizeB P t = some 1) (h1 : oneCell v = true)
    (hp : Repl Rs (.blk b E (l.map g)) (.blk b E ((l.set k x').map g)) Rs') (hk : k < l.length)
    (h : At n w0 F m Rs' (wpList P ops Q rest)) : At n w0 F m Rs (wpList P ops Q (⟨none, .store t x y, ty, pos, aft, none⟩ :: rest)) :=
  At.store (vs := [v]) hx hy hc hs rfl (by simp [h1]) ⟨_, rfl, by rw [putl_set _ _ _ (by simpa using hk), List.map_set, hv]⟩ hp h

/-! ### values of which no more than the length is known -/
theorem cellsOf_agg (L : List Value) : (Value.agg L.toArray).cells = L.toArray := rfl
theorem At.boxA {ops : Array Oper} {rest : List Oper} {d : Nat} {t : TypeId} {x : Operand} {ty : TypeId} {pos : String} {aft : Array Edge} {L : List Value} (hx : ev F x = some (.agg L.toArray)) (hd : Nat.blt d n = true)
    (h : ∀ b, At n w0 ((d, .pointer (some ⟨b, 0, none⟩)) :: F) m (.blk b t L :: Rs) (wpList P ops Q rest)) : At n w0 F m Rs (wpList P ops Q (⟨some d, .box t x, ty, pos, aft, none⟩ :: rest)) :=
  At.box (v := .agg L.toArray) hx (by show flat L = some L; exact flat_self L) hd h
theorem pr_loadA {x : Operand} {t : TypeId} {b k : Nat} {L : List Value} {E : TypeId} {Rs' : List Res} (hx : ev F x = some (.pointer (some ⟨b, 0, none⟩))) (hp : Pick Rs (.blk b E L) Rs') (ht : isAggB P t = some true) (hs : sizeB P t = some k) (hk : L.length = k) :
    PR P n F (HW w0 m Rs) (.load t x) (.agg L.toArray) := pr_loadN ht hx (by rw [hk]; exact hs) fun w hw j _ => by
  rw [World.cell_of (hw.blk hp)]
  simp
theorem putl_all : ∀ (cs vs : List Value), cs.length = vs.length → putl cs 0 vs = some vs
  | [], [], _ => rfl
  | c :: cs, v :: vs, h => by simp [putl, putl_all cs vs (by simpa using h)]
  | [], _ :: _, h => by simp at h
  | _ :: _, [], h => by simp at h
theorem At.storeA {ops : Array Oper} {rest : List Oper} {t : TypeId} {x y : Operand} {ty : TypeId} {pos : String} {aft : Array Edge} {b k : Nat} {L cs : List Value} {E : TypeId} {Rs' : List Res}
    (hx : ev F x = some (.pointer (some ⟨b, 0, none⟩))) (hy : ev F y = some (.agg L.toArray)) (hs : sizeB P t = some k) (h1 : L.all oneCell = true) (hp : Repl Rs (.blk b E cs) (.blk b E L) Rs') (hk : L.length = k) (hk2 : cs.length = k)
    (h : At n w0 F m Rs' (wpList P ops Q rest)) : At n w0 F m Rs (wpList P ops Q (⟨none, .store t x y, ty, pos, aft, none⟩ :: rest)) :=
  At.store (vs := L) hx hy (by show flat L = some L; exact flat_self L) hs hk h1 ⟨_, rfl, putl_all _ _ (by rw [hk2, hk])⟩ hp h
theorem rv_cellA {x b k : Nat} {t E : TypeId} {L : List Value} {Rs' : List Res} (hx : look x F = some (.pointer (some ⟨b, 0, none⟩))) (hp : Pick Rs (.blk b E L) Rs') (ht : isAggB P t = some true) (hs : sizeB P t = some k) (hk : L.length = k) : RV P n F (HW w0 m Rs) (.cell x t) (.agg L.toArray) := fun a w ha hC => by
  show ((do loadVar t (← asAddr (a.tmps.getD x undef))) : Sem Value).run P w = _
  rw [ha.val x _ hx]
  have e0 : (asAddr (.pointer (some ⟨b, 0, none⟩)) : Sem Addr).run P w = .ok ⟨b, 0, none⟩ w := rfl
  simp only [Sem.run_bind, e0, Result.andThen]
  exact run_loadVarN ht (by rw [hk]; exact hs) (fun j _ => by
    rw [World.cell_of (hC.blk hp)]
    simp)

/-! ### the model's own functions -/
theorem pr_extern {f : FuncId} {fn : Func} {e : Array Value → Sem Value} {xs : List Operand} {ts : Array TypeId} {vs : List Value} {v : Value} (hf : P.funcs[f]? = some fn) (hname : (fn.name == "runtime.NumGoroutine") = false) (hb : fn.body.isNone = true) (hn : Extern.findNext fn = none) (he : Extern.find fn = some e)
    (hx : evs F xs = some vs) (hv : ∀ w, (e vs.toArray).run P w = .ok v w) : PR P n F C (.call ⟨.value (.func f), xs.toArray, ts⟩) v := fun _ _ _ _ _ a w ha _ => by
  rw [execOp_call_go]
  have : (#[] ++ xs.toArray.map a.eval ++ #[] : Array Value) = vs.toArray := by simp [evs_map ha xs vs hx]
  rw [this, run_callFunc_extern hf hname hb hn he, hv w]
  rfl

/-! ### two structs are compared -/
def eqG (P : Program) (eqT : TypeId → List Value → List Value → Option (List Bool)) (xs ys : List Value) : List Field → Option (List Bool)
  | [] => some []
  | f :: fs => match f.name == "_" with
    | true => none
    | false => match P.info? f.type with
      | some i => match subl xs f.offset i.size with
        | some a => match subl ys f.offset i.size with
          | some b => match eqT f.type a b with
            | some r => match eqG P eqT xs ys fs with
              | some q => some (r ++ q)
              | none => none
            | none => none
          | none => none
        | none => none
      | none => none
def eqS (P : Program) : Nat → TypeId → List Value → List Value → Option (List Bool)
  | 0, _, _, _ => none
  | d + 1, t, xs, ys => match P.underlying t with
    | some (.struct fs) => eqG P (eqS P d) xs ys fs.toList
    | some .bool => match xs, ys with
      | [.bool a], [.bool b] => some [a == b]
      | _, _ => none
    | some .string => match xs, ys with
      | [.string a], [.string b] => some [decide (a = b)]
      | _, _ => none
    | some (.int _) => match xs, ys with
      | [.int k a], [.int k' b] => match decide (k = k') with
        | true => some [decide (a = b)]
        | false => none
      | _, _ => none
    | _ => none
def eqM (P : Program) (t : TypeId) (xs ys : List Value) : Option (List Bool) := match eqS P 6 t xs ys with
  | some l => flat l
  | none => none


/-- no struct of it is laid out by another's hand -/
def freeF (rec : TypeId → Bool) : List Field → Bool
  | [] => true
  | f :: fs => rec f.type && freeF rec fs
def freeB (P : Program) : Nat → TypeId → Bool
  | 0, _ => false
  | d + 1, t => match P.underlying t with
    | some (.struct fs) => !P.stoodInHeld t && freeF (freeB P d) fs.toList
    | _ => true
theorem eqS_run : ∀ (d e : Nat) (t : TypeId) (xs ys : List Value) (r : List Bool) (w : World), freeB P d t = true → eqS P d t xs ys = some r →
    (isAggB P t = some true ∧ (Op.equalIn (d + e) t (.agg xs.toArray) (.agg ys.toArray)).run P w = .ok (andL r) w) ∨
    (isAggB P t = some false ∧ ∃ x y, xs = [x] ∧ ys = [y] ∧ (Op.equalIn (d + e) t x y).run P w = .ok (andL r) w)
  | 0, _, _, _, _, _, _, h, _ => by cases h
  | d + 1, e, t, xs, ys, r, w, hfree, h => by
    have ih := eqS_run d e
    rw [show d + 1 + e = (d + e) + 1 by omega]
    unfold eqS at h
    unfold freeB at hfree
    cases hu : P.underlying t with
    | none => rw [hu] at h; cases h
    | some u =>
      rw [hu] at h hfree
      cases u <;> simp only at h hfree <;> try (cases h; done)
      case bool =>
        split at h
        · rename_i a b
          cases h
          refine .inr ⟨by simp [isAggB, hu], _, _, rfl, rfl, ?_⟩
          simp [Op.equalIn, run_underlying hu, andL]
        · cases h
      case string =>
        split at h
        · rename_i a b
          cases h
          refine .inr ⟨by simp [isAggB, hu], _, _, rfl, rfl, ?_⟩
          have : (a == b) = decide (a = b) := by rw [beq_toListBytes, str_eq]
          simp [Op.equalIn, run_underlying hu, andL, this]
        · cases h
      case int kk =>
        split at h
        · rename_i k a k' b
          by_cases hk : k = k'
          · subst hk
            simp only [decide_true] at h
            cases h
            refine .inr ⟨by simp [isAggB, hu], _, _, rfl, rfl, ?_⟩
            have : (a == b) = decide (a = b) := rfl
            simp [Op.equalIn, run_underlying hu, andL, this]
          · simp only [decide_eq_false hk] at h
            cases h
        · cases h
      case struct fs =>
        rw [Bool.and_eq_true] at hfree
        obtain ⟨hp0, hfr⟩ := hfree
        cases hp : P.stoodInHeld t with
        | true => rw [hp] at hp0; cases hp0
        | false =>
          refine .inl ⟨by simp [isAggB, hu], ?_⟩
          have hfo : P.fieldsOf t = fs := by simp [Program.fieldsOf, hu]
          rw [run_equalIn_struct w (d + e) t _ _ (by rw [hfo]; exact hu) hp, hfo]
          generalize fs.toList = l at h hfr
          clear hfo hu
          induction l generalizing r with
          | nil => cases h; rfl
          | cons f l ihl =>
            unfold eqG at h
            unfold freeF at hfr
            rw [Bool.and_eq_true] at hfr
            cases hn : f.name == "_" with
            | true => rw [hn] at h; cases h
            | false =>
              rw [hn] at h
              simp only at h
              have hn' : f.name ≠ "_" := by simpa using hn
              cases hi : P.info? f.type with
              | none => rw [hi] at h; cases h
              | some i =>
                rw [hi] at h
                simp only at h
                cases h1 : subl xs f.offset i.size with
                | none => rw [h1] at h; cases h
                | some a =>
                  cases h2 : subl ys f.offset i.size with
                  | none => rw [h1, h2] at h; cases h
                  | some b =>
                    rw [h1, h2] at h
                    simp only at h
                    cases h3 : eqS P d f.type a b with
                    | none => rw [h3] at h; cases h
                    | some q =>
                      rw [h3] at h
                      simp only at h
                      cases h4 : eqG P (eqS P d) xs ys l with
                      | none => rw [h4] at h; cases h
                      | some q2 =>
                        rw [h4] at h
                        cases h
                        have hr := ihl q2 h4 hfr.2
                        unfold Op.eqFields
                        rw [if_pos hn', andL_append]
                        rcases ih f.type a b q w hfr.1 h3 with ⟨hb, hq⟩ | ⟨hb, x, y, rfl, rfl, hq⟩
                        · have p1 := run_part hb hi h1 undef (fun e => by cases e) w
                          have p2 := run_part hb hi h2 undef (fun e => by cases e) w
                          simp only [if_true] at p1 p2
                          simp only [Sem.run_bind, p1, p2, hq, Result.andThen]
                          cases andL q with
                          | true => simpa using hr
                          | false => simp
                        · have p1 := run_part hb hi h1 x (fun _ => rfl) w
                          have p2 := run_part hb hi h2 y (fun _ => rfl) w
                          simp only [Bool.false_eq_true, if_false] at p1 p2
                          simp only [Sem.run_bind, p1, p2, hq, Result.andThen]
                          cases andL q with
                          | true => simpa using hr
                          | false => simp

theorem run_agg_equal2 {t : TypeId} {xs ys : List Value} {bs : List Bool} (hb : isAggB P t = some true) (hn : freeB P 6 t = true) (h : eqM P t xs ys = some bs) (w : World) : (Op.equal t (.agg xs.toArray) (.agg ys.toArray)).run P w = .ok (andL bs) w := by
  unfold eqM at h
  cases h1 : eqS P 6 t xs ys with
  | none => rw [h1] at h; cases h
  | some l =>
    rw [h1] at h
    have := flat_eq _ _ h
    subst this
    unfold Op.equal
    rcases eqS_run 6 9994 t xs ys bs w hn h1 with ⟨_, h2⟩ | ⟨h2, _⟩
    · exact h2
    · rw [hb] at h2; cases h2
theorem pr_aggeq2 {x y : Operand} {t u : TypeId} {xs ys : List Value} {bs : List Bool} (hx : ev F x = some (.agg xs.toArray)) (hy : ev F y = some (.agg ys.toArray)) (hb : isAggB P t = some true) (hg : P.eqGuardType P.depth t = false) (hn : freeB P 6 t = true) (h : eqM P t xs ys = some bs) : PR P n F C (.binOp .eql t x y u) (.bool (andL bs)) :=
  pr_eql_of hx hy (run_agg_guard hg .eql (.inl rfl)) rfl (fun w _ => run_agg_equal2 hb hn h w)
theorem pr_aggne2 {x y : Operand} {t u : TypeId} {xs ys : List Value} {bs : List Bool} (hx : ev F x = some (.agg xs.toArray)) (hy : ev F y = some (.agg ys.toArray)) (hb : isAggB P t = some true) (hg : P.eqGuardType P.depth t = false) (hn : freeB P 6 t = true) (h : eqM P t xs ys = some bs) : PR P n F C (.binOp .neq t x y u) (.bool (!andL bs)) :=
  pr_neq_of hx hy (run_agg_guard hg .neq (.inr rfl)) rfl (fun w _ => run_agg_equal2 hb hn h w)

end
end Go.J
/- append where there is no room: to whatever can be read, into what is new. -/
set_option linter.unusedSimpArgs false
set_option linter.unusedVariables false
set_option linter.unusedSectionVars false
set_option maxRecDepth 20000
namespace Go.J
open Go
section
variable {P : Program} {n : Nat} {w0 : World} {F : Fr} {m : Mem} {Rs : List Res} {Q : Exit → Act → World → Prop} {α : Type} [Inhabited α] {f : α → List Value} {sz : Nat}
theorem At.appendF {ops : Array Oper} {rest : List Oper} {d : Nat} {x y : Operand} {t tx e2 : TypeId} {ty : TypeId} {pos : String} {aft : Array Edge} {E : TypeId} {p p2 : Option Addr} {c ln ln2 c2 : Nat} {l l2 : List α}
    (hx : ev F x = some (.slice p ln c)) (hy : ev F y = some (.slice p2 ln2 c2)) (h1 : Rdb (HW w0 m Rs) f sz p c l) (hln : ln = l.length) (h2 : Rdb (HW w0 m Rs) f sz p2 c2 l2) (hl2 : ln2 = l2.length)
    (ht : P.underlying t = some (.slice E)) (ht2 : P.underlying tx = some (.slice e2)) (he : elemB P E sz = true) (hc : c < l.length + l2.length)
    (hsm : l.length + l2.length ≤ 34359738368) (hd : Nat.blt d n = true)
    (h : ∀ p' c', At n w0 ((d, .slice p' (l ++ l2).length c') :: F) m (.own f sz E p' c' (l ++ l2) :: Rs) (wpList P ops Q rest)) :
    At n w0 F m Rs (wpList P ops Q (⟨some d, .call ⟨.builtin .append, #[x, y], #[t, tx]⟩, ty, pos, aft, none⟩ :: rest)) := fun a w ha hw =>
  wpList_plain rfl fun K hK => by
    subst hln hl2
    have hf := h1.fl
    obtain ⟨i, z, hi, hz, hsz, hbt, hzs⟩ := elemB_spec he
    have hby : (l.length + l2.length) * i.bytes ≤ 140737488355328 := Nat.le_trans (Nat.mul_le_mul hsm hbt) (by omega)
    have h63 : l.length + l2.length ≤ maxLen := by simp only [maxLen]; omega
    have hsmall : ((l.length + l2.length : Nat) : Int) ≤ 9223372036854775807 := by omega
    have s1 := rdb_src (P := P) h1 hw ht
    have s2 := rdb_src (P := P) h2 hw ht2
    have hl1 := flatMap_length hf.len l
    have hl2 := flatMap_length hf.len l2
    have hll : (l ++ l2).length = l.length + l2.length := by simp
    have hold : (Builtin.firstCells i.size l.length (.slice p l.length c)).run P w.drew = .ok (l.flatMap f).toArray w.drew := by rw [hsz]; exact s1.cellsD
    have hr := run_append_grow_src (P := P) (ty := ty) (w := w) t tx E i z ht hi hz p l.length c (l.flatMap f) hold (.slice p2 l2.length c2) l2.length (l2.flatMap f) (by rw [hsz]; exact s2) hc hsmall (growslice_fits hc hby)
    have hge := grownCap_ge w (l.length + l2.length) c E
    have hcm : grownCap w (l.length + l2.length) c E ≤ maxLen := grownCap_le_maxLen w (l.length + l2.length) c E h63
    rw [← hll] at hr hge hcm
    unfold Oper.wp
    have hrun : ∀ v w', (Builtin.append_ #[t, tx] ty #[.slice p l.length c, .slice p2 l2.length c2]).run P w = .ok v w' → (execOp a.eval ⟨some d, .call ⟨.builtin .append, #[x, y], #[t, tx]⟩, ty, pos, aft, none⟩).run P w = .ok (.value v) w' := fun v w' hr => by
      rw [BigFrame.execOp_builtin]
      simp [BigFrame.builtin_append, ha.ev hx, ha.ev hy, hr]
    rw [hrun _ _ hr]
    refine hK _ _ (h _ _ _ _ (ha.put hd) (hw.add rfl rfl rfl (by simp) (fun k hk => heap_alloc_old w.drew _ hk) ⟨fun k => k = w.heap.size, .inr ⟨w.heap.size, 0, _, rfl, heap_alloc_new w.drew _, hge, hcm, ?_, fun j hj => ?_, fun _ => Iff.rfl⟩, fun k hk => by omega⟩))
    · simp only [Array.size_append, List.size_toArray, size_zeroCells, hzs, List.length_append, hl1, hl2, ← Nat.add_mul]
      rw [List.length_append] at hge
      rw [Nat.add_sub_cancel' hge, Nat.zero_add]
      exact Nat.le_refl _
    · rw [Nat.zero_add, List.flatMap_append, Array.getElem?_append_left (by
        rw [hll, Nat.add_mul] at hj
        simp only [List.size_toArray, List.length_append, hl1, hl2]; omega)]
      simp
theorem addr_add0 (a : Addr) : a.add 0 = a := by cases a; simp [Addr.add]
theorem subp0 (p : Option Addr) (c sz : Nat) : subp p c 0 sz = p := by
  unfold subp
  split
  · rfl
  · rw [Nat.zero_mul]; cases p <;> simp [addr_add0]
theorem Rdb.cut {C : World → Prop} {p : Option Addr} {c : Nat} {l : List α} (h : Rdb C f sz p c l) (hi : Nat) (h1 : hi ≤ l.length) : Rdb C f sz p hi (l.take hi) := by
  have := Rdb.subh h hi h1
  rw [subp0] at this
  exact ⟨this.fl, this.some, fun w hw => by rw [List.length_take]; omega, this.cell⟩
/-- a part from the front, with no room behind it -/
theorem run_slice3 {t e : TypeId} (ht : P.underlying t = some (.slice e)) (hs : sizeB P e = some sz) (p : Option Addr) (l c hi : Nat) (h2 : hi ≤ c) (k k' : IntKind) (w : World) :
    (Instr.sliceAt t (.slice p l c) none (some (.int k (hi : Int))) (some (.int k' (hi : Int)))).run P w = .ok (.slice p hi hi) w := by
  have hr : ∀ w, (underlying t).run P w = .ok (.slice e) w := fun w => by simp only [underlying, program, bind, Sem.bind, Sem.run, ht]; rfl
  have a2 : (0 : Int) ≤ (hi : Int) ∧ (hi : Int) ≤ (c : Int) := ⟨by omega, by omega⟩
  unfold Instr.sliceAt
  simp only [Sem.run_bind, hr, Result.andThen]
  unfold Instr.slice
  simp only [Sem.run_bind, hr, Result.andThen]
  have hb : (Instr.sliceBounds true l c none (some (.int k (hi : Int))) (some (.int k' (hi : Int)))).run P w = .ok (0, hi, hi) w := by
    unfold Instr.sliceBounds Instr.sliceBound
    simp [asIntOf, pure, Sem.run, bind, Sem.bind, h2]
  rw [hb]
  simp only [run_sizeOf hs, pure, Sem.run]
  have := subp0 p hi sz
  unfold subp at this
  simp only [Nat.sub_zero, this]
theorem pr_slice3 {C : World → Prop} {x y z : Operand} {t e : TypeId} {p : Option Addr} {l c hi : Nat} {k k' : IntKind} (hx : ev F x = some (.slice p l c)) (hz : ev F z = some (.int k (hi : Int))) (hy : ev F y = some (.int k' (hi : Int))) (ht : P.underlying t = some (.slice e)) (hs : sizeB P e = some sz) (hle : LeSz C sz c l) (h2 : hi ≤ l) :
    PR P n F C (.slice t x none (some z) (some y)) (.slice p hi hi) := fun _ _ _ _ _ a w ha hC => by
  simp only [execOp, ha.ev hx, Sem.run_bind, Option.map_none, Option.map_some, ha.ev hz, ha.ev hy]
  rw [run_slice3 ht hs p l c hi (Nat.le_trans h2 (hle w hC))]
  rfl
end
end Go.J
/- What one owns may be made to stay: for a call's argument, and for what comes back. -/
set_option linter.unusedSimpArgs false
set_option linter.unusedVariables false
set_option linter.unusedSectionVars false
set_option maxRecDepth 20000
namespace Go.J
open Go
section
variable {P : Program} {m : Mem} {Rs : List Res} {α : Type} [Inhabited α] {f : α → List Value} {sz : Nat}
theorem HW.freeze {w0 w : World} {E : TypeId} {p : Option Addr} {c : Nat} {l : List α} (hf : Fl f sz) (hw : HW w0 m (.own f sz E p c l :: Rs) w) : ∃ m', m.le m' ∧ Sl m' f sz p c l ∧ HW w0 m' Rs w := by
  have k := At.own_freeze (n := 0) (w0 := w0) (F := []) (m := m) (Rs := .own f sz E p c l :: Rs) (K := fun _ w => ∃ m', m.le m' ∧ Sl m' f sz p c l ∧ HW w0 m' Rs w) hf pk0
    (fun m' hm' sl => by
      unfold At
      intro a w1 _ hw1
      exact ⟨m', hm', sl, hw1⟩)
  unfold At at k
  exact k ⟨#[], []⟩ w ⟨rfl, rfl, fun _ _ h => by cases h⟩ hw
theorem Ct.freezeG {g : FuncId} {args : Array Value} {E : TypeId} {p : Option Addr} {c : Nat} {l : List α} {R : Value → Mem → List Res → Prop} (hf : Fl f sz) (h : ∀ m', m.le m' → Sl m' f sz p c l → Ct P g args m' Rs R) :
    Ct P g args m (.own f sz E p c l :: Rs) R := by
  unfold Ct at h ⊢
  intro w0 Rest w hw
  obtain ⟨m', hm', sl, hw'⟩ := HW.freeze hf hw
  exact (h m' hm' sl w0 Rest w hw').mono fun _ _ ⟨v, m2, B, h1, h2, h3, h4⟩ => ⟨v, m2, B, h1, Mem.le_trans hm' h2, h3, h4⟩
theorem Ct.slice {g : FuncId} {args : Array Value} {A B0 : List Res} {E : TypeId} {l : List α} {R : Value → Option Addr → Nat → Prop} (hf : Fl f sz) (h : Ct P g args m A (fun v m' B => ∃ p c, R v p c ∧ B = .own f sz E p c l :: B0)) :
    Ct P g args m A (fun v m' B => B = B0 ∧ ∃ p c, R v p c ∧ Sl m' f sz p c l) := by
  unfold Ct at h ⊢
  intro w0 Rest w hw
  refine (h w0 Rest w hw).mono fun _ _ ⟨v, m2, B, h1, h2, ⟨p, c, h3, hB⟩, h4⟩ => ?_
  subst hB
  obtain ⟨m3, hm3, sl, hw3⟩ := HW.freeze hf h4
  exact ⟨v, m3, B0, h1, Mem.le_trans h2 hm3, ⟨rfl, p, c, h3, sl⟩, hw3⟩
/-- a slice's literal, that stays -/
theorem At.litF {n : Nat} {w0 : World} {F : Fr} {Q : Exit → Act → World → Prop} {ops : Array Oper} {rest : List Oper} {d : Nat} {t E : TypeId} {len : Nat} {xs : List (Nat × Operand)} {ps : List (Nat × Value)} {ty : TypeId} {pos : String} {aft : Array Edge}
    (f : α → List Value) (l : List α) (hf : Fl f sz) (ht : P.underlying t = some (.slice E)) (he : elemB P E sz = true) (hx : evps F xs = some ps) (hsm : Nat.ble (len * sz) 16777216 = true) (hl : l.length = len)
    (hb : litL P E sz len ps = flat (l.flatMap f)) (hd : Nat.blt d n = true)
    (h : ∀ b m', m.le m' → Sl m' f sz (some ⟨b, 0, none⟩) len l → At n w0 ((d, .slice (some ⟨b, 0, none⟩) len len) :: F) m' Rs (wpList P ops Q rest)) :
    At n w0 F m Rs (wpList P ops Q (⟨some d, .buildSlice t len xs.toArray, ty, pos, aft, none⟩ :: rest)) :=
  At.lit f l hf ht he hx hsm hl hb hd (fun b => At.own_freeze hf pk0 fun m' hm' sl => h b m' hm' sl)
end
end Go.J
/- A slice beside nil; what is cleared. -/
set_option linter.unusedSimpArgs false
set_option linter.unusedVariables false
set_option linter.unusedSectionVars false
set_option maxRecDepth 20000
namespace Go.J
open Go
section
variable {P : Program} {n : Nat} {F : Fr} {C : World → Prop}
theorem run_equal_slnil {t e : TypeId} {p : Option Addr} {l c l2 c2 : Nat} (ht : P.underlying t = some (.slice e)) (w : World) : (Op.equal t (.slice p l c) (.slice none l2 c2)).run P w = .ok p.isNone w := by
  simp [Op.equal, Op.maxDepth, Lib.run_equalIn_slice_nil w 9999 t e p l c l2 c2 ht]
theorem pr_sleql {x y : Operand} {p : Option Addr} {l c l2 c2 : Nat} {t u e : TypeId} (ht : P.underlying t = some (.slice e)) (hx : ev F x = some (.slice p l c)) (hy : ev F y = some (.slice none l2 c2)) : PR P n F C (.binOp .eql t x y u) (.bool p.isNone) :=
  pr_eql_of hx hy (fun _ => rfl) (by cases p <;> rfl) (fun w _ => run_equal_slnil ht w)
theorem pr_slneq {x y : Operand} {p : Option Addr} {l c l2 c2 : Nat} {t u e : TypeId} (ht : P.underlying t = some (.slice e)) (hx : ev F x = some (.slice p l c)) (hy : ev F y = some (.slice none l2 c2)) : PR P n F C (.binOp .neq t x y u) (.bool !p.isNone) :=
  pr_neq_of hx hy (fun _ => rfl) (by cases p <;> rfl) (fun w _ => run_equal_slnil ht w)
def zeroOneB (P : Program) (e : TypeId) : Bool := match P.info? e with
  | some i => match i.zero with
    | some z => z.cells.toList.all oneCell
    | none => false
  | none => false
end
section
variable {P : Program} {n : Nat} {w0 : World} {F : Fr} {m : Mem} {Rs : List Res} {Q : Exit → Act → World → Prop} {α : Type} [Inhabited α] {f : α → List Value} {sz : Nat} {E : TypeId} {p : Option Addr} {c : Nat} {l : List α} {Rs' : List Res}
theorem pr_slice_own {x z : Operand} {t : TypeId} {ln hi : Nat} {k : IntKind} (hx : ev F x = some (.slice p ln c)) (hz : ev F z = some (.int k (hi : Int))) (hp : Pick Rs (.own f sz E p c l) Rs') (hl : l.length = hi) (ht : P.underlying t = some (.slice E)) (hs : sizeB P E = some sz) :
    PR P n F (HW w0 m Rs) (.slice t x none (some z) none) (.slice (subp p c 0 sz) (hi - 0) (c - 0)) := by
  subst hl
  exact fun d ty pos aft g a w ha hC => pr_slice_h hx hz ht hs (own_le hp w hC) d ty pos aft g a w ha hC
theorem zeroCells_one {z : Array Value} (h : z.toList.all oneCell = true) (k : Nat) : ∀ v ∈ (Builtin.zeroCells z k).toList, v.oneCell' = true := fun v hv => by
  simp only [Builtin.zeroCells, Array.toList_map, Array.toList_range, List.mem_map, List.mem_range] at hv
  obtain ⟨i, hi, rfl⟩ := hv
  have hz : 0 < z.size := by
    rcases Nat.eq_zero_or_pos z.size with e | e
    · rw [e] at hi; simp at hi
    · exact e
  have hm := Nat.mod_lt i hz
  have := List.all_eq_true.1 h z[i % z.size]! (by
    rw [getElem!_pos z _ hm]
    exact Array.getElem_mem_toList hm)
  generalize z[i % z.size]! = u at this
  cases u <;> first | rfl | (simp [oneCell] at this)
/-- the end of what one owns is cleared: the rest stays -/
theorem At.clearW {ops : Array Oper} {rest : List Oper} {d : Option Nat} {x : Operand} {t : TypeId} {ty : TypeId} {pos : String} {aft : Array Edge} {ln c2 : Nat} {q : Option Addr}
    (lo : Nat) (hx : ev F x = some (.slice q ln c2)) (hp : Pick Rs (.own f sz E p c l) Rs') (hq : q = subp p c lo sz) (hf : Fl f sz) (ht : P.underlying t = some (.slice E)) (he : elemB P E sz = true) (hz1 : zeroOneB P E = true) (hlo : lo ≤ l.length) (hln : ln = l.length - lo) (hd : d = none)
    (h : At n w0 F m (.own f sz E p c (l.take lo) :: Rs') (wpList P ops Q rest)) :
    At n w0 F m Rs (wpList P ops Q (⟨d, .call ⟨.builtin .clear, #[x], #[t]⟩, ty, pos, aft, none⟩ :: rest)) := fun a w ha hw =>
  wpList_plain rfl fun K hK => by
    subst hln hd hq
    obtain ⟨i, z, hi, hz, hsz, hbt, hzs⟩ := elemB_spec he
    have hone : z.cells.toList.all oneCell = true := by
      unfold zeroOneB at hz1; rw [hi] at hz1; simp only [hz] at hz1; exact hz1
    have hrow : ∀ s, (Res.own f sz E p c l).p w s → ∃ w', (Builtin.clear_ #[t] ty #[.slice (subp p c lo sz) (l.length - lo) c2]).run P w = .ok (.tuple #[]) w' ∧ (Res.own f sz E p c (l.take lo)).p w' s ∧ w'.os = w.os ∧ w'.tape = w.tape ∧ w'.output = w.output ∧ w.heap.size ≤ w'.heap.size ∧ (∀ k, k < w.heap.size → ¬ s k → w'.heap[k]? = w.heap[k]?) := fun s hown => by
      by_cases hz0 : l.length - lo = 0
      · have hl : l.take lo = l := List.take_of_length_le (by omega)
        rw [hz0, hl]
        refine ⟨w, ?_, hown, rfl, rfl, rfl, Nat.le_refl _, fun _ _ _ => rfl⟩
        cases subp p c lo sz <;> simp [Builtin.clear_, run_underlying ht]
      · rcases hown with ⟨rfl, rfl, rfl, hno⟩ | ⟨g, o, cur, rfl, h4, h5, h6, h7, h8, hgs⟩
        · simp at hz0
        · have hne : c ≠ lo := by omega
          have hsub : subp (some ⟨g, o, none⟩) c lo sz = some ⟨g, o + lo * sz, none⟩ := by unfold subp; rw [if_neg hne]; simp [Addr.add_eq]
          rw [hsub]
          have hlen : (Builtin.zeroCells z.cells (l.length - lo)).toList.length = (l.length - lo) * sz := by rw [Array.length_toList, size_zeroCells, hzs]
          have hcs : l.length * sz ≤ c * sz := Nat.mul_le_mul_right _ h5
          have hsp : (l.length - lo) * sz + lo * sz = l.length * sz := by rw [← Nat.add_mul]; congr 1; omega
          have hst := run_storeCells_at P g (o + lo * sz) E (Builtin.zeroCells z.cells (l.length - lo)).toList 0 cur w h4 (by omega) (zeroCells_one hone _)
          simp only [Nat.add_zero] at hst
          refine ⟨w.setRow g (cur.toList.take (o + lo * sz) ++ (Builtin.zeroCells z.cells (l.length - lo)).toList ++ cur.toList.drop (o + lo * sz + (Builtin.zeroCells z.cells (l.length - lo)).toList.length)).toArray, ?_, .inr ⟨g, o, (cur.toList.take (o + lo * sz) ++ (Builtin.zeroCells z.cells (l.length - lo)).toList ++ cur.toList.drop (o + lo * sz + (Builtin.zeroCells z.cells (l.length - lo)).toList.length)).toArray, rfl, setRow_heap w g cur _ E _ h4, by simp only [List.length_take]; omega, h6, ?_, fun j hj => ?_, hgs⟩, rfl, rfl, rfl, by simp, fun i _ hi => setRow_other w g i _ (fun e => hi ((hgs i).2 e))⟩
          · obtain ⟨k, hk⟩ : ∃ k, l.length - lo = k + 1 := ⟨l.length - lo - 1, by omega⟩
            have hzv : ∀ w, (zeroValue E).run P w = .ok z w := fun w => by simp [zeroValue, typeInfo, hi, hz]
            rw [hk] at hst ⊢
            simp [Builtin.clear_, run_underlying ht, hzv, hst]
          · simp only [List.size_toArray, List.length_append, List.length_take, List.length_drop, Array.length_toList, size_zeroCells, hzs]
            omega
          · have hj2 : j < lo * sz := by rw [List.length_take] at hj; exact Nat.lt_of_lt_of_le hj (Nat.mul_le_mul_right _ (Nat.min_le_left _ _))
            have hll : lo * sz ≤ l.length * sz := Nat.mul_le_mul_right _ hlo
            rw [List.getElem?_toArray, List.append_assoc, List.getElem?_append_left (by simp only [List.length_take, Array.length_toList]; omega), List.getElem?_take, if_pos (by omega), Array.getElem?_toList, h8 j (by omega)]
            have e : l.flatMap f = (l.take lo).flatMap f ++ (l.drop lo).flatMap f := by rw [← List.flatMap_append, List.take_append_drop]
            rw [e, List.getElem?_append_left (by rw [flatMap_length hf.len]; exact hj)]
    obtain ⟨s0, hown⟩ := hw.get hp
    obtain ⟨w', hr', _⟩ := hrow s0 hown
    have hrun' : (execOp a.eval ⟨none, .call ⟨.builtin .clear, #[x], #[t]⟩, ty, pos, aft, none⟩).run P w = .ok (.value (.tuple #[])) w' := by
      rw [BigFrame.execOp_builtin]
      simp [BigFrame.builtin_clear, ha.ev hx, hr']
    unfold Oper.wp
    rw [hrun']
    refine hK _ _ (h _ _ ha (hw.turn hp fun s hs => ?_))
    obtain ⟨w2, hr2, h2, g1, g2, g3, g4, g5⟩ := hrow s hs
    rw [hr'] at hr2
    injection hr2 with _ e2
    subst e2
    exact ⟨s, h2, g1, g2, g3, g4, g5, fun k hk => .inl hk⟩
end
end Go.J
/- The order of texts. -/
set_option linter.unusedSimpArgs false
set_option linter.unusedVariables false
set_option linter.unusedSectionVars false
set_option maxRecDepth 20000
namespace Go.J
open Go
abbrev ltB : List UInt8 → List UInt8 → Bool := Op.bytesLess
theorem u8_lt_irrefl (a : UInt8) : ¬ a < a := by rw [UInt8.lt_iff_toNat_lt]; omega
theorem u8_lt_trans {a b c : UInt8} (h : a < b) (k : b < c) : a < c := by rw [UInt8.lt_iff_toNat_lt] at *; omega
theorem u8_tri (a b : UInt8) : a < b ∨ a = b ∨ b < a := by
  rw [UInt8.lt_iff_toNat_lt, UInt8.lt_iff_toNat_lt]
  rcases Nat.lt_trichotomy a.toNat b.toNat with h | h | h
  · exact .inl h
  · exact .inr (.inl (UInt8.toNat_inj.1 h))
  · exact .inr (.inr h)
theorem ltB_cons (a b : UInt8) (x y : List UInt8) : ltB (a :: x) (b :: y) = true ↔ a < b ∨ (a = b ∧ ltB x y = true) := by
  simp [ltB, Op.bytesLess]
theorem ltB_nil (x : List UInt8) : ltB x [] = false := by cases x <;> rfl
theorem ltB_nil_cons (b : UInt8) (y : List UInt8) : ltB [] (b :: y) = true := rfl
theorem ltB_irrefl : ∀ x : List UInt8, ltB x x = false
  | [] => rfl
  | a :: x => by
    have := ltB_irrefl x
    cases h : ltB (a :: x) (a :: x) with
    | false => rfl
    | true => rcases (ltB_cons a a x x).1 h with h | ⟨_, h⟩
              · exact absurd h (u8_lt_irrefl a)
              · rw [this] at h; cases h
theorem ltB_trans : ∀ {x y z : List UInt8}, ltB x y = true → ltB y z = true → ltB x z = true
  | x, [], _, h, _ => by rw [ltB_nil] at h; cases h
  | _, _ :: _, [], _, k => by rw [ltB_nil] at k; cases k
  | [], _ :: _, _ :: _, _, _ => rfl
  | a :: x, b :: y, c :: z, h, k => by
    rw [ltB_cons] at h k ⊢
    rcases h with h | ⟨rfl, h⟩
    · rcases k with k | ⟨rfl, k⟩
      · exact .inl (u8_lt_trans h k)
      · exact .inl h
    · rcases k with k | ⟨rfl, k⟩
      · exact .inl k
      · exact .inr ⟨rfl, ltB_trans h k⟩
theorem ltB_tri : ∀ x y : List UInt8, ltB x y = true ∨ x = y ∨ ltB y x = true
  | [], [] => .inr (.inl rfl)
  | [], _ :: _ => .inl rfl
  | _ :: _, [] => .inr (.inr rfl)
  | a :: x, b :: y => by
    rw [ltB_cons, ltB_cons]
    rcases u8_tri a b with h | rfl | h
    · exact .inl (.inl h)
    · rcases ltB_tri x y with h | rfl | h
      · exact .inl (.inr ⟨rfl, h⟩)
      · exact .inr (.inl rfl)
      · exact .inr (.inr (.inr ⟨rfl, h⟩))
    · exact .inr (.inr (.inl h))
theorem ltB_asymm {x y : List UInt8} (h : ltB x y = true) : ltB y x = false := by
  cases k : ltB y x with
  | false => rfl
  | true => have := ltB_trans h k; rw [ltB_irrefl] at this; cases this
theorem ltB_ne {x y : List UInt8} (h : ltB x y = true) : x ≠ y := fun e => by subst e; rw [ltB_irrefl] at h; cases h
theorem gtB (x y : List UInt8) : (!(ltB x y || x == y)) = ltB y x := by
  rcases ltB_tri x y with h | rfl | h
  · rw [h, ltB_asymm h]; rfl
  · rw [ltB_irrefl]; simp
  · rw [h, ltB_asymm h]
    have : (x == y) = false := by simpa using (ltB_ne h).symm
    rw [this]; rfl
/-- what begins so does not come ahead of it -/
theorem pre_not_lt : ∀ {f s : List UInt8}, f <+: s → ltB s f = false
  | [], s, _ => ltB_nil s
  | a :: f, [], h => by cases (List.prefix_nil.1 h)
  | a :: f, b :: s, h => by
    rw [List.cons_prefix_cons] at h
    obtain ⟨rfl, h⟩ := h
    have ih := pre_not_lt h
    cases k : ltB (a :: s) (a :: f) with
    | false => rfl
    | true => rcases (ltB_cons a a s f).1 k with k | ⟨_, k⟩
              · exact absurd k (u8_lt_irrefl a)
              · rw [ih] at k; cases k
/-- where one begins so no more, none behind it does -/
theorem pre_gone : ∀ {f s t : List UInt8}, ltB s f = false → ¬ f <+: s → ltB s t = true → ¬ f <+: t
  | [], s, _, _, h, _ => absurd (List.nil_prefix) h
  | a :: f, [], _, h, _, _ => by cases h
  | a :: f, b :: s, [], _, _, h => by rw [ltB_nil] at h; cases h
  | a :: f, b :: s, c :: t, h1, h2, h3 => fun h4 => by
    rw [List.cons_prefix_cons] at h2 h4
    obtain ⟨rfl, h4⟩ := h4
    have h1' : ¬ (b < a ∨ (b = a ∧ ltB s f = true)) := fun e => by rw [(ltB_cons b a s f).2 e] at h1; cases h1
    rcases (ltB_cons b a s t).1 h3 with k3 | ⟨rfl, k3⟩
    · exact h1' (.inl k3)
    · refine pre_gone (f := f) (s := s) (t := t) ?_ (fun e => h2 ⟨rfl, e⟩) k3 h4
      cases k : ltB s f with
      | false => rfl
      | true => exact absurd (.inr ⟨rfl, k⟩) h1'
section
variable {P : Program} {n : Nat} {F : Fr} {C : World → Prop} {x y : Operand} {p q : List UInt8} {t u : TypeId} {r : Bool}
theorem run_strcmp (op : BinOp) (hop : op = .lss ∨ op = .leq ∨ op = .gtr ∨ op = .geq) {v : Bool} (hx : ev F x = some (.string (str p))) (hy : ev F y = some (.string (str q)))
    (hv : (Op.stringOp op (str p) (str q)) = pure (.bool v)) : PR P n F C (.binOp op t x y u) (.bool v) := fun _ _ _ _ _ a w ha _ => by
  have hg : ∀ w, (eqGuard op t x y (.string (str p)) (.string (str q))).run P w = .ok () w := fun w => by rcases hop with rfl | rfl | rfl | rfl <;> rfl
  have hb : binOp op t (.string (str p)) (.string (str q)) = Op.stringOp op (str p) (str q) := by rcases hop with rfl | rfl | rfl | rfl <;> rfl
  simp only [execOp, ha.ev hx, ha.ev hy, hb, Sem.run_bind, hg, Result.andThen]
  rw [hv]
  rfl
theorem pr_strlss (hx : ev F x = some (.string (str p))) (hy : ev F y = some (.string (str q))) (h : ltB p q = r) : PR P n F C (.binOp .lss t x y u) (.bool r) :=
  run_strcmp .lss (.inl rfl) hx hy (by subst h; simp [Op.stringOp, str])
theorem pr_strgtr (hx : ev F x = some (.string (str p))) (hy : ev F y = some (.string (str q))) (h : ltB q p = r) : PR P n F C (.binOp .gtr t x y u) (.bool r) :=
  run_strcmp .gtr (.inr (.inr (.inl rfl))) hx hy (by subst h; rw [← gtB]; simp [Op.stringOp, str])
theorem pr_strleq (hx : ev F x = some (.string (str p))) (hy : ev F y = some (.string (str q))) (h : ltB q p = r) : PR P n F C (.binOp .leq t x y u) (.bool (!r)) :=
  run_strcmp .leq (.inr (.inl rfl)) hx hy (by subst h; rw [← gtB, Bool.not_not]; simp [Op.stringOp, str])
theorem pr_strgeq (hx : ev F x = some (.string (str p))) (hy : ev F y = some (.string (str q))) (h : ltB p q = r) : PR P n F C (.binOp .geq t x y u) (.bool (!r)) :=
  run_strcmp .geq (.inr (.inr (.inr rfl))) hx hy (by subst h; simp [Op.stringOp, str])
end
end Go.J
/- Places where the two ways of a condition of more parts meet (an 'and', an 'or'). -/
set_option linter.unusedSimpArgs false
set_option linter.unusedVariables false
set_option linter.unusedSectionVars false
set_option maxRecDepth 20000
namespace Go.J
open Go
/-- a region's end alone -/
def Fin (K : Act → World → Prop) : Exit → Act → World → Prop := fun e a w => e = .normal ∧ K a w
/-- a condition's value is known, and nothing else of the way to it -/
def JoinB (n : Nat) (w0 : World) (p : Prop) (t : Nat) (F0 : Fr) (m : Mem) (Rs : List Res) : Act → World → Prop := fun a w => ∃ b : Bool, (b = true ↔ p) ∧ HF n ((t, .bool b) :: F0) a ∧ HW w0 m Rs w
section
variable {P : Program} {n : Nat} {w0 : World} {F : Fr} {m : Mem} {Rs : List Res} {Q : Exit → Act → World → Prop} {K : Act → World → Prop}
theorem At.fin_n (h : At n w0 F m Rs K) : At n w0 F m Rs (Fin K .normal) := fun a w ha hw => ⟨rfl, h a w ha hw⟩
theorem At.cutp {id : Nat} {ops : Array Oper} {dr : Bool} {F0 : Fr} (p : Prop) [Decidable p] (t : Nat) (L : List Nat) (e0 : keepL L F = some F0)
    (hx : At n w0 F m Rs ((Code.region id ops dr).wp P (Fin (JoinB n w0 p t F0 m Rs))))
    (hy : At n w0 ((t, .bool (decide p)) :: F0) m Rs K) : At n w0 F m Rs ((Code.region id ops dr).wp P (Exit.then K Q)) := by
  have _ := e0
  refine fun a w ha hw => Code.wp_mono (fun e a' w' q => ?_) (hx a w ha hw)
  obtain ⟨rfl, b, hb, h1, h2⟩ := q
  have : b = decide p := by
    by_cases h : p
    · rw [decide_eq_true h]; exact hb.2 h
    · rw [decide_eq_false h]; cases b
      · rfl
      · exact absurd (hb.1 rfl) h
  subst this
  exact hy a' w' h1 h2
/-- where the ways of a region meet -/
theorem At.cutr {id : Nat} {ops : Array Oper} {dr : Bool} {σ : Type} {F0 : Fr} (L : List Nat) (upd : σ → Fr → Fr) (mx : σ → Mem) (Rx : σ → List Res) (I : σ → Prop) (e0 : keepL L F = some F0)
    (hx : At n w0 F m Rs ((Code.region id ops dr).wp P (Fin (fun a w => ∃ s, I s ∧ HF n (upd s F0) a ∧ HW w0 (mx s) (Rx s) w))))
    (hy : ∀ s, I s → At n w0 (upd s F0) (mx s) (Rx s) K) : At n w0 F m Rs ((Code.region id ops dr).wp P (Exit.then K Q)) := by
  have _ := e0
  refine fun a w ha hw => Code.wp_mono (fun e a' w' q => ?_) (hx a w ha hw)
  obtain ⟨rfl, s, hI, h1, h2⟩ := q
  exact hy s hI a' w' h1 h2
theorem At.endp {p : Prop} {t : Nat} {F0 : Fr} {m0 : Mem} {Rs0 : List Res} {b : Bool} (ht : look t F = some (.bool b)) (hs : Subs F0 F) (hm : m0.le m) (hR : Ent Rs Rs0) (hp : b = true ↔ p) : At n w0 F m Rs (JoinB n w0 p t F0 m0 Rs0) :=
  fun a w ha hw => ⟨b, hp, (ha.weaken (F' := (t, .bool b) :: F0) ⟨ht, hs⟩), (hw.ent hR).weak hm⟩
end
end Go.J
/- The walk's steps under short names: what closes of itself is filled in by default. -/
set_option linter.unusedSimpArgs false
set_option linter.unusedVariables false
set_option linter.unusedSectionVars false
set_option maxRecDepth 20000
namespace Go.J
open Go
theorem zhcs : (∀ (p : Prop) [Decidable p], (decide p = true) = p) ∧ (∀ (p : Prop) [Decidable p], (decide p = false) = ¬ p) ∧ (∀ b : Bool, ((!b) = true) = (b = false)) ∧ (∀ b : Bool, ((!b) = false) = (b = true)) ∧
    (∀ a b : Bool, ((a && b) = true) = (a = true ∧ b = true)) ∧ (∀ a b : Bool, ((a || b) = true) = (a = true ∨ b = true)) ∧ (∀ a b : Bool, ((a && b) = false) = (a = false ∨ b = false)) ∧ (∀ a b : Bool, ((a || b) = false) = (a = false ∧ b = false)) ∧
    (∀ a b : Bool, ((a != b) = true) = (a ≠ b)) ∧ (∀ a b : Bool, ((a == b) = true) = (a = b)) ∧ (∀ a b : Bool, ((a == b) = false) = (a ≠ b)) ∧ (∀ a b : Bool, ((a != b) = false) = (a = b)) ∧
    ((!true) = false) ∧ ((!false) = true) ∧ (∀ p : Prop, (¬ ¬ p) = p) ∧ ((¬ True) = False) ∧ ((¬ False) = True) ∧ ((false = true) = False) ∧ ((true = false) = False) ∧
    ((none : Option Addr).isNone = true) ∧ (∀ x : Addr, (some x).isNone = false) ∧ (∀ b : Bool, (b && true) = b) ∧ (∀ p : Prop, (p ∧ True) = p) ∧ (∀ (a : Bool) (l : List Bool), andL (a :: l) = (a && andL l)) ∧ (andL [] = true) :=
  ⟨fun _ _ => decide_eq_true_eq, fun _ _ => by simp, by decide, by decide, by decide, by decide, by decide, by decide, by decide, by decide, by decide, by decide, rfl, rfl, fun p => by rw [Classical.not_not], by simp, by simp, by simp, by simp, rfl, fun _ => rfl, by decide, fun p => by simp, fun _ _ => andL_cons .., andL_nil⟩
theorem zrf {α : Type} {a b : α} (h : a = b := by first | rfl | fail) : a = b := h
theorem zom {p : Prop} (h : p := by first | omega | (simp only [lns] <;> omega) | fail) : p := h
theorem zomb {p : Prop} (h : p := by first | omega | (simp only [IntKind.bits] <;> omega) | fail) : p := h
theorem zlq {p : Prop} (h : p := by first | exact rfl | omega | (simp only [lns] <;> omega) | fail) : p := h
theorem zinr {p : Prop} (h : p := by first | exact IntWalk.i64_in _ (by omega) | exact IntWalk.u64_in _ (by omega) | exact IntWalk.u8_in _ (by omega) | exact IntWalk.u32_in _ (by omega) | exact IntKind.wrap_u64 _ | exact IntKind.wrap_i64 _ | exact IntKind.wrap_u32 _ | exact IntKind.wrap_u8 _ | fail) : p := h
theorem ztk {A R Y : List Res} (h : Take A R Y := by (repeat' (first | exact Take.nil | ((with_reducible apply Take.cons); (focus ((repeat constructor); done)))))) : Take A R Y := h
theorem zkp {A R Y : List Res} (h : Keep A R Y := by (repeat' (first | exact Keep.nil | ((with_reducible apply Keep.cons); exact (by repeat constructor)) | (with_reducible apply Keep.skip)))) : Keep A R Y := h
theorem zlw {A R : List Res} (h : Low A R := by (repeat' (first | exact Low.base | ((with_reducible apply Low.cons); exact (by repeat constructor)) | (with_reducible apply Low.skip)))) : Low A R := h
theorem zlf {A R Y : List Res} (h : Left A R Y := by (repeat' (first | exact Left.base | ((with_reducible apply Left.cons); exact (by repeat constructor)) | (with_reducible apply Left.extra)))) : Left A R Y := h
theorem zml {m m' : Mem} (h : m.le m' := by first | exact Mem.le_refl _ | assumption | exact Mem.le_trans (by assumption) (by assumption) | (focus ((iterate 16 (first | done | assumption | refine Mem.le_trans ?_ (by assumption))); done)) | fail) : m.le m' := h
theorem zsubs {A B : Fr} (h : Subs A B := by first | exact trivial | (repeat' (first | exact trivial | refine ⟨rfl, ?_⟩ | refine ⟨look_int (by rfl) (by first | omega | (dsimp only; omega)), ?_⟩))) : Subs A B := h
theorem zente {A B : List Res} (h : Ent A B := by first | exact Ent.refl _ | (refine Low.ent ?_; exact zlw) | fail) : Ent A B := h
section
variable {α : Type} [Inhabited α] {f : α → List Value} {sz : Nat} {p : Option Addr} {c : Nat} {l : List α} {P : Program} {n : Nat} {F : Fr} {C : World → Prop} {op : Op} {v : Value} {m : Mem}
theorem zsla (h : Sl m f sz p c l := by first | assumption | exact Sl.mono (by assumption) (by assumption) | fail) : Sl m f sz p c l := h
theorem zrdb (h : Rdb C f sz p c l := by first | exact own_rdb inferInstance (by repeat constructor) | exact Sl.rdb zsla | fail) : Rdb C f sz p c l := h
theorem zpr0 (h : PR P n F C op v := by first | ((with_reducible first | apply pr_move | apply pr_assign | apply pr_extract | apply pr_nilCheck | apply pr_lss | apply pr_leq | apply pr_gtr | apply pr_geq | apply pr_eql | apply pr_neq | apply pr_not | apply pr_pick_t | apply pr_len_sl | apply pr_fieldAddr0 | apply pr_build | apply pr_field1 | apply pr_makeFunc | apply pr_and | apply pr_or | apply pr_xor | apply pr_andnot | apply pr_min | apply pr_max) <;> exact rfl) | ((with_reducible first | apply pr_pick_f | apply pr_beql | apply pr_bneq | apply pr_len_str | apply pr_fieldAddrL | apply pr_fieldN) <;> exact rfl) | ((with_reducible first | apply pr_peql | apply pr_pneq | apply pr_fieldAddr_at2) <;> exact rfl) | ((with_reducible first | apply pr_streq | apply pr_strne | apply pr_fieldAddr_at) <;> exact rfl) | ((with_reducible first | apply pr_add | apply pr_sub | apply pr_mul); exact rfl; exact rfl; (first | exact IntWalk.i64_in _ (by omega) | exact IntWalk.u64_in _ (by omega) | exact IntWalk.u8_in _ (by omega) | exact IntWalk.u32_in _ (by omega) | exact IntKind.wrap_u64 _ | exact IntKind.wrap_i64 _ | exact IntKind.wrap_u32 _ | exact IntKind.wrap_u8 _)) | ((with_reducible apply pr_quo); exact rfl; exact rfl; omega; (first | exact IntWalk.i64_quo _ _ (by omega) | exact IntWalk.u64_quo _ _ (by omega))) | ((with_reducible apply pr_rem); exact rfl; exact rfl; omega; exact IntWalk.rem_in _ _ (by omega)) | ((with_reducible apply pr_conv); exact ⟨_, rfl⟩; exact rfl; exact rfl; (first | exact IntWalk.i64_in _ (by omega) | exact IntWalk.u64_in _ (by omega) | exact IntWalk.u8_in _ (by omega) | exact IntWalk.u32_in _ (by omega) | exact IntKind.wrap_u64 _ | exact IntKind.wrap_i64 _ | exact IntKind.wrap_u32 _ | exact IntKind.wrap_u8 _)) | ((with_reducible apply pr_load_blk1); exact rfl; exact rfl; exact (by repeat constructor); exact rfl) | ((with_reducible apply pr_load_blkN); exact rfl; exact rfl; exact rfl; exact (by repeat constructor); exact rfl) | ((with_reducible first | apply pr_aggeq2 | apply pr_aggne2); exact rfl; exact rfl; exact rfl; kernel_rfl; kernel_rfl; exact rfl) | ((with_reducible first | apply pr_strindexn | apply pr_str_ln | apply pr_str_hn); exact rfl; exact rfl; exact rfl; (first | omega | (simp only [lns] <;> omega))) | ((with_reducible apply pr_str_lhn); exact rfl; exact rfl; exact rfl; exact rfl; (first | omega | (simp only [lns] <;> omega)); (first | omega | (simp only [lns] <;> omega))) | ((with_reducible first | apply pr_strindex | apply pr_str_l | apply pr_str_h); exact rfl; exact rfl; exact rfl; (first | omega | (simp only [lns] <;> omega)); (first | omega | (simp only [lns] <;> omega))) | ((with_reducible apply pr_str_lh); exact rfl; exact rfl; exact rfl; exact rfl; (first | omega | (simp only [lns] <;> omega)); (first | omega | (simp only [lns] <;> omega)); (first | omega | (simp only [lns] <;> omega))) | ((with_reducible apply pr_stradd); exact rfl; exact rfl; (first | omega | (simp only [lns] <;> omega))) | ((with_reducible apply pr_neg); exact rfl; (first | exact IntWalk.i64_in _ (by omega) | exact IntWalk.u64_in _ (by omega) | exact IntWalk.u8_in _ (by omega) | exact IntWalk.u32_in _ (by omega) | exact IntKind.wrap_u64 _ | exact IntKind.wrap_i64 _ | exact IntKind.wrap_u32 _ | exact IntKind.wrap_u8 _)) | ((with_reducible apply pr_shrv); exact rfl; exact rfl; (first | omega | (simp only [IntKind.bits] <;> omega)); (first | omega | (simp only [IntKind.bits] <;> omega)); ((try simp only [Int.reduceToNat, Int.reducePow, Nat.reducePow]); exact rfl)) | ((with_reducible apply pr_shlv); exact rfl; exact rfl; (first | omega | (simp only [IntKind.bits] <;> omega)); (first | omega | (simp only [IntKind.bits] <;> omega)); ((try simp only [Int.reduceToNat, Int.reducePow]); (first | exact IntWalk.i64_in _ (by omega) | exact IntWalk.u64_in _ (by omega) | exact IntWalk.u8_in _ (by omega) | exact IntWalk.u32_in _ (by omega) | exact IntKind.wrap_u64 _ | exact IntKind.wrap_i64 _ | exact IntKind.wrap_u32 _ | exact IntKind.wrap_u8 _))) | fail) : PR P n F C op v := h
theorem zprO (h : PR P n F C op v := by first | ((with_reducible first | apply pr_move | apply pr_assign | apply pr_extract | apply pr_nilCheck | apply pr_lss | apply pr_leq | apply pr_gtr | apply pr_geq | apply pr_eql | apply pr_neq | apply pr_not | apply pr_pick_t | apply pr_len_sl | apply pr_fieldAddr0 | apply pr_build | apply pr_field1 | apply pr_makeFunc | apply pr_and | apply pr_or | apply pr_xor | apply pr_andnot | apply pr_minI | apply pr_maxI) <;> exact rfl) | ((with_reducible first | apply pr_pick_f | apply pr_beql | apply pr_bneq | apply pr_len_str | apply pr_fieldAddrL | apply pr_fieldN) <;> exact rfl) | ((with_reducible first | apply pr_peql | apply pr_pneq | apply pr_fieldAddr_at2) <;> exact rfl) | ((with_reducible first | apply pr_streq | apply pr_strne | apply pr_fieldAddr_at) <;> exact rfl) | ((with_reducible first | apply pr_add | apply pr_sub | apply pr_mul); exact rfl; exact rfl; (first | exact IntWalk.i64_in _ (by omega) | exact IntWalk.u64_in _ (by omega) | exact IntWalk.u8_in _ (by omega) | exact IntWalk.u32_in _ (by omega) | exact IntKind.wrap_u64 _ | exact IntKind.wrap_i64 _ | exact IntKind.wrap_u32 _ | exact IntKind.wrap_u8 _)) | ((with_reducible apply pr_quo); exact rfl; exact rfl; omega; (first | exact IntWalk.i64_quo _ _ (by omega) | exact IntWalk.u64_quo _ _ (by omega))) | ((with_reducible apply pr_rem); exact rfl; exact rfl; omega; exact IntWalk.rem_in _ _ (by omega)) | ((with_reducible apply pr_conv); exact ⟨_, rfl⟩; exact rfl; exact rfl; (first | exact IntWalk.i64_in _ (by omega) | exact IntWalk.u64_in _ (by omega) | exact IntWalk.u8_in _ (by omega) | exact IntWalk.u32_in _ (by omega) | exact IntKind.wrap_u64 _ | exact IntKind.wrap_i64 _ | exact IntKind.wrap_u32 _ | exact IntKind.wrap_u8 _)) | ((with_reducible apply pr_load_blk1); exact rfl; exact rfl; exact (by repeat constructor); exact rfl) | ((with_reducible apply pr_load_blkN); exact rfl; exact rfl; exact rfl; exact (by repeat constructor); exact rfl) | exact pr_index_own zrf zrf (by repeat constructor) inferInstance zrf zrf zlq zom | exact pr_load_own1 zrf (by repeat constructor) inferInstance zom zrf zrf | exact pr_load_ownN zrf (by repeat constructor) inferInstance zom zrf zrf zrf | exact pr_load_ownf zrf (by repeat constructor) inferInstance zom zrf zrf zrf | exact pr_load_ownfN zrf (by repeat constructor) inferInstance zom zrf zrf zrf zrf | exact pr_index_owni zrf zrf (by repeat constructor) inferInstance zrf zrf zlq zom zom | exact pr_slice_gl zrf zrf (own_le (by repeat constructor)) zrf zrf zom | exact pr_slice_gh zrf zrf (own_le (by repeat constructor)) zrf zrf zom | exact pr_slice_glh zrf zrf zrf (own_le (by repeat constructor)) zrf zrf zom zom | exact pr_slice_gli zrf zrf (own_le (by repeat constructor)) zrf zrf zom zom | exact pr_slice_ghi zrf zrf (own_le (by repeat constructor)) zrf zrf zom zom | exact pr_slice_glhi zrf zrf zrf (own_le (by repeat constructor)) zrf zrf zom zom zom | ((with_reducible first | apply pr_aggeq2 | apply pr_aggne2); exact rfl; exact rfl; exact rfl; kernel_rfl; kernel_rfl; exact rfl) | ((with_reducible first | apply pr_strindexn | apply pr_str_ln | apply pr_str_hn); exact rfl; exact rfl; exact rfl; (first | omega | (simp only [lns] <;> omega))) | ((with_reducible apply pr_str_lhn); exact rfl; exact rfl; exact rfl; exact rfl; (first | omega | (simp only [lns] <;> omega)); (first | omega | (simp only [lns] <;> omega))) | ((with_reducible first | apply pr_strindex | apply pr_str_l | apply pr_str_h); exact rfl; exact rfl; exact rfl; (first | omega | (simp only [lns] <;> omega)); (first | omega | (simp only [lns] <;> omega))) | ((with_reducible apply pr_str_lh); exact rfl; exact rfl; exact rfl; exact rfl; (first | omega | (simp only [lns] <;> omega)); (first | omega | (simp only [lns] <;> omega)); (first | omega | (simp only [lns] <;> omega))) | ((with_reducible apply pr_stradd); exact rfl; exact rfl; (first | omega | (simp only [lns] <;> omega))) | ((with_reducible apply pr_neg); exact rfl; (first | exact IntWalk.i64_in _ (by omega) | exact IntWalk.u64_in _ (by omega) | exact IntWalk.u8_in _ (by omega) | exact IntWalk.u32_in _ (by omega) | exact IntKind.wrap_u64 _ | exact IntKind.wrap_i64 _ | exact IntKind.wrap_u32 _ | exact IntKind.wrap_u8 _)) | ((with_reducible apply pr_shrv); exact rfl; exact rfl; (first | omega | (simp only [IntKind.bits] <;> omega)); (first | omega | (simp only [IntKind.bits] <;> omega)); ((try simp only [Int.reduceToNat, Int.reducePow, Nat.reducePow]); exact rfl)) | ((with_reducible apply pr_shlv); exact rfl; exact rfl; (first | omega | (simp only [IntKind.bits] <;> omega)); (first | omega | (simp only [IntKind.bits] <;> omega)); ((try simp only [Int.reduceToNat, Int.reducePow]); (first | exact IntWalk.i64_in _ (by omega) | exact IntWalk.u64_in _ (by omega) | exact IntWalk.u8_in _ (by omega) | exact IntWalk.u32_in _ (by omega) | exact IntKind.wrap_u64 _ | exact IntKind.wrap_i64 _ | exact IntKind.wrap_u32 _ | exact IntKind.wrap_u8 _))) | exact pr_bytes_str zrf zrf zrf zrf zrdb zlq | fail) : PR P n F C op v := h
theorem zprM (h : PR P n F C op v := by first | ((with_reducible first | apply pr_move | apply pr_assign | apply pr_extract | apply pr_nilCheck | apply pr_lss | apply pr_leq | apply pr_gtr | apply pr_geq | apply pr_eql | apply pr_neq | apply pr_not | apply pr_pick_t | apply pr_len_sl | apply pr_fieldAddr0 | apply pr_build | apply pr_field1 | apply pr_makeFunc | apply pr_and | apply pr_or | apply pr_xor | apply pr_andnot | apply pr_minI | apply pr_maxI) <;> exact rfl) | ((with_reducible first | apply pr_pick_f | apply pr_beql | apply pr_bneq | apply pr_len_str | apply pr_fieldAddrL | apply pr_fieldN) <;> exact rfl) | ((with_reducible first | apply pr_peql | apply pr_pneq | apply pr_fieldAddr_at2) <;> exact rfl) | ((with_reducible first | apply pr_streq | apply pr_strne | apply pr_fieldAddr_at) <;> exact rfl) | ((with_reducible first | apply pr_add | apply pr_sub | apply pr_mul); exact rfl; exact rfl; (first | exact IntWalk.i64_in _ (by omega) | exact IntWalk.u64_in _ (by omega) | exact IntWalk.u8_in _ (by omega) | exact IntWalk.u32_in _ (by omega) | exact IntKind.wrap_u64 _ | exact IntKind.wrap_i64 _ | exact IntKind.wrap_u32 _ | exact IntKind.wrap_u8 _)) | ((with_reducible apply pr_quo); exact rfl; exact rfl; omega; (first | exact IntWalk.i64_quo _ _ (by omega) | exact IntWalk.u64_quo _ _ (by omega))) | ((with_reducible apply pr_rem); exact rfl; exact rfl; omega; exact IntWalk.rem_in _ _ (by omega)) | ((with_reducible apply pr_conv); exact ⟨_, rfl⟩; exact rfl; exact rfl; (first | exact IntWalk.i64_in _ (by omega) | exact IntWalk.u64_in _ (by omega) | exact IntWalk.u8_in _ (by omega) | exact IntWalk.u32_in _ (by omega) | exact IntKind.wrap_u64 _ | exact IntKind.wrap_i64 _ | exact IntKind.wrap_u32 _ | exact IntKind.wrap_u8 _)) | ((with_reducible apply pr_load_blk1); exact rfl; exact rfl; exact (by repeat constructor); exact rfl) | ((with_reducible apply pr_load_blkN); exact rfl; exact rfl; exact rfl; exact (by repeat constructor); exact rfl) | exact pr_index_mem zrf zrf zsla zrf zrf zlq zom | exact pr_index_memi zrf zrf zsla zrf zrf zlq zom zom | exact pr_load_meme1 zrf zsla zom zrf zrf | exact pr_load_memeN zrf zsla zom zrf zrf zrf | exact pr_load_memef zrf zsla zom zrf zrf zrf | exact pr_load_memefN zrf zsla zom zrf zrf zrf zrf | exact pr_slice_gl zrf zrf (mem_le zsla) zrf zrf zom | exact pr_slice_gh zrf zrf (mem_le zsla) zrf zrf zom | exact pr_slice_glh zrf zrf zrf (mem_le zsla) zrf zrf zom zom | exact pr_slice_gli zrf zrf (mem_le zsla) zrf zrf zom zom | exact pr_slice_ghi zrf zrf (mem_le zsla) zrf zrf zom zom | exact pr_slice_glhi zrf zrf zrf (mem_le zsla) zrf zrf zom zom zom | ((with_reducible first | apply pr_aggeq2 | apply pr_aggne2); exact rfl; exact rfl; exact rfl; kernel_rfl; kernel_rfl; exact rfl) | ((with_reducible first | apply pr_strindexn | apply pr_str_ln | apply pr_str_hn); exact rfl; exact rfl; exact rfl; (first | omega | (simp only [lns] <;> omega))) | ((with_reducible apply pr_str_lhn); exact rfl; exact rfl; exact rfl; exact rfl; (first | omega | (simp only [lns] <;> omega)); (first | omega | (simp only [lns] <;> omega))) | ((with_reducible first | apply pr_strindex | apply pr_str_l | apply pr_str_h); exact rfl; exact rfl; exact rfl; (first | omega | (simp only [lns] <;> omega)); (first | omega | (simp only [lns] <;> omega))) | ((with_reducible apply pr_str_lh); exact rfl; exact rfl; exact rfl; exact rfl; (first | omega | (simp only [lns] <;> omega)); (first | omega | (simp only [lns] <;> omega)); (first | omega | (simp only [lns] <;> omega))) | ((with_reducible apply pr_stradd); exact rfl; exact rfl; (first | omega | (simp only [lns] <;> omega))) | ((with_reducible apply pr_neg); exact rfl; (first | exact IntWalk.i64_in _ (by omega) | exact IntWalk.u64_in _ (by omega) | exact IntWalk.u8_in _ (by omega) | exact IntWalk.u32_in _ (by omega) | exact IntKind.wrap_u64 _ | exact IntKind.wrap_i64 _ | exact IntKind.wrap_u32 _ | exact IntKind.wrap_u8 _)) | ((with_reducible apply pr_shrv); exact rfl; exact rfl; (first | omega | (simp only [IntKind.bits] <;> omega)); (first | omega | (simp only [IntKind.bits] <;> omega)); ((try simp only [Int.reduceToNat, Int.reducePow, Nat.reducePow]); exact rfl)) | ((with_reducible apply pr_shlv); exact rfl; exact rfl; (first | omega | (simp only [IntKind.bits] <;> omega)); (first | omega | (simp only [IntKind.bits] <;> omega)); ((try simp only [Int.reduceToNat, Int.reducePow]); (first | exact IntWalk.i64_in _ (by omega) | exact IntWalk.u64_in _ (by omega) | exact IntWalk.u8_in _ (by omega) | exact IntWalk.u32_in _ (by omega) | exact IntKind.wrap_u64 _ | exact IntKind.wrap_i64 _ | exact IntKind.wrap_u32 _ | exact IntKind.wrap_u8 _))) | exact pr_bytes_str zrf zrf zrf zrf zrdb zlq | fail) : PR P n F C op v := h
theorem zprOM (h : PR P n F C op v := by first | ((with_reducible first | apply pr_move | apply pr_assign | apply pr_extract | apply pr_nilCheck | apply pr_lss | apply pr_leq | apply pr_gtr | apply pr_geq | apply pr_eql | apply pr_neq | apply pr_not | apply pr_pick_t | apply pr_len_sl | apply pr_fieldAddr0 | apply pr_build | apply pr_field1 | apply pr_makeFunc | apply pr_and | apply pr_or | apply pr_xor | apply pr_andnot | apply pr_minI | apply pr_maxI) <;> exact rfl) | ((with_reducible first | apply pr_pick_f | apply pr_beql | apply pr_bneq | apply pr_len_str | apply pr_fieldAddrL | apply pr_fieldN) <;> exact rfl) | ((with_reducible first | apply pr_peql | apply pr_pneq | apply pr_fieldAddr_at2) <;> exact rfl) | ((with_reducible first | apply pr_streq | apply pr_strne | apply pr_fieldAddr_at) <;> exact rfl) | ((with_reducible first | apply pr_add | apply pr_sub | apply pr_mul); exact rfl; exact rfl; (first | exact IntWalk.i64_in _ (by omega) | exact IntWalk.u64_in _ (by omega) | exact IntWalk.u8_in _ (by omega) | exact IntWalk.u32_in _ (by omega) | exact IntKind.wrap_u64 _ | exact IntKind.wrap_i64 _ | exact IntKind.wrap_u32 _ | exact IntKind.wrap_u8 _)) | ((with_reducible apply pr_quo); exact rfl; exact rfl; omega; (first | exact IntWalk.i64_quo _ _ (by omega) | exact IntWalk.u64_quo _ _ (by omega))) | ((with_reducible apply pr_rem); exact rfl; exact rfl; omega; exact IntWalk.rem_in _ _ (by omega)) | ((with_reducible apply pr_conv); exact ⟨_, rfl⟩; exact rfl; exact rfl; (first | exact IntWalk.i64_in _ (by omega) | exact IntWalk.u64_in _ (by omega) | exact IntWalk.u8_in _ (by omega) | exact IntWalk.u32_in _ (by omega) | exact IntKind.wrap_u64 _ | exact IntKind.wrap_i64 _ | exact IntKind.wrap_u32 _ | exact IntKind.wrap_u8 _)) | ((with_reducible apply pr_load_blk1); exact rfl; exact rfl; exact (by repeat constructor); exact rfl) | ((with_reducible apply pr_load_blkN); exact rfl; exact rfl; exact rfl; exact (by repeat constructor); exact rfl) | exact pr_index_own zrf zrf (by repeat constructor) inferInstance zrf zrf zlq zom | exact pr_load_own1 zrf (by repeat constructor) inferInstance zom zrf zrf | exact pr_load_ownN zrf (by repeat constructor) inferInstance zom zrf zrf zrf | exact pr_load_ownf zrf (by repeat constructor) inferInstance zom zrf zrf zrf | exact pr_load_ownfN zrf (by repeat constructor) inferInstance zom zrf zrf zrf zrf | exact pr_index_owni zrf zrf (by repeat constructor) inferInstance zrf zrf zlq zom zom | exact pr_slice_gl zrf zrf (own_le (by repeat constructor)) zrf zrf zom | exact pr_slice_gh zrf zrf (own_le (by repeat constructor)) zrf zrf zom | exact pr_slice_glh zrf zrf zrf (own_le (by repeat constructor)) zrf zrf zom zom | exact pr_slice_gli zrf zrf (own_le (by repeat constructor)) zrf zrf zom zom | exact pr_slice_ghi zrf zrf (own_le (by repeat constructor)) zrf zrf zom zom | exact pr_slice_glhi zrf zrf zrf (own_le (by repeat constructor)) zrf zrf zom zom zom | exact pr_index_mem zrf zrf zsla zrf zrf zlq zom | exact pr_index_memi zrf zrf zsla zrf zrf zlq zom zom | exact pr_load_meme1 zrf zsla zom zrf zrf | exact pr_load_memeN zrf zsla zom zrf zrf zrf | exact pr_load_memef zrf zsla zom zrf zrf zrf | exact pr_load_memefN zrf zsla zom zrf zrf zrf zrf | exact pr_slice_gl zrf zrf (mem_le zsla) zrf zrf zom | exact pr_slice_gh zrf zrf (mem_le zsla) zrf zrf zom | exact pr_slice_glh zrf zrf zrf (mem_le zsla) zrf zrf zom zom | exact pr_slice_gli zrf zrf (mem_le zsla) zrf zrf zom zom | exact pr_slice_ghi zrf zrf (mem_le zsla) zrf zrf zom zom | exact pr_slice_glhi zrf zrf zrf (mem_le zsla) zrf zrf zom zom zom | ((with_reducible first | apply pr_aggeq2 | apply pr_aggne2); exact rfl; exact rfl; exact rfl; kernel_rfl; kernel_rfl; exact rfl) | ((with_reducible first | apply pr_strindexn | apply pr_str_ln | apply pr_str_hn); exact rfl; exact rfl; exact rfl; (first | omega | (simp only [lns] <;> omega))) | ((with_reducible apply pr_str_lhn); exact rfl; exact rfl; exact rfl; exact rfl; (first | omega | (simp only [lns] <;> omega)); (first | omega | (simp only [lns] <;> omega))) | ((with_reducible first | apply pr_strindex | apply pr_str_l | apply pr_str_h); exact rfl; exact rfl; exact rfl; (first | omega | (simp only [lns] <;> omega)); (first | omega | (simp only [lns] <;> omega))) | ((with_reducible apply pr_str_lh); exact rfl; exact rfl; exact rfl; exact rfl; (first | omega | (simp only [lns] <;> omega)); (first | omega | (simp only [lns] <;> omega)); (first | omega | (simp only [lns] <;> omega))) | ((with_reducible apply pr_stradd); exact rfl; exact rfl; (first | omega | (simp only [lns] <;> omega))) | ((with_reducible apply pr_neg); exact rfl; (first | exact IntWalk.i64_in _ (by omega) | exact IntWalk.u64_in _ (by omega) | exact IntWalk.u8_in _ (by omega) | exact IntWalk.u32_in _ (by omega) | exact IntKind.wrap_u64 _ | exact IntKind.wrap_i64 _ | exact IntKind.wrap_u32 _ | exact IntKind.wrap_u8 _)) | ((with_reducible apply pr_shrv); exact rfl; exact rfl; (first | omega | (simp only [IntKind.bits] <;> omega)); (first | omega | (simp only [IntKind.bits] <;> omega)); ((try simp only [Int.reduceToNat, Int.reducePow, Nat.reducePow]); exact rfl)) | ((with_reducible apply pr_shlv); exact rfl; exact rfl; (first | omega | (simp only [IntKind.bits] <;> omega)); (first | omega | (simp only [IntKind.bits] <;> omega)); ((try simp only [Int.reduceToNat, Int.reducePow]); (first | exact IntWalk.i64_in _ (by omega) | exact IntWalk.u64_in _ (by omega) | exact IntWalk.u8_in _ (by omega) | exact IntWalk.u32_in _ (by omega) | exact IntKind.wrap_u64 _ | exact IntKind.wrap_i64 _ | exact IntKind.wrap_u32 _ | exact IntKind.wrap_u8 _))) | exact pr_bytes_str zrf zrf zrf zrf zrdb zlq | fail) : PR P n F C op v := h
theorem zprA (h : PR P n F C op v := by first | exact pr_indexArr1 zrf zrf zrf zrf zom | exact pr_indexArr1i zrf zrf zrf zrf zom zom | exact pr_loadA zrf (by repeat constructor) zrf zrf zlq | exact pr_load_arr zrf (by repeat constructor) zrf zom | ((with_reducible first | apply pr_aggeq2 | apply pr_aggne2); exact rfl; exact rfl; exact rfl; kernel_rfl; kernel_rfl; exact rfl) | fail) : PR P n F C op v := h
end
/-- what is left, so that nothing takes it for a fact -/
structure Wr (G : Prop) : Prop where
  out : G
section
variable {G G' G1 G2 : Prop}
theorem zss (k : G') (h : Wr G' → G := by intro k; first | ((with_reducible first | apply At.seq | apply At.nil | apply At.then_n | apply At.then_e | apply At.then_r | apply At.inb_n | apply At.inb_r | apply At.inb_here | apply At.block | apply At.skip | apply At.exit | apply At.ret | apply At.scope | apply At.label | apply At.nog_n | apply At.nog_r | apply At.nog_e | apply At.fin_n | apply AtQ.nil | apply At.app0 | apply At.app1 | apply At.app2 | apply At.app3 | apply At.app4 | apply At.app5 | apply At.app6 | apply At.app7); exact k.1) | ((with_reducible first | apply At.inb_past | apply At.regionf); exact rfl; exact k.1) | ((with_reducible apply At.quiet); exact rfl; kernel_rfl; kernel_rfl; exact k.1) | ((with_reducible apply At.storeB); exact rfl; exact rfl; exact rfl; exact rfl; exact rfl; exact rfl; exact (by repeat constructor); exact rfl; exact k.1) | ((with_reducible first | apply AtQ.guard_y | apply At.guard_y); exact rfl; exact rfl; exact rfl; exact k.1) | ((with_reducible first | apply AtQ.guard_nt | apply At.guard_nt); exact rfl; exact rfl; exact rfl; exact k.1) | ((with_reducible first | apply AtQ.guard_nf | apply At.guard_nf); exact rfl; exact rfl; exact rfl; exact k.1) | ((with_reducible first | apply AtQ.guard_nu | apply At.guard_nu); exact rfl; exact rfl; exact rfl; exact k.1) | ((with_reducible first | apply At.cond_t | apply At.cond_f); exact rfl; exact k.1) | ((with_reducible apply At.cond_f); exact rfl; exact k.1) | fail) : G := h ⟨k⟩
theorem zsx (k : G') (h : Wr G' → G := by intro k; first | ((with_reducible apply At.back); exact zlf; exact zml; exact k.1) | ((with_reducible apply At.backX); exact k.1) | ((with_reducible first | apply AtM.qo | apply AtM.done); exact rfl; exact k.1) | ((with_reducible apply AtM.done); exact rfl; exact k.1) | ((with_reducible first | apply AtM.xo | apply AtM.lo); exact rfl; exact rfl; exact k.1) | ((with_reducible first | apply AtQ.guard_y | apply At.guard_y | apply AtM1.guard_y); exact rfl; exact rfl; exact rfl; exact k.1) | ((with_reducible first | apply AtQ.guard_nt | apply At.guard_nt | apply AtM1.guard_nt); exact rfl; exact rfl; exact rfl; exact k.1) | ((with_reducible first | apply AtQ.guard_nf | apply At.guard_nf | apply AtM1.guard_nf); exact rfl; exact rfl; exact rfl; exact k.1) | ((with_reducible first | apply AtQ.guard_nu | apply At.guard_nu | apply AtM1.guard_nu); exact rfl; exact rfl; exact rfl; exact k.1) | fail) : G := h ⟨k⟩
theorem zs0 (k : G') (h : Wr G' → G := by intro k; ((with_reducible first | apply At.val | apply AtQ.val); exact zpr0; exact rfl; exact k.1)) : G := h ⟨k⟩
theorem zsO (k : G') (h : Wr G' → G := by intro k; ((with_reducible first | apply At.val | apply AtQ.val); exact zprO; exact rfl; exact k.1)) : G := h ⟨k⟩
theorem zsM (k : G') (h : Wr G' → G := by intro k; ((with_reducible first | apply At.val | apply AtQ.val); exact zprM; exact rfl; exact k.1)) : G := h ⟨k⟩
theorem zsOM (k : G') (h : Wr G' → G := by intro k; ((with_reducible first | apply At.val | apply AtQ.val); exact zprOM; exact rfl; exact k.1)) : G := h ⟨k⟩
theorem zx0 (k : G') (h : Wr G' → G := by intro k; first | ((with_reducible first | apply AtM1.valz | apply AtM1.val); exact rfl; exact zpr0; exact rfl; exact k.1) | ((with_reducible apply AtM1.val); exact rfl; exact zpr0; exact rfl; exact k.1) | fail) : G := h ⟨k⟩
theorem zxO (k : G') (h : Wr G' → G := by intro k; first | ((with_reducible first | apply AtM1.valz | apply AtM1.val); exact rfl; exact zprO; exact rfl; exact k.1) | ((with_reducible apply AtM1.val); exact rfl; exact zprO; exact rfl; exact k.1) | fail) : G := h ⟨k⟩
theorem zxM (k : G') (h : Wr G' → G := by intro k; first | ((with_reducible first | apply AtM1.valz | apply AtM1.val); exact rfl; exact zprM; exact rfl; exact k.1) | ((with_reducible apply AtM1.val); exact rfl; exact zprM; exact rfl; exact k.1) | fail) : G := h ⟨k⟩
theorem zxOM (k : G') (h : Wr G' → G := by intro k; first | ((with_reducible first | apply AtM1.valz | apply AtM1.val); exact rfl; exact zprOM; exact rfl; exact k.1) | ((with_reducible apply AtM1.val); exact rfl; exact zprOM; exact rfl; exact k.1) | fail) : G := h ⟨k⟩
theorem zsp (k1 : G1) (k2 : G2) (h : G1 → G2 → G := by intro k1 k2; first | ((with_reducible apply At.cond); exact rfl; exact k1; exact k2) | ((with_reducible first | apply At.guard_s | apply AtQ.guard_s | apply AtM1.guard_s); exact rfl; exact rfl; exact k1; exact k2) | fail) : G := h k1 k2
end
section
variable {P : Program} {n : Nat} {w0 : World} {F : Fr} {m : Mem} {Rs : List Res} {Q : Exit → Act → World → Prop} {K : Act → World → Prop}
theorem At.c1 {d : Nat} {ops : Array Oper} {rest : List Oper} {g : FuncId} {xs : List Operand} {ts : Array TypeId} {ty : TypeId} {pos : String} {aft : Array Edge} {vs : List Value} {A Rest : List Res} {R : Value → Mem → List Res → Prop}
    (hx : evs F xs = some vs) (hd : Nat.blt d n = true) (hc : Ct P g vs.toArray m A R) (hA : Take A Rs Rest) (hg : goFn P g = true)
    (h : ∀ v m' B, m.le m' → R v m' B → At n w0 ((d, v) :: F) m' (B ++ Rest) (wpList P ops Q rest)) :
    At n w0 F m Rs (wpList P ops Q (⟨some d, .call ⟨.value (.func g), xs.toArray, ts⟩, ty, pos, aft, none⟩ :: rest)) := At.callt1 hg hx hd hc hA h
theorem At.c0 {ops : Array Oper} {rest : List Oper} {g : FuncId} {xs : List Operand} {ts : Array TypeId} {ty : TypeId} {pos : String} {aft : Array Edge} {vs : List Value} {A Rest : List Res} {R : Value → Mem → List Res → Prop}
    (hx : evs F xs = some vs) (hd : n = n) (hc : Ct P g vs.toArray m A R) (hA : Take A Rs Rest) (hg : goFn P g = true)
    (h : ∀ v m' B, m.le m' → R v m' B → At n w0 F m' (B ++ Rest) (wpList P ops Q rest)) :
    At n w0 F m Rs (wpList P ops Q (⟨none, .call ⟨.value (.func g), xs.toArray, ts⟩, ty, pos, aft, none⟩ :: rest)) := At.callt0 hg hx hc hA h
theorem At.cr {ops : Array Oper} {rest : List Oper} {d : Nat} {g : FuncId} {xs : List Operand} {ts : Array TypeId} {ty : TypeId} {pos : String} {aft : Array Edge} {vs : List Value} {V : Value} {A Y : List Res}
    (hx : evs F xs = some vs) (hd : Nat.blt d n = true) (hc : ∀ m', m.le m' → Rd P g vs.toArray m' A V) (hA : Take A Rs Y) (hg : goFn P g = true)
    (h : At n w0 ((d, V) :: F) m Rs (wpList P ops Q rest)) : At n w0 F m Rs (wpList P ops Q (⟨some d, .call ⟨.value (.func g), xs.toArray, ts⟩, ty, pos, aft, none⟩ :: rest)) := At.callr hg hx hd hc hA h
theorem AtQ.cr {ops : Array Oper} {rest : List Oper} {Qq : Act → Prop} {d : Nat} {g : FuncId} {xs : List Operand} {ts : Array TypeId} {ty : TypeId} {pos : String} {aft : Array Edge} {vs : List Value} {V : Value} {A Y : List Res}
    (hx : evs F xs = some vs) (hd : Nat.blt d n = true) (hc : ∀ m', m.le m' → Rd P g vs.toArray m' A V) (hA : Take A Rs Y) (hg : goFn P g = true)
    (h : AtQ P n ((d, V) :: F) (HW w0 m Rs) ops Qq rest) : AtQ P n F (HW w0 m Rs) ops Qq (⟨some d, .call ⟨.value (.func g), xs.toArray, ts⟩, ty, pos, aft, none⟩ :: rest) := AtQ.callr hg hx hd hc hA h
theorem AtM1.cr {X : List Res} {l : List Oper} {f : Nat} {s : Array Bool} {p : Plan} {d : Nat} {g : FuncId} {xs : List Operand} {ts : Array TypeId} {ty : TypeId} {pos : String} {aft : Array Edge} {vs : List Value} {V : Value} {A Y : List Res}
    (hx : evs F xs = some vs) (hd : Nat.blt d n = true) (hc : ∀ m', m.le m' → Rd P g vs.toArray m' A V) (hA : Take A Rs Y) (hg : goFn P g = true)
    (h : AtM P n w0 ((d, V) :: F) m Rs X K l f s p) : AtM1 P n w0 F m Rs X K l f s p ⟨some d, .call ⟨.value (.func g), xs.toArray, ts⟩, ty, pos, aft, none⟩ := AtM1.callr hg hx hd hc hA h
theorem At.apW {α : Type} [Inhabited α] {f : α → List Value} {sz : Nat} {E : TypeId} {p : Option Addr} {c : Nat} {l : List α} {Rs' : List Res} {ops : Array Oper} {rest : List Oper} {d : Nat} {x y : Operand} {t tx e2 : TypeId} {ty : TypeId} {pos : String} {aft : Array Edge} {ln : Nat} {p2 : Option Addr} {ln2 c2 : Nat} {l2 : List α}
    (hx : ev F x = some (.slice p ln c)) (hy : ev F y = some (.slice p2 ln2 c2)) (hp : Pick Rs (.own f sz E p c l) Rs') (hf : Fl f sz) (h2 : Rdb (HW w0 m Rs) f sz p2 c2 l2 ∧ ln2 = l2.length) (ht : P.underlying t = some (.slice E)) (ht2 : P.underlying tx = some (.slice e2)) (he : elemB P E sz = true)
    (hln : ln = l.length) (hsm : l.length + l2.length ≤ 34359738368) (hd : Nat.blt d n = true)
    (h : ∀ p' c', At n w0 ((d, .slice p' (l ++ l2).length c') :: F) m (.own f sz E p' c' (l ++ l2) :: Rs') (wpList P ops Q rest)) :
    At n w0 F m Rs (wpList P ops Q (⟨some d, .call ⟨.builtin .append, #[x, y], #[t, tx]⟩, ty, pos, aft, none⟩ :: rest)) := At.appendW hx hy hp hf h2.1 h2.2 ht ht2 he hln hsm hd h
theorem zrdl {α : Type} [Inhabited α] {f : α → List Value} {sz : Nat} {C : World → Prop} {p2 : Option Addr} {c2 ln2 : Nat} {l2 : List α} (h : Rdb C f sz p2 c2 l2 ∧ ln2 = l2.length := by first | exact ⟨own_rdb inferInstance (by repeat constructor), zlq⟩ | exact ⟨Sl.rdb zsla, zlq⟩ | exact ⟨Rdb.sub (own_rdb inferInstance (by repeat constructor)) _ _ zom zom, zlq⟩ | exact ⟨Rdb.sub (Sl.rdb zsla) _ _ zom zom, zlq⟩ | exact ⟨Rdb.subl (own_rdb inferInstance (by repeat constructor)) _ zom, zlq⟩ | exact ⟨Rdb.subl (Sl.rdb zsla) _ zom, zlq⟩ | exact ⟨Rdb.subh (own_rdb inferInstance (by repeat constructor)) _ zom, zlq⟩ | exact ⟨Rdb.subh (Sl.rdb zsla) _ zom, zlq⟩ | fail) : Rdb C f sz p2 c2 l2 ∧ ln2 = l2.length := h
end
end Go.J
/- Lists of whole numbers, of texts, of bools, as cells; whether two are one. -/
set_option linter.unusedSimpArgs false
set_option linter.unusedVariables false
set_option linter.unusedSectionVars false
set_option maxRecDepth 20000
set_option maxHeartbeats 4000000
namespace Go.Proofs.Ytjncahmbllmllaa
open Go Go.J
attribute [local irreducible] At AtQ AtM AtM1 PR Ct Pu Rd Res.blk Res.own Res.ex RVs RV
namespace Ls
abbrev fI : Int → List Value := fun x => [.int .i64 x]
instance : Fl fI 1 := ⟨fun _ => rfl, fun _ v h => by simp at h; subst h; rfl, by decide⟩
abbrev fS : List UInt8 → List Value := fun x => [.string (str x)]
instance : Fl fS 1 := ⟨fun _ => rfl, fun _ v h => by simp at h; subst h; rfl, by decide⟩
abbrev fO : Bool → List Value := fun x => [.bool x]
instance : Fl fO 1 := ⟨fun _ => rfl, fun _ v h => by simp at h; subst h; rfl, by decide⟩
abbrev fH : Nat → List Value := fun x => [.int .u16 (x : Int)]
instance : Fl fH 1 := ⟨fun _ => rfl, fun _ v h => by simp at h; subst h; rfl, by decide⟩
/-- a slice that stands in a slice -/
structure SX (α : Type) where
  (l : List α) (p : Option Addr) (c : Nat)
instance {α : Type} : Inhabited (SX α) := ⟨⟨[], none, 0⟩⟩
abbrev fX {α : Type} : SX α → List Value := fun x => [.slice x.p x.l.length x.c]
instance {α : Type} : Fl (fX (α := α)) 1 := ⟨fun _ => rfl, fun _ v h => by simp at h; subst h; rfl, by decide⟩
theorem ext! {α : Type} [Inhabited α] {a b : List α} (hl : a.length = b.length) (h : ∀ i, i < a.length → a[i]! = b[i]!) : a = b :=
  List.ext_getElem hl fun i h1 h2 => by have := h i h1; rwa [getElem!_pos a i h1, getElem!_pos b i h2] at this
theorem take_snoc {α : Type} [Inhabited α] {l : List α} {i : Nat} (h : i < l.length) : l.take (i + 1) = l.take i ++ [l[i]!] := by
  rw [getElem!_pos l i h, List.take_succ_eq_append_getElem h]
theorem drop_cons {α : Type} [Inhabited α] {l : List α} {i : Nat} (h : i < l.length) : l.drop i = l[i]! :: l.drop (i + 1) := by
  rw [getElem!_pos l i h, List.drop_eq_getElem_cons h]
theorem mem! {α : Type} [Inhabited α] {l : List α} {i : Nat} (h : i < l.length) : l[i]! ∈ l := by
  rw [getElem!_pos l i h]; exact List.getElem_mem h
theorem clipSl {m : Mem} {α : Type} [Inhabited α] {f : α → List Value} {sz : Nat} {p : Option Addr} {c : Nat} {l : List α} (h : Sl m f sz p c l) : Sl m f sz p l.length l := by
  have hle := h.le
  refine ⟨h.fl, Nat.le_refl _, Nat.le_trans hle h.big, fun e => by have := h.nil e; omega, fun a ha h0 => ?_⟩
  obtain ⟨h1, E, cs, fz, h2, h3, h4⟩ := h.some a ha (by omega)
  exact ⟨h1, E, cs, fz, h2, Nat.le_trans (Nat.add_le_add_left (Nat.mul_le_mul_right _ hle) _) h3, h4⟩
end Ls
end Go.Proofs.Ytjncahmbllmllaa
/- Labels (plain): which are right, what a name has, their order. -/
set_option linter.unusedSimpArgs false
set_option linter.unusedVariables false
set_option linter.unusedSectionVars false
set_option maxRecDepth 20000
set_option maxHeartbeats 4000000
namespace Go.Proofs.Ytjncahmbllmllaa
open Go Go.J
/-- a label -/
structure Lab where
  (n v : List UInt8)
deriving DecidableEq, Inhabited
abbrev Lab.val (x : Lab) : Value := .agg #[.string (str x.n), .string (str x.v)]
namespace Lb
abbrev cells : Lab → List Value := fun x => [.string (str x.n), .string (str x.v)]
instance : Fl cells 2 := ⟨fun _ => rfl, fun _ v h => by simp at h; rcases h with rfl | rfl <;> rfl, by decide⟩
def dig (c : UInt8) : Bool := decide (48 ≤ bI c ∧ bI c ≤ 57)
def sgn (c : UInt8) : Bool := decide ((97 ≤ bI c ∧ bI c ≤ 122) ∨ (65 ≤ bI c ∧ bI c ≤ 90) ∨ (48 ≤ bI c ∧ bI c ≤ 57) ∨ bI c = 95)
def nameB (s : List UInt8) : Bool := decide (1 ≤ s.length ∧ s.length ≤ 64 ∧ dig s[0]! = false ∧ ∀ i, i < s.length → sgn s[i]! = true)
def okAt (l : List Lab) (i : Nat) : Bool := decide (nameB l[i]!.n = true ∧ l[i]!.v.length ≤ 128 ∧ (0 < i → ltB l[i - 1]!.n l[i]!.n = true))
def tot (l : List Lab) : Nat := (l.map fun x => x.n.length + x.v.length).sum
def right (l : List Lab) : Prop := 1 ≤ l.length ∧ l.length ≤ 16 ∧ (∀ i, i < l.length → okAt l i = true) ∧ tot l ≤ 256
instance (l : List Lab) : Decidable (right l) := by unfold right; infer_instance
def chk (l : List Lab) : Int := if right l then 0 else 8
def few (l : List Lab) : Prop := l.length ≤ 40 ∧ ∀ i, i < l.length → l[i]!.n.length ≤ 1000 ∧ l[i]!.v.length ≤ 1000
instance (l : List Lab) : Decidable (few l) := by unfold few; infer_instance
def val (l : List Lab) (t : List UInt8) : List UInt8 := match l.find? fun x => decide (x.n = t) with
  | some x => x.v
  | none => []
theorem or_letter : ∀ n : Nat, n < 256 → (decide (97 ≤ bits .or .u8 (n : Int) 32 ∧ bits .or .u8 (n : Int) 32 ≤ 122)) = decide ((97 ≤ (n : Int) ∧ (n : Int) ≤ 122) ∨ (65 ≤ (n : Int) ∧ (n : Int) ≤ 90)) := by decide +kernel
theorem or_let (c : UInt8) : (97 ≤ bits .or .u8 (bI c) 32 ∧ bits .or .u8 (bI c) 32 ≤ 122) ↔ ((97 ≤ bI c ∧ bI c ≤ 122) ∨ (65 ≤ bI c ∧ bI c ≤ 90)) := by
  have := or_letter c.toNat c.toNat_lt
  rwa [decide_eq_decide] at this
theorem lab_ext {a b : Lab} (h1 : a.n = b.n) (h2 : a.v = b.v) : a = b := by cases a; cases b; cases h1; cases h2; rfl
theorem and_lab (a b : Lab) : andL [decide (str a.n = str b.n), decide (str a.v = str b.v)] = decide (a = b) := by
  by_cases h : a = b
  · subst h; simp [andL_cons, andL_nil]
  · rw [decide_eq_false h]
    cases hb : andL [decide (str a.n = str b.n), decide (str a.v = str b.v)] with
    | false => rfl
    | true =>
      simp only [andL_cons, andL_nil, Bool.and_eq_true, decide_eq_true_eq] at hb
      exact absurd (lab_ext (str_inj.1 hb.1) (str_inj.1 hb.2.1)) h
theorem pr_lbne {n : Nat} {F : Fr} {C : World → Prop} {x y : Operand} {u : TypeId} {a b : Lab} (hx : ev F x = some a.val) (hy : ev F y = some b.val) : PR Try.prog n F C (.binOp .neq 29 x y u) (.bool (!decide (a = b))) := by
  rw [← and_lab]
  exact pr_aggne2 hx hy (by rfl) (by kernel_rfl) (by kernel_rfl) (by rfl)
theorem pr_lbeq {n : Nat} {F : Fr} {C : World → Prop} {x y : Operand} {u : TypeId} {a b : Lab} (hx : ev F x = some a.val) (hy : ev F y = some b.val) : PR Try.prog n F C (.binOp .eql 29 x y u) (.bool (decide (a = b))) := by
  rw [← and_lab]
  exact pr_aggeq2 hx hy (by rfl) (by kernel_rfl) (by kernel_rfl) (by rfl)
theorem tot_take {l : List Lab} {i : Nat} (h : i < l.length) : tot (l.take (i + 1)) = tot (l.take i) + (l[i]!.n.length + l[i]!.v.length) := by
  rw [Ls.take_snoc h]; simp [tot]
theorem tot_take_le (l : List Lab) (i : Nat) : tot (l.take i) ≤ tot l := by
  conv => rhs; rw [← List.take_append_drop i l]
  unfold tot
  rw [List.map_append, List.sum_append]
  omega
theorem bad_at {l : List Lab} {i : Nat} (hi : i < l.length) (h : ¬ (nameB l[i]!.n = true ∧ l[i]!.v.length ≤ 128 ∧ (0 < i → ltB l[i - 1]!.n l[i]!.n = true))) : chk l = 8 := by
  unfold chk
  rw [if_neg fun k => h (of_decide_eq_true (k.2.2.1 i hi))]
theorem bad_tot {l : List Lab} {i : Nat} (h : 256 < tot (l.take i)) : chk l = 8 := by
  unfold chk
  have := tot_take_le l i
  rw [if_neg fun k => by have := k.2.2.2; omega]
theorem bad_len {l : List Lab} (h : l.length < 1 ∨ 16 < l.length) : chk l = 8 := by
  unfold chk
  rw [if_neg fun k => by have := k.1; have := k.2.1; omega]
theorem chk_ok {l : List Lab} (h : right l) : chk l = 0 := if_pos h
theorem chk_right {l : List Lab} : chk l = 0 ↔ right l := by
  unfold chk; split
  · simp [*]
  · simp [*]
theorem val_none {l : List Lab} {t : List UInt8} (h : ∀ i, i < l.length → l[i]!.n ≠ t) : val l t = [] := by
  unfold val
  rw [List.find?_eq_none.2]
  intro x hx
  obtain ⟨i, hi, rfl⟩ := List.mem_iff_getElem.1 hx
  have := h i hi
  rw [getElem!_pos l i hi] at this
  simpa using this
theorem val_at : ∀ {l : List Lab} {t : List UInt8} {i : Nat}, i < l.length → l[i]!.n = t → (∀ k, k < i → l[k]!.n ≠ t) → val l t = l[i]!.v
  | [], _, _, h, _, _ => absurd h (Nat.not_lt_zero _)
  | x :: l, t, 0, _, h, _ => by unfold val; rw [List.find?_cons, show decide (x.n = t) = true from decide_eq_true h]; rfl
  | x :: l, t, i + 1, hi, h, hk => by
    have h0 : x.n ≠ t := hk 0 (by omega)
    have := val_at (l := l) (t := t) (i := i) (by simpa using hi) (by simpa using h) (fun k hk' => by simpa using hk (k + 1) (by omega))
    unfold val at this ⊢
    rw [List.find?_cons, show decide (x.n = t) = false from decide_eq_false h0]
    simpa using this
theorem nameB_no {s : List UInt8} (h : ¬ (1 ≤ s.length ∧ s.length ≤ 64 ∧ dig s[0]! = false ∧ ∀ i, i < s.length → sgn s[i]! = true)) : nameB s = false := decide_eq_false h
end Lb
end Go.Proofs.Ytjncahmbllmllaa
/- Labels in their order (plain), as one by one is put in. -/
set_option linter.unusedSimpArgs false
set_option linter.unusedVariables false
set_option linter.unusedSectionVars false
set_option maxRecDepth 20000
set_option maxHeartbeats 4000000
namespace Go.Proofs.Ytjncahmbllmllaa
open Go Go.J
namespace Lb
/-- where a name goes, from so far down -/
def atF (P : List Lab) (t : List UInt8) : Nat → Nat
  | 0 => 0
  | k + 1 => if ltB t P[k]!.n = true then atF P t k else k + 1
theorem atF_le (P : List Lab) (t : List UInt8) : ∀ k, atF P t k ≤ k
  | 0 => Nat.le_refl 0
  | k + 1 => by
    unfold atF
    split
    · exact Nat.le_succ_of_le (atF_le P t k)
    · exact Nat.le_refl _
theorem atF_dn {P : List Lab} {t : List UInt8} {k : Nat} (h : ltB t P[k]!.n = true) : atF P t (k + 1) = atF P t k := by
  show (if _ then _ else _) = _; rw [if_pos h]
theorem atF_st {P : List Lab} {t : List UInt8} {k : Nat} (h : ltB t P[k]!.n = false) : atF P t (k + 1) = k + 1 := by
  show (if _ then _ else _) = _; rw [if_neg (by rw [h]; decide)]
def sins (P : List Lab) (x : Lab) : List Lab := P.take (atF P x.n P.length) ++ [x] ++ P.drop (atF P x.n P.length)
def srtL (l : List Lab) : List Lab := l.foldl sins []
theorem len_sins (P : List Lab) (x : Lab) : (sins P x).length = P.length + 1 := by
  have := atF_le P x.n P.length
  unfold sins; simp; omega
theorem len_fold : ∀ (l P : List Lab), (l.foldl sins P).length = P.length + l.length
  | [], _ => rfl
  | x :: l, P => by rw [List.foldl_cons, len_fold l, len_sins, List.length_cons]; omega
theorem len_srt (l : List Lab) : (srtL l).length = l.length := by unfold srtL; rw [len_fold]; simp
theorem srt_snoc {l : List Lab} {i : Nat} (h : i < l.length) : srtL (l.take (i + 1)) = sins (srtL (l.take i)) l[i]! := by
  unfold srtL; rw [Ls.take_snoc h, List.foldl_append]; rfl
/-- one that is on its way down -/
def way (P : List Lab) (x : Lab) (R : List Lab) (j : Nat) : List Lab := P.take j ++ x :: (P.drop j ++ R)
theorem len_way {P R : List Lab} {x : Lab} {j : Nat} : (way P x R j).length = P.length + 1 + R.length := by
  unfold way; simp; omega
theorem way_x {P R : List Lab} {x : Lab} {j : Nat} (h : j ≤ P.length) : (way P x R j)[j]! = x := by
  have hl : (P.take j).length = j := by rw [List.length_take]; omega
  rw [getElem!_pos _ j (by rw [len_way]; omega)]
  unfold way
  rw [List.getElem_append_right (by omega)]
  simp [hl]
theorem way_p {P R : List Lab} {x : Lab} {j : Nat} (h : j < P.length) : (way P x R (j + 1))[j]! = P[j]! := by
  have hl : (P.take (j + 1)).length = j + 1 := by rw [List.length_take]; omega
  rw [getElem!_pos _ j (by rw [len_way]; omega), getElem!_pos P j h]
  unfold way
  rw [List.getElem_append_left (by omega), List.getElem_take]
theorem way_sw {P R : List Lab} {x : Lab} {j : Nat} (h : j < P.length) : ((way P x R (j + 1)).set (j + 1) P[j]!).set j x = way P x R j := by
  have e1 : way P x R (j + 1) = P.take j ++ (P[j]! :: x :: (P.drop (j + 1) ++ R)) := by
    unfold way; rw [Ls.take_snoc h, List.append_assoc]; rfl
  have e2 : way P x R j = P.take j ++ (x :: P[j]! :: (P.drop (j + 1) ++ R)) := by
    unfold way; rw [Ls.drop_cons h]; rfl
  have hl : (P.take j).length = j := by rw [List.length_take]; omega
  rw [e1, e2, List.set_append_right _ _ (by omega), List.set_append_right _ _ (by omega), hl]
  simp
theorem way_top {P R : List Lab} {x : Lab} : way P x R P.length = P ++ x :: R := by unfold way; simp
theorem way_end {P R : List Lab} {x : Lab} {j : Nat} (h : atF P x.n P.length = j) : way P x R j = sins P x ++ R := by unfold way sins; rw [h]; simp
end Lb
end Go.Proofs.Ytjncahmbllmllaa
/- Matchers (plain): which are right, what they hit, which labels they ask for. -/
set_option linter.unusedSimpArgs false
set_option linter.unusedVariables false
set_option linter.unusedSectionVars false
set_option maxRecDepth 20000
set_option maxHeartbeats 4000000
namespace Go.Proofs.Ytjncahmbllmllaa
open Go Go.J
/-- a matcher -/
structure Mat where
  (k : Nat) (n v : List UInt8)
deriving DecidableEq, Inhabited
abbrev Mat.val (x : Mat) : Value := .agg #[.int .u8 (x.k : Int), .string (str x.n), .string (str x.v)]
namespace Mt
open Lb
abbrev cells : Mat → List Value := fun x => [.int .u8 (x.k : Int), .string (str x.n), .string (str x.v)]
instance : Fl cells 3 := ⟨fun _ => rfl, fun _ v h => by simp at h; rcases h with rfl | rfl | rfl <;> rfl, by decide⟩
def hit (x : Mat) (l : List Lab) : Bool :=
  if x.k = 1 then decide (Lb.val l x.n = x.v) else if x.k = 2 then !decide (Lb.val l x.n = x.v) else if x.k = 3 then decide (x.v <+: Lb.val l x.n) else false
def all (ms : List Mat) (l : List Lab) : Bool := decide (∀ i, i < ms.length → hit ms[i]! l = true)
def lab (x : Mat) : Lab := ⟨x.n, x.v⟩
def rgt (x : Mat) : Bool := decide ((1 ≤ x.k ∧ x.k ≤ 3) ∧ Lb.chk [lab x] = 0)
def chk (ms : List Mat) : Int := if ms.length ≤ 16 ∧ ∀ i, i < ms.length → rgt ms[i]! = true then 0 else 2
def few (ms : List Mat) : Prop := ms.length ≤ 40 ∧ ∀ i, i < ms.length → ms[i]!.n.length ≤ 1000 ∧ ms[i]!.v.length ≤ 1000
instance (ms : List Mat) : Decidable (few ms) := by unfold few; infer_instance
def eqs (ms : List Mat) : Prop := ∀ i, i < ms.length → ms[i]!.k = 1 ∧ ms[i]!.v ≠ []
instance (ms : List Mat) : Decidable (eqs ms) := by unfold eqs; infer_instance
/-- whether labels are asked for, and which -/
def exB (ms : List Mat) : Bool := decide (eqs ms ∧ Lb.right (srtL (ms.map lab)))
def exL (ms : List Mat) : List Lab := if exB ms then srtL (ms.map lab) else []
/-- the places of those that all hit -/
def pick (ms : List Mat) (ls : List (List Lab)) : List Nat := (List.range ls.length).filter fun i => all ms ls[i]!
theorem hit1 {x : Mat} {l : List Lab} (h : x.k = 1) : hit x l = decide (Lb.val l x.n = x.v) := if_pos h
theorem hit2 {x : Mat} {l : List Lab} (h : x.k = 2) : hit x l = !decide (Lb.val l x.n = x.v) := by unfold hit; rw [if_neg (by omega), if_pos h]
theorem hit3 {x : Mat} {l : List Lab} (h : x.k = 3) : hit x l = decide (x.v <+: Lb.val l x.n) := by unfold hit; rw [if_neg (by omega), if_neg (by omega), if_pos h]
theorem hit0 {x : Mat} {l : List Lab} (h1 : x.k ≠ 1) (h2 : x.k ≠ 2) (h3 : x.k ≠ 3) : hit x l = false := by unfold hit; rw [if_neg h1, if_neg h2, if_neg h3]
theorem pick_snoc (ms : List Mat) (ls : List (List Lab)) (i : Nat) : ((List.range (i + 1)).filter fun i => all ms ls[i]!) = ((List.range i).filter fun i => all ms ls[i]!) ++ if all ms ls[i]! then [i] else [] := by
  rw [List.range_succ, List.filter_append]
  congr 1
  simp only [List.filter_cons, List.filter_nil]
theorem ex_no {ms : List Mat} (h : ¬ (eqs ms ∧ Lb.right (srtL (ms.map lab)))) : exB ms = false ∧ exL ms = [] := by
  have : exB ms = false := decide_eq_false h
  exact ⟨this, by unfold exL; rw [this]; rfl⟩
theorem ex_yes {ms : List Mat} (h : eqs ms ∧ Lb.right (srtL (ms.map lab))) : exB ms = true ∧ exL ms = srtL (ms.map lab) := by
  have : exB ms = true := decide_eq_true h
  exact ⟨this, by unfold exL; rw [this]; rfl⟩
theorem len_lab (ms : List Mat) : (srtL (ms.map lab)).length = ms.length := by rw [len_srt, List.length_map]
end Mt
end Go.Proofs.Ytjncahmbllmllaa
/- The bytes of a text that may be written; an array as a slice. -/
set_option linter.unusedSimpArgs false
set_option linter.unusedVariables false
set_option linter.unusedSectionVars false
set_option maxRecDepth 20000
namespace Go.J
open Go
/-- the bytes of a text, that may be written -/
def Res.byt (E : TypeId) (p : Option Addr) (c : Nat) (L : List Int) : Res where
  p w s := ∃ g cur, p = some ⟨g, 0, none⟩ ∧ w.heap[g]? = some (.cells cur E (cur.size, cur.size + 1)) ∧ L.length ≤ c ∧ c ≤ maxLen ∧ c ≤ cur.size ∧ (∀ j, j < L.length → cur[j]? = some (.int .u8 L[j]!)) ∧ ∀ k, s k ↔ k = g
  loc := fun {w w' s} h he => by
    obtain ⟨g, cur, h1, h2, h3, h4, h5, h6, h7⟩ := h
    exact ⟨g, cur, h1, by rw [he g ((h7 g).2 rfl)]; exact h2, h3, h4, h5, h6, h7⟩
  dom := fun {w s k} h hk => by
    obtain ⟨g, cur, h1, h2, h3, h4, h5, h6, h7⟩ := h
    rw [(h7 k).1 hk]; exact (Array.getElem?_eq_some_iff.1 h2).1
section
variable {P : Program} {n : Nat} {w0 : World} {F : Fr} {m : Mem} {Rs Rs' : List Res} {Q : Exit → Act → World → Prop} {K : Act → World → Prop} {E : TypeId} {p : Option Addr} {c : Nat} {L : List Int}
theorem byt_rdb (hp : Pick Rs (.byt E p c L) Rs') : Rdb (HW w0 m Rs) fb 1 p c L := by
  refine ⟨inferInstance, fun w hw hl => ?_, fun w hw => ?_, fun w hw i j hi hj => ?_⟩
  · obtain ⟨_, g, cur, h1, _⟩ := hw.get hp
    exact ⟨g, 0, h1⟩
  · obtain ⟨_, g, cur, h1, h2, h3, _⟩ := hw.get hp
    exact h3
  · obtain ⟨_, g, cur, h1, h2, h3, h4, h5, h6, h7⟩ := hw.get hp
    subst h1
    have hj0 : j = 0 := by omega
    subst hj0
    show w.cell? ⟨g, 0 + (i * 1 + 0), none⟩ = _
    rw [World.cell_of h2, show 0 + (i * 1 + 0) = i by omega, h6 i hi]
    rfl
theorem At.byt_freeze (hp : Pick Rs (.byt E p c L) Rs') (h : ∀ m' : Mem, m.le m' → Sl m' fb 1 p c L → At n w0 F m' Rs' K) : At n w0 F m Rs K := fun a w ha hw => by
  obtain ⟨s, ⟨s1, s2, h1, h2, hd, he⟩, hm⟩ := (hw.ent (Ent.of_pick hp)).res
  obtain ⟨g, cur, rfl, h4, h5, h6, h7, h8, hg⟩ := h1
  have hmb : m g = none := hm g ((he g).2 (.inl ((hg g).2 rfl)))
  refine h (fun k => if k = g then some (.cells cur E (cur.size, cur.size + 1)) else m k) (fun k o hk => ?_) ⟨inferInstance, h5, h6, (fun e => by cases e), fun a' ha' _ => ?_⟩ a w ha
    ⟨hw.os, hw.tape, hw.output, hw.size, fun k o hk => ?_, s2, h2, fun k hk => ?_⟩
  · show (if k = g then _ else _) = _
    rw [if_neg (fun e => by subst e; rw [hmb] at hk; cases hk)]; exact hk
  · cases ha'
    refine ⟨rfl, E, cur, _, if_pos rfl, by show 0 + c * 1 ≤ _; omega, fun i j hi hj => ?_⟩
    have hj0 : j = 0 := by omega
    subst hj0
    show cur[0 + (i * 1 + 0)]? = _
    rw [show 0 + (i * 1 + 0) = i by omega, h8 i hi]
    rfl
  · by_cases e : k = g
    · subst e
      rw [if_pos rfl] at hk; cases hk; exact h4
    · rw [if_neg e] at hk; exact hw.mem k o hk
  · show (if k = g then _ else _) = _
    rw [if_neg (fun e => hd k ⟨(hg k).2 e, hk⟩)]
    exact hm k ((he k).2 (.inr hk))
theorem At.str_own {ops : Array Oper} {rest : List Oper} {d : Nat} {x : Operand} {s t e : TypeId} {ty : TypeId} {pos : String} {aft : Array Edge} {l : List UInt8}
    (hs : P.underlying s = some .string) (ht : P.underlying t = some (.slice e)) (he : P.underlying e = some (.int .u8)) (hx : ev F x = some (.string (str l))) (hl : l.length ≤ 34359738368) (hd : Nat.blt d n = true)
    (h : ∀ p c, At n w0 ((d, .slice p (l.map bI).length c) :: F) m (.byt e p c (l.map bI) :: Rs) (wpList P ops Q rest)) : At n w0 F m Rs (wpList P ops Q (⟨some d, .convert s t x, ty, pos, aft, none⟩ :: rest)) := fun a w ha hw =>
  wpList_plain rfl fun K hK => by
    have hrun := run_bytes_of_string (P := P) w s t e (str l) hs ht he
    have hge := grownCap_ge w (str l).size 0 e
    have hle := grownCap_le_maxLen w (str l).size 0 e (by rw [str_size]; simp only [maxLen]; omega)
    generalize grownCap w (str l).size 0 e = c at hrun hge hle
    rw [str_size] at hrun hge
    have hsize : (bytesRow (str l) c).size = c := by rw [bytesRow_str]; simp; omega
    unfold Oper.wp
    have hex : (execOp a.eval ⟨some d, .convert s t x, ty, pos, aft, none⟩).run P w = .ok (.value (.slice (some ⟨w.heap.size, 0, none⟩) l.length c)) (w.drew.alloc (.cells (bytesRow (str l) c) e ((bytesRow (str l) c).size, (bytesRow (str l) c).size + 1))) := by
      simp only [execOp, ha.ev hx, Sem.run_bind, hrun, Result.andThen]
      rfl
    rw [hex]
    refine hK _ _ (h (some ⟨w.heap.size, 0, none⟩) c _ _ (by rw [List.length_map]; exact ha.put hd) (hw.add rfl rfl rfl (by show w.heap.size ≤ (w.heap.push _).size; simp) (fun k hk => by show (w.heap.push _)[k]? = _; rw [Array.getElem?_push, if_neg (by omega)])
      ⟨fun k => k = w.heap.size, ⟨w.heap.size, bytesRow (str l) c, rfl, by show (w.heap.push _)[w.heap.size]? = _; simp, by simpa using hge, hle, by rw [hsize]; exact Nat.le_refl _, fun j hj => ?_, fun _ => Iff.rfl⟩, fun k hk => by omega⟩))
    have hj' : j < l.length := by simpa using hj
    rw [bytesRow_str, Array.getElem?_append_left (by simp; omega)]
    simp [hj']
theorem At.store_byt {ops : Array Oper} {rest : List Oper} {t : TypeId} {x y : Operand} {ty : TypeId} {pos : String} {aft : Array Edge} {k : Nat} {v : Int}
    (hx : ev F x = some (.pointer (some (at_ p (k * 1))))) (hy : ev F y = some (.int .u8 v)) (hp : Pick Rs (.byt E p c L) Rs') (hs : sizeB P t = some 1) (hk : k < L.length)
    (h : At n w0 F m (.byt E p c (L.set k v) :: Rs') (wpList P ops Q rest)) : At n w0 F m Rs (wpList P ops Q (⟨none, .store t x y, ty, pos, aft, none⟩ :: rest)) := fun a w ha hw =>
  wpList_plain rfl fun K hK => by
    have hrow : ∀ s, (Res.byt E p c L).p w s → ∃ w', (storeVar t (at_ p (k * 1)) (.int .u8 v)).run P w = .ok () w' ∧ (Res.byt E p c (L.set k v)).p w' s ∧ w'.os = w.os ∧ w'.tape = w.tape ∧ w'.output = w.output ∧ w.heap.size ≤ w'.heap.size ∧ (∀ k, k < w.heap.size → ¬ s k → w'.heap[k]? = w.heap[k]?) := fun s hown => by
      obtain ⟨g, cur, rfl, h4, h5, h6, h7, h8, hgs⟩ := hown
      have hkc : k < cur.size := by omega
      have e0 : at_ (some ⟨g, 0, none⟩) (k * 1) = ⟨g, k, none⟩ := by show (⟨g, 0 + k * 1, none⟩ : Addr) = _; congr 1; omega
      have hcell : w.cell? ⟨g, k, none⟩ = some cur[k] := by simp [World.cell?, h4, hkc]
      have hfro : w.frozen? ⟨g, k, none⟩ = false := by
        simp only [World.frozen?, h4, Bool.and_eq_false_iff, decide_eq_false_iff_not]
        left
        omega
      have hst : (storeVar t (at_ (some ⟨g, 0, none⟩) (k * 1)) (.int .u8 v)).run P w = .ok () (w.setRow g (cur.setIfInBounds k (.int .u8 v))) := by
        have hs1 : (_root_.Go.store (⟨g, k, none⟩ : Addr) (.int .u8 v)).run P w = .ok () (w.setRow g (cur.setIfInBounds k (.int .u8 v))) := by
          rw [run_store P w _ _ _ rfl, hcell]
          simp [hfro, setCell_eq_setRow w g k cur E _ (.int .u8 v) h4]
        have ha0 : (⟨g, k, none⟩ : Addr).add 0 = ⟨g, k, none⟩ := addr_add0 _
        rw [e0]
        simp only [storeVar, Sem.run_bind, run_sizeOf hs, Result.andThen]
        simp only [Value.cells, storeCells, Sem.run_bind, ha0, hs1, Result.andThen]
        rw [if_neg (show ¬ ((#[Value.int .u8 v] : Array Value).size ≠ 1) by simp)]
        simp only [Sem.run_bind, hs1, Result.andThen]
        rfl
      refine ⟨_, hst, ⟨g, cur.setIfInBounds k (.int .u8 v), rfl, by rw [Array.size_setIfInBounds]; exact setRow_heap w g cur _ E _ h4, by rw [List.length_set]; exact h5, h6, by rw [Array.size_setIfInBounds]; exact h7, fun j hj => ?_, hgs⟩, rfl, rfl, rfl, by simp, fun i _ hi => setRow_other w g i _ (fun e => hi ((hgs i).2 e))⟩
      rw [List.length_set] at hj
      by_cases e : j = k
      · subst e
        rw [Array.getElem?_setIfInBounds_self_of_lt hkc, List.getElem!_eq_getElem?_getD, List.getElem?_set_self hj]; rfl
      · rw [Array.getElem?_setIfInBounds_ne (Ne.symm e), h8 j hj, List.getElem!_eq_getElem?_getD, List.getElem!_eq_getElem?_getD, List.getElem?_set_ne (Ne.symm e)]
    obtain ⟨s0, hown⟩ := hw.get hp
    obtain ⟨w', hr', _⟩ := hrow s0 hown
    have hrun' : (execOp a.eval ⟨none, .store t x y, ty, pos, aft, none⟩).run P w = .ok .skip w' := by
      have e0 : (Pure.pure (at_ p (k * 1)) : Sem Addr).run P w = .ok (at_ p (k * 1)) w := rfl
      simp only [execOp, ha.ev hx, ha.ev hy, Instr.storeAt, Instr.sureAddr, Sem.run_bind, e0, Result.andThen, hr']
      rfl
    unfold Oper.wp
    rw [hrun']
    refine hK _ _ (h _ _ ha (hw.turn hp fun s hs => ?_))
    obtain ⟨w2, hr2, h2, g1, g2, g3, g4, g5⟩ := hrow s hs
    rw [hr'] at hr2
    injection hr2 with _ e2
    subst e2
    exact ⟨s, h2, g1, g2, g3, g4, g5, fun k hk => .inl hk⟩
theorem pr_index_byt {x y : Operand} {t : TypeId} {ln k : Nat} {ki : IntKind} (hx : ev F x = some (.slice p ln c)) (hy : ev F y = some (.int ki (k : Int))) (hp : Pick Rs (.byt E p c L) Rs')
    (ht : P.underlying t = some (.slice E)) (hs : sizeB P E = some 1) (hl : ln = L.length) (hk : k < L.length) : PR P n F (HW w0 m Rs) (.indexAddr t x y) (.pointer (some (at_ p (k * 1)))) :=
  pr_indexAddr (byt_rdb hp) ht hs hx hy hl hk
theorem pr_load_byt {x : Operand} {t : TypeId} {k : Nat} (hx : ev F x = some (.pointer (some (at_ p (k * 1))))) (hp : Pick Rs (.byt E p c L) Rs') (hk : k < L.length) (ht : isAggB P t = some false) : PR P n F (HW w0 m Rs) (.load t x) (.int .u8 L[k]!) :=
  pr_load_sl1 (byt_rdb hp) hk ht hx rfl
/-- an array that is a block, as a slice -/
theorem pr_slice_arr {C : World → Prop} {x : Operand} {t e : TypeId} {len b sz : Nat} (hx : ev F x = some (.pointer (some ⟨b, 0, none⟩))) (ht : P.underlying t = some (.array len e)) (hs : sizeB P e = some sz) :
    PR P n F C (.slice t x none none none) (.slice (some ⟨b, 0, none⟩) len len) := fun _ _ _ _ _ a w ha hC => by
  have hr : ∀ w, (underlying t).run P w = .ok (.array len e) w := fun w => by simp only [underlying, program, bind, Sem.bind, Sem.run, ht]; rfl
  have hb : (Instr.sliceBounds false len len none none none).run P w = .ok (0, len, len) w := by
    unfold Instr.sliceBounds Instr.sliceBound
    simp [pure, Sem.run, bind, Sem.bind]
  have e0 : (Pure.pure (⟨b, 0, none⟩ : Addr) : Sem Addr).run P w = .ok ⟨b, 0, none⟩ w := rfl
  have hz : (if len = 0 then (⟨b, 0, none⟩ : Addr) else (⟨b, 0, none⟩ : Addr).add (0 * sz)) = ⟨b, 0, none⟩ := by
    split
    · rfl
    · rw [Nat.zero_mul]; exact addr_add0 _
  simp only [execOp, ha.ev hx, Option.map_none, Sem.run_bind]
  unfold Instr.sliceAt
  simp only [Sem.run_bind, hr, Result.andThen, Instr.sureAddr, e0, hb, run_sizeOf hs, pure, Sem.run, hz, Nat.sub_zero]
/-- such a slice can be read -/
theorem blk_rdb {b c : Nat} {L : List Int} (hp : Pick Rs (.blk b E (L.map (fun x => Value.int .u8 x))) Rs') (hc : L.length = c) : Rdb (HW w0 m Rs) fb 1 (some ⟨b, 0, none⟩) c L := by
  refine ⟨inferInstance, fun w hw hl => ⟨b, 0, rfl⟩, fun w hw => by omega, fun w hw i j hi hj => ?_⟩
  have hj0 : j = 0 := by omega
  subst hj0
  have hb := hw.blk hp
  show w.cell? ⟨b, 0 + (i * 1 + 0), none⟩ = _
  rw [World.cell_of hb, show 0 + (i * 1 + 0) = i by omega]
  simp [hi, fb]
theorem Pu.ct {f : FuncId} {args : Array Value} {V : Value} (h : Pu P f args V) (m : Mem) : Ct P f args m [] (fun v m' B => v = V ∧ m = m' ∧ B = []) := (h m).mono fun _ _ _ _ ⟨a, b, c⟩ => ⟨a, b.symm, c⟩
end
end Go.J
/- The contracts of labels: names, Check, Value, Same, Small; the document's. -/
set_option linter.unusedSimpArgs false
set_option linter.unusedVariables false
set_option linter.unusedSectionVars false
set_option maxRecDepth 20000
set_option maxHeartbeats 4000000
namespace Go.Proofs.Ytjncahmbllmllaa
open Go Go.J
attribute [local irreducible] At AtQ AtM AtM1 PR Ct Pu Rd Res.blk Res.own Res.ex RVs RV
namespace Lb
theorem digit (c : UInt8) : Pu Try.prog 40 #[.int .u8 (bI c)] (.bool (dig c)) := Pu.intro fun m => by
  refine Ct.enterV (by rfl) Try.func40 rfl Try.ntmps40 rfl (fun w0 Rest => ?_)
  (repeat' (first | refine zss ?_ | refine zs0 ?_ | (refine zsp ?_ ?_ <;> (intro hc; (try simp only [zhcs, reduceCtorEq] at hc); (try (exfalso; first | contradiction | omega | exact absurd rfl hc | exact absurd (by decide) hc))))))
  all_goals ((with_reducible apply At.retB1 (B := [])); exact rfl; exact rfl; exact zml; exact zkp; exact ⟨congrArg Value.bool (by unfold dig; first | (rw [decide_eq_decide]; omega) | (symm; rw [decide_eq_false_iff_not]; omega) | (symm; rw [decide_eq_true_eq]; omega)), rfl, rfl⟩)
theorem sign (c : UInt8) : Pu Try.prog 43 #[.int .u8 (bI c)] (.bool (sgn c)) := Pu.intro fun m => by
  have ho := or_let c
  have hd := digit c
  cases h : dig c with
  | true =>
    have h' := of_decide_eq_true h
    rw [h] at hd
    rw [show sgn c = true by unfold sgn; rw [decide_eq_true_eq]; omega]
    refine Ct.enterV (by rfl) Try.func43 rfl Try.ntmps43 rfl (fun w0 Rest => ?_)
    (repeat' (first | refine zss ?_ | ((first | (with_reducible first | apply At.val | apply AtQ.val)); (exact pr_or (by rfl) (by rfl) rfl); exact rfl) | refine zs0 ?_ | ((with_reducible first | apply AtM1.callp | apply AtQ.callp | apply At.callp); kernel_rfl; exact rfl; exact rfl; exact hd) | (refine zsp ?_ ?_ <;> (intro hc; (try simp only [zhcs, reduceCtorEq] at hc); (try (exfalso; first | contradiction | omega | exact absurd rfl hc | exact absurd (by decide) hc))))))
    all_goals ((with_reducible apply At.retB1 (B := [])); exact rfl; exact rfl; exact zml; exact zkp; exact ⟨rfl, rfl, rfl⟩)
  | false =>
    have h' := of_decide_eq_false h
    rw [h] at hd
    have hs : sgn c = decide ((97 ≤ bits .or .u8 (bI c) 32 ∧ bits .or .u8 (bI c) 32 ≤ 122) ∨ bI c = 95) := by unfold sgn; rw [decide_eq_decide]; omega
    obtain ⟨o, eo⟩ : ∃ o, bits .or .u8 (bI c) 32 = o := ⟨_, rfl⟩
    rw [hs, eo]
    refine Ct.enterV (by rfl) Try.func43 rfl Try.ntmps43 rfl (fun w0 Rest => ?_)
    (repeat' (first | refine zss ?_ | ((first | (with_reducible first | apply At.val | apply AtQ.val)); (exact pr_or (by rfl) (by rfl) eo); exact rfl) | refine zs0 ?_ | ((with_reducible first | apply AtM1.callp | apply AtQ.callp | apply At.callp); kernel_rfl; exact rfl; exact rfl; exact hd) | (refine zsp ?_ ?_ <;> (intro hc; (try simp only [zhcs, reduceCtorEq] at hc); (try (exfalso; first | contradiction | omega | exact absurd rfl hc | exact absurd (by decide) hc))))))
    all_goals ((with_reducible apply At.retB1 (B := [])); exact rfl; exact rfl; exact zml; exact zkp; exact ⟨congrArg Value.bool (by first | (rw [decide_eq_decide]; omega) | (symm; rw [decide_eq_false_iff_not]; omega) | (symm; rw [decide_eq_true_eq]; omega)), rfl, rfl⟩)
theorem name1 (c : UInt8) : Pu Try.prog 42 #[.int .u8 (bI c)] (.bool (!sgn c)) := Pu.intro fun m => by
  refine Ct.enterV (by rfl) Try.func42 rfl Try.ntmps42 rfl (fun w0 Rest => ?_)
  (repeat' (first | refine zss ?_ | refine zs0 ?_ | ((with_reducible first | apply AtM1.callp | apply AtQ.callp | apply At.callp); kernel_rfl; exact rfl; exact rfl; exact sign c) | (refine zsp ?_ ?_ <;> (intro hc; (try simp only [zhcs, reduceCtorEq] at hc); (try (exfalso; first | contradiction | omega | exact absurd rfl hc | exact absurd (by decide) hc))))))
  all_goals ((with_reducible apply At.retB1 (B := [])); exact rfl; exact rfl; exact zml; exact zkp; exact ⟨rfl, rfl, rfl⟩)
theorem map_get {l : List UInt8} {s : Nat} (h : s < l.length) : (l.map bI)[s]! = bI (l[s]!) := by
  rw [getElem!_pos _ s (by rw [List.length_map]; exact h), getElem!_pos l s h, List.getElem_map]
theorem indexN {m : Mem} (p : Option Addr) (c : Nat) (l : List UInt8) (hl : l.length ≤ 1000000) (sl0 : Sl m fb 1 p c (l.map bI)) :
    Ct Try.prog 55 #[.slice p (l.map bI).length c, .func (.func 42) #[] #[]] m [] (fun r m' B => m = m' ∧ B = [] ∧ ∃ k : Int, r = .int .i64 k ∧ (0 ≤ k ↔ ¬ ∀ i, i < l.length → sgn (l[i]!) = true)) := by
  have hml : (l.map bI).length = l.length := by simp
  refine Ct.enterV (by rfl) Try.func55 rfl Try.ntmps55 rfl (fun w0 Rest => ?_)
  (repeat' (first | refine zss ?_ | refine zsM ?_ | (refine zsp ?_ ?_ <;> (intro hc; (try simp only [zhcs, reduceCtorEq] at hc); (try (exfalso; first | contradiction | omega | exact absurd rfl hc | exact absurd (by decide) hc))))))
  (refine At.loopk (σ := Nat) [0, 1, 7] (fun s F0 => (8, .int .i64 (s : Int)) :: F0) (fun s => m) (fun s => Rest) (fun s => s ≤ l.length ∧ ∀ i, i < s → sgn (l[i]!) = true) (fun s => l.length - s) 0 (by rfl) ?_ zsubs zml zente ?_)
  · exact ⟨Nat.zero_le _, fun i h => absurd h (Nat.not_lt_zero i)⟩
  rintro s ⟨hs, hn⟩
  by_cases h : s < l.length
  · have hg : (l.map bI)[s]! = bI (l[s]!) := map_get h
    have hlp := name1 (l[s]!)
    rw [← hg] at hlp
    cases e : sgn (l[s]!) with
    | false =>
      rw [e, Bool.not_false] at hlp
      (repeat' (first | refine zss ?_ | refine zsM ?_ | ((with_reducible apply At.callf); exact rfl; kernel_rfl; exact rfl; exact rfl; exact Pu.ct hlp _; exact ztk; rintro v' m' B' hm' ⟨rfl, rfl, rfl⟩; (try replace sl0 := sl0.mono hm')) | (refine zsp ?_ ?_ <;> (intro hc; (try simp only [zhcs, reduceCtorEq] at hc); (try (exfalso; first | omega | contradiction | omega | exact absurd rfl hc | exact absurd (by decide) hc))))))
      all_goals ((with_reducible apply At.retB1 (B := [])); exact rfl; exact rfl; exact zml; exact zkp; exact ⟨rfl, rfl, _, rfl, ⟨fun _ hh => absurd ((hh s h).symm.trans e) (by decide), fun _ => by omega⟩⟩)
    | true =>
      rw [e, Bool.not_true] at hlp
      have hnn : ∀ i, i < s + 1 → sgn (l[i]!) = true := fun i hi => by
        by_cases e1 : i = s
        · subst e1; exact e
        · exact hn i (by omega)
      (repeat' (first | refine zss ?_ | refine zsM ?_ | ((with_reducible apply At.callf); exact rfl; kernel_rfl; exact rfl; exact rfl; exact Pu.ct hlp _; exact ztk; rintro v' m' B' hm' ⟨rfl, rfl, rfl⟩; (try replace sl0 := sl0.mono hm')) | (refine zsp ?_ ?_ <;> (intro hc; (try simp only [zhcs, reduceCtorEq] at hc); (try (exfalso; first | omega | contradiction | omega | exact absurd rfl hc | exact absurd (by decide) hc))))))
      all_goals ((with_reducible refine At.reachk ((s + 1)) ?_ ?_ ?_ ?_); exact zsubs; exact zml; exact zente; exact ⟨⟨h, hnn⟩, by omega⟩)
  · (repeat' (first | refine zss ?_ | refine zsM ?_ | (refine zsp ?_ ?_ <;> (intro hc; (try simp only [zhcs, reduceCtorEq] at hc); (try (exfalso; first | omega | contradiction | omega | exact absurd rfl hc | exact absurd (by decide) hc))))))
    all_goals ((with_reducible apply At.retB1 (B := [])); exact rfl; exact rfl; exact zml; exact zkp; exact ⟨rfl, rfl, _, rfl, ⟨fun hh => absurd hh (by decide), fun hh => absurd (fun i hi => hn i (by omega)) hh⟩⟩)
theorem containsN {m : Mem} (p : Option Addr) (c : Nat) (l : List UInt8) (hl : l.length ≤ 1000000) (sl0 : Sl m fb 1 p c (l.map bI)) :
    Rd Try.prog 41 #[.slice p (l.map bI).length c, .func (.func 42) #[] #[]] m [] (.bool (!decide (∀ i, i < l.length → sgn (l[i]!) = true))) := by
  unfold Rd
  refine Ct.enterV (by rfl) Try.func41 rfl Try.ntmps41 rfl (fun w0 Rest => ?_)
  (repeat' (first | refine zss ?_ | refine zsM ?_ | ((with_reducible first | apply At.c1 | apply At.c0); exact rfl; exact rfl; exact indexN p c l hl sl0; exact ztk; kernel_rfl; rintro v' m' B' hm' ⟨rfl, rfl, k, rfl, hk⟩; (try replace sl0 := sl0.mono hm'); (try (have hq0 : hm' = Mem.le_refl _ := rfl; clear hq0 hm'))) | (refine zsp ?_ ?_ <;> (intro hc; (try simp only [zhcs, reduceCtorEq] at hc); (try (exfalso; first | contradiction | omega | exact absurd rfl hc | exact absurd (by decide) hc))))))
  all_goals ((with_reducible apply At.retB1 (B := [])); exact rfl; exact rfl; exact zml; exact zkp; exact ⟨congrArg Value.bool (by rw [← decide_not, decide_eq_decide]; exact hk), rfl, rfl⟩)
theorem name (s : List UInt8) : Pu Try.prog 19 #[.string (str s)] (.bool (nameB s)) := by
  by_cases h0 : s = []
  · subst h0
    refine Pu.intro fun m => ?_
    refine Ct.enterV (by rfl) Try.func19 rfl Try.ntmps19 rfl (fun w0 Rest => ?_)
    (repeat' (first | refine zss ?_ | refine zs0 ?_ | (refine zsp ?_ ?_ <;> (intro hc; (try simp only [zhcs, reduceCtorEq] at hc); (try (exfalso; first | contradiction | omega | exact absurd rfl hc | exact absurd (by decide) hc))))))
    all_goals ((with_reducible apply At.retB1 (B := [])); exact rfl; exact rfl; exact zml; exact zkp; exact ⟨rfl, rfl, rfl⟩)
  have hl0 : 1 ≤ s.length := by cases s with
    | nil => exact absurd rfl h0
    | cons x s => simp
  have hs0 : str s ≠ str [] := fun e => h0 (str_inj.1 e)
  by_cases h1 : s.length ≤ 64
  · have hd := digit (s[0]!)
    cases e : dig (s[0]!) with
    | true =>
      rw [e] at hd
      rw [nameB_no fun k => absurd (k.2.2.1.symm.trans e) (by decide)]
      refine Pu.intro fun m => ?_
      refine Ct.enterV (by rfl) Try.func19 rfl Try.ntmps19 rfl (fun w0 Rest => ?_)
      (repeat' (first | refine zss ?_ | refine zs0 ?_ | ((with_reducible first | apply AtM1.callp | apply AtQ.callp | apply At.callp); kernel_rfl; exact rfl; exact rfl; exact hd) | (refine zsp ?_ ?_ <;> (intro hc; (try simp only [zhcs, reduceCtorEq] at hc); (try (exfalso; first | (first | omega | exact absurd hc hs0) | contradiction | omega | exact absurd rfl hc | exact absurd (by decide) hc))))))
      all_goals ((with_reducible apply At.retB1 (B := [])); exact rfl; exact rfl; exact zml; exact zkp; exact ⟨rfl, rfl, rfl⟩)
    | false =>
      rw [e] at hd
      have hv : nameB s = decide (∀ i, i < s.length → sgn (s[i]!) = true) := by unfold nameB; rw [decide_eq_decide]; exact ⟨fun k => k.2.2.2, fun k => ⟨hl0, h1, e, k⟩⟩
      rw [hv]
      have hq : (!(!decide (∀ i, i < s.length → sgn (s[i]!) = true))) = decide (∀ i, i < s.length → sgn (s[i]!) = true) := Bool.not_not _
      refine Pu.of_le fun m => ?_
      have hle : m.le m := Mem.le_refl m
      refine Ct.enterV (by rfl) Try.func19 rfl Try.ntmps19 rfl (fun w0 Rest => ?_)
      (repeat' (first | refine zss ?_ | refine zsM ?_ | ((with_reducible first | apply AtM1.callp | apply AtQ.callp | apply At.callp); kernel_rfl; exact rfl; exact rfl; exact hd) | ((with_reducible apply At.str_bytes); (iterate 4 exact rfl); exact zom; exact rfl; intro p' c' m' hm' sl1; skip) | ((with_reducible first | apply AtM1.cr | apply AtQ.cr | apply At.cr); exact rfl; exact rfl; exact fun _ hmm => containsN _ _ s (by omega) (sl1.mono hmm); exact ztk; kernel_rfl) | (refine zsp ?_ ?_ <;> (intro hc; (try simp only [zhcs, reduceCtorEq] at hc); (try (exfalso; first | (first | omega | exact absurd hc hs0) | contradiction | omega | exact absurd rfl hc | exact absurd (by decide) hc))))))
      all_goals ((with_reducible apply At.retB1 (B := [])); exact rfl; exact rfl; exact zml; exact zkp; exact ⟨congrArg Value.bool hq, by assumption, rfl⟩)
  · rw [nameB_no fun k => by omega]
    refine Pu.intro fun m => ?_
    refine Ct.enterV (by rfl) Try.func19 rfl Try.ntmps19 rfl (fun w0 Rest => ?_)
    (repeat' (first | refine zss ?_ | refine zs0 ?_ | (refine zsp ?_ ?_ <;> (intro hc; (try simp only [zhcs, reduceCtorEq] at hc); (try (exfalso; first | (first | omega | exact absurd hc hs0) | contradiction | omega | exact absurd rfl hc | exact absurd (by decide) hc))))))
    all_goals ((with_reducible apply At.retB1 (B := [])); exact rfl; exact rfl; exact zml; exact zkp; exact ⟨rfl, rfl, rfl⟩)
end Lb
end Go.Proofs.Ytjncahmbllmllaa
/- The contracts of labels: Check, Value, Same, Small; the document's. -/
set_option linter.unusedSimpArgs false
set_option linter.unusedVariables false
set_option linter.unusedSectionVars false
set_option maxRecDepth 20000
set_option maxHeartbeats 4000000
namespace Go.Proofs.Ytjncahmbllmllaa
open Go Go.J
attribute [local irreducible] At AtQ AtM AtM1 PR Ct Pu Rd Res.blk Res.own Res.ex RVs RV
namespace Lb
/-- texts no longer than any can be -/
def Mid (l : List Lab) : Prop := ∀ i, i < l.length → l[i]!.n.length ≤ 1000000000000 ∧ l[i]!.v.length ≤ 1000000000000
theorem check {m : Mem} (p : Option Addr) (c : Nat) (l : List Lab) (hb : Mid l) (sl0 : Sl m cells 2 p c l) :
    Rd Try.prog 7 #[.slice p l.length c] m [] (.int .i64 (chk l)) := by
  unfold Rd
  by_cases hlen : l.length < 1 ∨ 16 < l.length
  · rw [bad_len hlen]
    refine Ct.enterV (by rfl) Try.func7 rfl Try.ntmps7 rfl (fun w0 Rest => ?_)
    (repeat' (first | refine zss ?_ | refine zsM ?_ | ((with_reducible apply At.alloc (d := 5)); exact rfl; exact rfl; intro b5) | (refine zsp ?_ ?_ <;> (intro hc; (try simp only [zhcs, reduceCtorEq] at hc); (try (exfalso; first | omega | contradiction | omega | exact absurd rfl hc | exact absurd (by decide) hc))))))
    all_goals ((with_reducible apply At.retB1 (B := [])); exact rfl; exact rfl; exact zml; exact zkp; exact ⟨rfl, rfl, rfl⟩)
  refine Ct.enterV (by rfl) Try.func7 rfl Try.ntmps7 rfl (fun w0 Rest => ?_)
  (repeat' (first | refine zss ?_ | refine zsM ?_ | ((with_reducible apply At.alloc (d := 5)); exact rfl; exact rfl; intro b5) | (refine zsp ?_ ?_ <;> (intro hc; (try simp only [zhcs, reduceCtorEq] at hc); (try (exfalso; first | omega | contradiction | omega | exact absurd rfl hc | exact absurd (by decide) hc))))))
  all_goals
    (refine At.loopk (σ := Nat) [0, 14, 15] (fun s F0 => (3, .int .i64 (256 - (tot (l.take s) : Int))) :: (16, .int .i64 (s : Int)) :: F0) (fun s => m) (fun s => Rest) (fun s => s ≤ l.length ∧ (∀ i, i < s → okAt l i = true) ∧ tot (l.take s) ≤ 256) (fun s => l.length - s) 0 (by rfl) ?_ zsubs zml zente ?_)
    · exact ⟨Nat.zero_le _, fun i h => absurd h (Nat.not_lt_zero i), by simp [tot]⟩
    rintro j ⟨hj, hn, ht⟩
    by_cases h : j < l.length
    · have hp := name (l[j]!.n)
      have hb1 := (hb j h).1
      have hb2 := (hb j h).2
      have htt := tot_take h
      cases e1 : nameB l[j]!.n with
      | false =>
        rw [e1] at hp
        rw [bad_at h fun k => absurd (k.1.symm.trans e1) (by decide)]
        (repeat' (first | refine zss ?_ | refine zsM ?_ | ((with_reducible first | apply AtM1.callp | apply AtQ.callp | apply At.callp); kernel_rfl; exact rfl; exact rfl; exact hp) | ((with_reducible apply At.alloc (d := 5)); exact rfl; exact rfl; intro b5) | (refine zsp ?_ ?_ <;> (intro hc; (try simp only [zhcs, reduceCtorEq] at hc); (try (exfalso; first | omega | contradiction | omega | exact absurd rfl hc | exact absurd (by decide) hc))))))
        all_goals ((with_reducible apply At.retB1 (B := [])); exact rfl; exact rfl; exact zml; exact zkp; exact ⟨rfl, rfl, rfl⟩)
      | true =>
        rw [e1] at hp
        by_cases e2 : l[j]!.v.length ≤ 128
        · by_cases e3 : tot (l.take (j + 1)) ≤ 256
          · cases j with
            | zero =>
              (repeat' (first | refine zss ?_ | refine zsM ?_ | ((with_reducible first | apply AtM1.callp | apply AtQ.callp | apply At.callp); kernel_rfl; exact rfl; exact rfl; exact hp) | ((with_reducible apply At.alloc (d := 5)); exact rfl; exact rfl; intro b5) | (refine zsp ?_ ?_ <;> (intro hc; (try simp only [zhcs, reduceCtorEq] at hc); (try (exfalso; first | omega | contradiction | omega | exact absurd rfl hc | exact absurd (by decide) hc))))))
              all_goals ((with_reducible refine At.reachk ((0 + 1)) ?_ ?_ ?_ ?_); exact zsubs; exact zml; exact zente; exact ⟨⟨h, fun i hi => by
                obtain rfl : i = 0 := by omega
                exact decide_eq_true ⟨e1, e2, fun k => absurd k (Nat.lt_irrefl 0)⟩, e3⟩, by omega⟩)
            | succ k =>
              have hw : IntKind.wrap .i64 (((k + 1 : Nat) : Int) - 1) = (k : Int) := by rw [show ((k + 1 : Nat) : Int) - 1 = (k : Int) by omega]; exact IntWalk.i64_in _ (by omega)
              cases e4 : ltB l[k]!.n l[k + 1]!.n with
              | true =>
                (repeat' (first | refine zss ?_ | ((first | (with_reducible first | apply At.val | apply AtQ.val)); (first | exact pr_sub (by rfl) (by rfl) hw | exact pr_strgeq (by rfl) (by rfl) e4); exact rfl) | refine zsM ?_ | ((with_reducible first | apply AtM1.callp | apply AtQ.callp | apply At.callp); kernel_rfl; exact rfl; exact rfl; exact hp) | ((with_reducible apply At.alloc (d := 5)); exact rfl; exact rfl; intro b5) | (refine zsp ?_ ?_ <;> (intro hc; (try simp only [zhcs, reduceCtorEq] at hc); (try (exfalso; first | omega | contradiction | omega | exact absurd rfl hc | exact absurd (by decide) hc))))))
                all_goals ((with_reducible refine At.reachk ((k + 1 + 1)) ?_ ?_ ?_ ?_); exact zsubs; exact zml; exact zente; exact ⟨⟨h, fun i hi => by
                  by_cases e : i = k + 1
                  · subst e; exact decide_eq_true ⟨e1, e2, fun _ => e4⟩
                  · exact hn i (by omega), e3⟩, by omega⟩)
              | false =>
                rw [bad_at h fun q => absurd ((q.2.2 (by omega)).symm.trans e4) (by decide)]
                (repeat' (first | refine zss ?_ | ((first | (with_reducible first | apply At.val | apply AtQ.val)); (first | exact pr_sub (by rfl) (by rfl) hw | exact pr_strgeq (by rfl) (by rfl) e4); exact rfl) | refine zsM ?_ | ((with_reducible first | apply AtM1.callp | apply AtQ.callp | apply At.callp); kernel_rfl; exact rfl; exact rfl; exact hp) | ((with_reducible apply At.alloc (d := 5)); exact rfl; exact rfl; intro b5) | (refine zsp ?_ ?_ <;> (intro hc; (try simp only [zhcs, reduceCtorEq] at hc); (try (exfalso; first | omega | contradiction | omega | exact absurd rfl hc | exact absurd (by decide) hc))))))
                all_goals ((with_reducible apply At.retB1 (B := [])); exact rfl; exact rfl; exact zml; exact zkp; exact ⟨rfl, rfl, rfl⟩)
          · rw [bad_tot (show 256 < tot (l.take (j + 1)) by omega)]
            (repeat' (first | refine zss ?_ | refine zsM ?_ | ((with_reducible first | apply AtM1.callp | apply AtQ.callp | apply At.callp); kernel_rfl; exact rfl; exact rfl; exact hp) | ((with_reducible apply At.alloc (d := 5)); exact rfl; exact rfl; intro b5) | (refine zsp ?_ ?_ <;> (intro hc; (try simp only [zhcs, reduceCtorEq] at hc); (try (exfalso; first | omega | contradiction | omega | exact absurd rfl hc | exact absurd (by decide) hc))))))
            all_goals ((with_reducible apply At.retB1 (B := [])); exact rfl; exact rfl; exact zml; exact zkp; exact ⟨rfl, rfl, rfl⟩)
        · rw [bad_at h fun k => e2 k.2.1]
          (repeat' (first | refine zss ?_ | refine zsM ?_ | ((with_reducible first | apply AtM1.callp | apply AtQ.callp | apply At.callp); kernel_rfl; exact rfl; exact rfl; exact hp) | ((with_reducible apply At.alloc (d := 5)); exact rfl; exact rfl; intro b5) | (refine zsp ?_ ?_ <;> (intro hc; (try simp only [zhcs, reduceCtorEq] at hc); (try (exfalso; first | omega | contradiction | omega | exact absurd rfl hc | exact absurd (by decide) hc))))))
          all_goals ((with_reducible apply At.retB1 (B := [])); exact rfl; exact rfl; exact zml; exact zkp; exact ⟨rfl, rfl, rfl⟩)
    · have hlj : l.take j = l := List.take_of_length_le (by omega)
      rw [chk_ok ⟨by omega, by omega, fun i hi => hn i (by omega), by rw [← hlj]; exact ht⟩]
      (repeat' (first | refine zss ?_ | refine zsM ?_ | ((with_reducible apply At.alloc (d := 5)); exact rfl; exact rfl; intro b5) | (refine zsp ?_ ?_ <;> (intro hc; (try simp only [zhcs, reduceCtorEq] at hc); (try (exfalso; first | omega | contradiction | omega | exact absurd rfl hc | exact absurd (by decide) hc))))))
      all_goals ((with_reducible apply At.retB1 (B := [])); exact rfl; exact rfl; exact zml; exact zkp; exact ⟨rfl, rfl, rfl⟩)
abbrev pt (b : Nat) : Value := .pointer (some ⟨b, 0, none⟩)
abbrev bx (b : Nat) (t : List UInt8) : List Res := [.blk b 9 [.string (str t)]]
theorem val1 {m : Mem} (b : Nat) (x : Lab) (t : List UInt8) (w : Bool) (h : decide (x.n = t) = w) : Ct Try.prog 21 #[x.val, pt b] m (bx b t) (fun v m' B => v = .bool w ∧ m = m' ∧ B = bx b t) := by
  subst h
  refine Ct.enterV (by rfl) Try.func21 rfl Try.ntmps21 rfl (fun w0 Rest => ?_)
  (repeat' (first | refine zss ?_ | refine zs0 ?_ | ((with_reducible apply At.box (d := 2)); exact rfl; exact rfl; exact rfl; intro b2) | (refine zsp ?_ ?_ <;> (intro hc; (try simp only [zhcs, reduceCtorEq] at hc); (try (exfalso; first | contradiction | omega | exact absurd rfl hc | exact absurd (by decide) hc))))))
  all_goals ((with_reducible apply At.retB1 (B := bx b t)); exact rfl; exact rfl; exact zml; exact zkp; exact ⟨congrArg Value.bool (by simp [str_inj]), rfl, rfl⟩)
theorem indexV {m : Mem} (b : Nat) (p : Option Addr) (c : Nat) (l : List Lab) (t : List UInt8) (hl : l.length ≤ 1000000000) (sl0 : Sl m cells 2 p c l) :
    Ct Try.prog 20 #[.slice p l.length c, .func (.func 21) #[] #[pt b]] m (bx b t) (fun v m' B => m = m' ∧ B = bx b t ∧
      ((v = .int .i64 (-1) ∧ ∀ i, i < l.length → l[i]!.n ≠ t) ∨ (∃ k : Nat, v = .int .i64 (k : Int) ∧ k < l.length ∧ l[k]!.n = t ∧ ∀ i, i < k → l[i]!.n ≠ t))) := by
  refine Ct.enterV (by rfl) Try.func20 rfl Try.ntmps20 rfl (fun w0 Rest => ?_)
  (repeat' (first | refine zss ?_ | refine zsM ?_ | (refine zsp ?_ ?_ <;> (intro hc; (try simp only [zhcs, reduceCtorEq] at hc); (try (exfalso; first | contradiction | omega | exact absurd rfl hc | exact absurd (by decide) hc))))))
  (refine At.loopk (σ := Nat) [0, 1, 7] (fun s F0 => (8, .int .i64 (s : Int)) :: F0) (fun s => m) (fun s => .blk b 9 [.string (str t)] :: Rest) (fun s => s ≤ l.length ∧ ∀ i, i < s → l[i]!.n ≠ t) (fun s => l.length - s) 0 (by rfl) ?_ zsubs zml zente ?_)
  · exact ⟨Nat.zero_le _, fun i h => absurd h (Nat.not_lt_zero i)⟩
  rintro j ⟨hs, hn⟩
  by_cases h : j < l.length
  · by_cases e : l[j]!.n = t
    · (repeat' (first | refine zss ?_ | refine zsM ?_ | ((with_reducible apply At.callf); exact rfl; kernel_rfl; exact rfl; exact rfl; exact val1 b (l[j]!) t true (decide_eq_true e); exact ztk; rintro v' m' B' hm' ⟨rfl, rfl, rfl⟩; (try replace sl0 := sl0.mono hm')) | (refine zsp ?_ ?_ <;> (intro hc; (try simp only [zhcs, reduceCtorEq] at hc); (try (exfalso; first | omega | contradiction | omega | exact absurd rfl hc | exact absurd (by decide) hc))))))
      all_goals ((with_reducible apply At.retB1 (B := bx b t)); exact rfl; exact rfl; exact zml; exact zkp; exact ⟨rfl, rfl, .inr ⟨j, rfl, h, e, hn⟩⟩)
    · have hnn : ∀ i, i < j + 1 → l[i]!.n ≠ t := fun i hi => by
        by_cases e1 : i = j
        · subst e1; exact e
        · exact hn i (by omega)
      (repeat' (first | refine zss ?_ | refine zsM ?_ | ((with_reducible apply At.callf); exact rfl; kernel_rfl; exact rfl; exact rfl; exact val1 b (l[j]!) t false (decide_eq_false e); exact ztk; rintro v' m' B' hm' ⟨rfl, rfl, rfl⟩; (try replace sl0 := sl0.mono hm')) | (refine zsp ?_ ?_ <;> (intro hc; (try simp only [zhcs, reduceCtorEq] at hc); (try (exfalso; first | omega | contradiction | omega | exact absurd rfl hc | exact absurd (by decide) hc))))))
      all_goals ((with_reducible refine At.reachk ((j + 1)) ?_ ?_ ?_ ?_); exact zsubs; exact zml; exact zente; exact ⟨⟨h, hnn⟩, by omega⟩)
  · (repeat' (first | refine zss ?_ | refine zsM ?_ | (refine zsp ?_ ?_ <;> (intro hc; (try simp only [zhcs, reduceCtorEq] at hc); (try (exfalso; first | omega | contradiction | omega | exact absurd rfl hc | exact absurd (by decide) hc))))))
    all_goals ((with_reducible apply At.retB1 (B := bx b t)); exact rfl; exact rfl; exact zml; exact zkp; exact ⟨rfl, rfl, .inl ⟨rfl, fun i hi => hn i (by omega)⟩⟩)
theorem value {m : Mem} (p : Option Addr) (c : Nat) (l : List Lab) (t : List UInt8) (hl : l.length ≤ 1000000000) (sl0 : Sl m cells 2 p c l) :
    Rd Try.prog 8 #[.slice p l.length c, .string (str t)] m [] (.string (str (val l t))) := by
  unfold Rd
  refine Ct.enterV (by rfl) Try.func8 rfl Try.ntmps8 rfl (fun w0 Rest => ?_)
  (repeat' (first | refine zss ?_ | refine zsM ?_ | ((with_reducible first | apply At.c1 | apply At.c0); exact rfl; exact rfl; exact indexV _ p c l t hl sl0; exact ztk; kernel_rfl; rintro v' m' B' hm' ⟨rfl, rfl, hv⟩; (try replace sl0 := sl0.mono hm'); (try (have hq0 : hm' = Mem.le_refl _ := rfl; clear hq0 hm'))) | (rcases hv with ⟨rfl, hn⟩ | ⟨k, rfl, hk, he, hn⟩) | ((with_reducible apply At.box (d := 3)); exact rfl; exact rfl; exact rfl; intro b3) | (refine zsp ?_ ?_ <;> (intro hc; (try simp only [zhcs, reduceCtorEq] at hc); (try (exfalso; first | omega | contradiction | omega | exact absurd rfl hc | exact absurd (by decide) hc))))))
  · rw [val_none hn]
    ((with_reducible apply At.retB1 (B := [])); exact rfl; exact rfl; exact zml; exact zkp; exact ⟨rfl, rfl, rfl⟩)
  · rw [val_at hk he hn]
    ((with_reducible apply At.retB1 (B := [])); exact rfl; exact rfl; exact zml; exact zkp; exact ⟨rfl, rfl, rfl⟩)
theorem small {m : Mem} (p : Option Addr) (c : Nat) (l : List Lab) (sl0 : Sl m cells 2 p c l) :
    Rd Try.prog 6 #[.slice p l.length c] m [] (.int .i64 (if few l then 1 else 0)) := by
  unfold Rd
  refine Ct.enterV (by rfl) Try.func6 rfl Try.ntmps6 rfl (fun w0 Rest => ?_)
  (repeat' (first | refine zss ?_ | refine zsM ?_ | ((with_reducible apply At.alloc (d := 4)); exact rfl; exact rfl; intro b4) | (refine zsp ?_ ?_ <;> (intro hc; (try simp only [zhcs, reduceCtorEq] at hc); (try (exfalso; first | contradiction | omega | exact absurd rfl hc | exact absurd (by decide) hc))))))
  (refine At.loopk (σ := Nat) [5, 6] (fun s F0 => (7, .int .i64 (s : Int)) :: F0) (fun s => m) (fun s => Rest) (fun s => s ≤ l.length ∧ s ≤ 40 ∧ ∀ i, i < s → l[i]!.n.length ≤ 1000 ∧ l[i]!.v.length ≤ 1000) (fun s => l.length - s) 0 (by rfl) ?_ zsubs zml zente ?_)
  · exact ⟨Nat.zero_le _, Nat.zero_le _, fun i h => absurd h (Nat.not_lt_zero i)⟩
  rintro j ⟨hj, h40, hn⟩
  by_cases h : j < l.length
  · by_cases e0 : j = 40
    · rw [if_neg (show ¬ few l from fun k => by have := k.1; omega)]
      (repeat' (first | refine zss ?_ | refine zsM ?_ | ((with_reducible apply At.alloc (d := 4)); exact rfl; exact rfl; intro b4) | (refine zsp ?_ ?_ <;> (intro hc; (try simp only [zhcs, reduceCtorEq] at hc); (try (exfalso; first | omega | contradiction | omega | exact absurd rfl hc | exact absurd (by decide) hc))))))
      all_goals ((with_reducible apply At.retB1 (B := [])); exact rfl; exact rfl; exact zml; exact zkp; exact ⟨rfl, rfl, rfl⟩)
    by_cases e : l[j]!.n.length ≤ 1000 ∧ l[j]!.v.length ≤ 1000
    · (repeat' (first | refine zss ?_ | refine zsM ?_ | ((with_reducible apply At.alloc (d := 4)); exact rfl; exact rfl; intro b4) | (refine zsp ?_ ?_ <;> (intro hc; (try simp only [zhcs, reduceCtorEq] at hc); (try (exfalso; first | omega | contradiction | omega | exact absurd rfl hc | exact absurd (by decide) hc))))))
      all_goals ((with_reducible refine At.reachk ((j + 1)) ?_ ?_ ?_ ?_); exact zsubs; exact zml; exact zente; exact ⟨⟨h, by omega, fun i hi => by
        by_cases e1 : i = j
        · subst e1; exact e
        · exact hn i (by omega)⟩, by omega⟩)
    · rw [if_neg (show ¬ few l from fun k => e (k.2 j h))]
      (repeat' (first | refine zss ?_ | refine zsM ?_ | ((with_reducible apply At.alloc (d := 4)); exact rfl; exact rfl; intro b4) | (refine zsp ?_ ?_ <;> (intro hc; (try simp only [zhcs, reduceCtorEq] at hc); (try (exfalso; first | omega | contradiction | omega | exact absurd rfl hc | exact absurd (by decide) hc))))))
      all_goals ((with_reducible apply At.retB1 (B := [])); exact rfl; exact rfl; exact zml; exact zkp; exact ⟨rfl, rfl, rfl⟩)
  · rw [if_pos (show few l from ⟨by omega, fun i hi => hn i (by omega)⟩)]
    (repeat' (first | refine zss ?_ | refine zsM ?_ | ((with_reducible apply At.alloc (d := 4)); exact rfl; exact rfl; intro b4) | (refine zsp ?_ ?_ <;> (intro hc; (try simp only [zhcs, reduceCtorEq] at hc); (try (exfalso; first | omega | contradiction | omega | exact absurd rfl hc | exact absurd (by decide) hc))))))
    all_goals ((with_reducible apply At.retB1 (B := [])); exact rfl; exact rfl; exact zml; exact zkp; exact ⟨rfl, rfl, rfl⟩)
theorem Mid.of {l : List Lab} (h : ∀ x ∈ l, x.n.length ≤ 1000000000000 ∧ x.v.length ≤ 1000000000000) : Mid l := fun i hi => h _ (Ls.mem! hi)
theorem few.mid {l : List Lab} (h : few l) : Mid l := fun i hi => by have := h.2 i hi; omega
end Lb
end Go.Proofs.Ytjncahmbllmllaa
/- Names with places, in order (plain): where a name stands, what is put, dropped and found. -/
set_option linter.unusedSimpArgs false
set_option linter.unusedVariables false
set_option linter.unusedSectionVars false
set_option maxRecDepth 20000
set_option maxHeartbeats 4000000
namespace Go.Proofs.Ytjncahmbllmllaa
open Go Go.J
/-- a name with a place -/
structure Nmd where
  (s : List UInt8) (p : Int)
deriving DecidableEq, Inhabited
abbrev Nmd.v (x : Nmd) : Value := .agg #[.string (str x.s), .int .i64 x.p]
namespace Nm
abbrev cells : Nmd → List Value := fun x => [.string (str x.s), .int .i64 x.p]
instance : Fl cells 2 := ⟨fun _ => rfl, fun _ v h => by simp at h; rcases h with rfl | rfl <;> rfl, by decide⟩
def srt (l : List Nmd) : Prop := ∀ i j, i < j → j < l.length → ltB (l[i]!).s (l[j]!).s = true
def cmpS (a b : List UInt8) : Int := if ltB a b = true then -1 else if ltB b a = true then 1 else 0
def pos (l : List Nmd) (t : List UInt8) : Nat := (l.takeWhile fun x => ltB x.s t).length
def has (l : List Nmd) (t : List UInt8) : Bool := l.any fun x => decide (x.s = t)
theorem cmpS_lt {a b : List UInt8} (h : ltB a b = true) : cmpS a b = -1 := if_pos h
theorem cmpS_eq (a : List UInt8) : cmpS a a = 0 := by unfold cmpS; simp [ltB_irrefl]
theorem cmpS_ge {a b : List UInt8} (h : ltB a b = false) : 0 ≤ cmpS a b := by unfold cmpS; rw [h]; simp; split <;> decide
theorem cmpS_ne {a b : List UInt8} (h : a ≠ b) : cmpS a b ≠ 0 := by
  unfold cmpS
  rcases ltB_tri a b with k | k | k
  · rw [if_pos k]; decide
  · exact absurd k h
  · rw [if_neg (by rw [ltB_asymm k]; decide), if_pos k]; decide
theorem pos_eq {l : List Nmd} {t : List UInt8} {i : Nat} (hi : i ≤ l.length) (h1 : ∀ k, k < i → ltB (l[k]!).s t = true) (h2 : i < l.length → ltB (l[i]!).s t = false) : pos l t = i := by
  induction l generalizing i with
  | nil => simp only [List.length_nil] at hi; have : i = 0 := by omega
           subst this; rfl
  | cons x l ih =>
    cases i with
    | zero =>
      have := h2 (by simp)
      show (List.takeWhile (fun x => ltB x.s t) (x :: l)).length = 0
      rw [List.takeWhile_cons, if_neg (by simpa using this)]; rfl
    | succ i =>
      have h0 := h1 0 (by omega)
      show (List.takeWhile (fun x => ltB x.s t) (x :: l)).length = i + 1
      rw [List.takeWhile_cons, if_pos (by simpa using h0), List.length_cons]
      congr 1
      exact ih (by simpa using hi) (fun k hk => by simpa using h1 (k + 1) (by omega)) (fun hl => by simpa using h2 (by simpa using hl))
theorem pos_le (l : List Nmd) (t : List UInt8) : pos l t ≤ l.length := by
  unfold pos; exact (List.takeWhile_prefix _).length_le
theorem pos_lt {l : List Nmd} {t : List UInt8} {k : Nat} (h : k < pos l t) : ltB (l[k]!).s t = true := by
  induction l generalizing k with
  | nil => cases h
  | cons x l ih =>
    unfold pos at h
    rw [List.takeWhile_cons] at h
    split at h
    · rename_i hx
      cases k with
      | zero => simpa using hx
      | succ k => simpa using ih (k := k) (by simpa [pos] using h)
    · simp at h
theorem pos_ge {l : List Nmd} {t : List UInt8} (h : pos l t < l.length) : ltB (l[pos l t]!).s t = false := by
  induction l with
  | nil => cases h
  | cons x l ih =>
    unfold pos at h ⊢
    rw [List.takeWhile_cons] at h ⊢
    split
    · rename_i hx
      rw [if_pos hx] at h
      have := ih (by simpa [pos] using h)
      simpa [pos] using this
    · rename_i hx
      simpa using hx
theorem srt_lt {l : List Nmd} (h : srt l) {i j : Nat} (hj : j < l.length) (hij : ltB (l[i]!).s (l[j]!).s = true) (hi : i < l.length) : i < j := by
  rcases Nat.lt_trichotomy i j with k | k | k
  · exact k
  · subst k; rw [ltB_irrefl] at hij; cases hij
  · have := ltB_trans (h j i k hi) hij; rw [ltB_irrefl] at this; cases this
theorem has_iff {l : List Nmd} {t : List UInt8} : has l t = true ↔ ∃ i, i < l.length ∧ (l[i]!).s = t := by
  unfold has
  rw [List.any_eq_true]
  constructor
  · rintro ⟨x, hx, h⟩
    obtain ⟨i, hi, rfl⟩ := List.mem_iff_getElem.1 hx
    exact ⟨i, hi, by rw [getElem!_pos l i hi]; exact of_decide_eq_true h⟩
  · rintro ⟨i, hi, h⟩
    exact ⟨l[i]!, Ls.mem! hi, decide_eq_true h⟩
/-- where it stands, if it does -/
theorem at_has {l : List Nmd} (hs : srt l) {t : List UInt8} {i : Nat} (hi : i < l.length) (h : (l[i]!).s = t) : pos l t = i :=
  pos_eq (Nat.le_of_lt hi) (fun k hk => by rw [← h]; exact hs k i hk hi) (fun _ => by rw [h]; exact ltB_irrefl t)
theorem has_pos {l : List Nmd} (hs : srt l) (t : List UInt8) : has l t = decide (pos l t < l.length ∧ (l[pos l t]!).s = t) := by
  cases h : has l t with
  | true =>
    obtain ⟨i, hi, e⟩ := has_iff.1 h
    rw [at_has hs hi e, decide_eq_true ⟨hi, e⟩]
  | false =>
    symm; refine decide_eq_false fun ⟨h1, h2⟩ => ?_
    rw [has_iff.2 ⟨_, h1, h2⟩] at h; cases h
/-- what is put -/
def ins (l : List Nmd) (x : Nmd) : List Nmd := l.take (pos l x.s) ++ [x] ++ l.drop (pos l x.s)
def putL (l : List Nmd) (t : List UInt8) (p : Int) : List Nmd := if has l t then l else ins l ⟨t, p⟩
def dropL (l : List Nmd) (t : List UInt8) : List Nmd := l.filter fun x => decide (x.s ≠ t)
def getP (l : List Nmd) (t : List UInt8) : Int := if has l t then (l[pos l t]!).p else 0
def begs (l : List Nmd) (t : List UInt8) : List Nmd := l.filter fun x => decide (t <+: x.s)
theorem get_take {l : List Nmd} {i k : Nat} (h : k < i) : (l.take i)[k]! = l[k]! := by
  rw [List.getElem!_eq_getElem?_getD, List.getElem!_eq_getElem?_getD, List.getElem?_take, if_pos h]
theorem get_drop (l : List Nmd) (i k : Nat) : (l.drop i)[k]! = l[i + k]! := by
  rw [List.getElem!_eq_getElem?_getD, List.getElem!_eq_getElem?_getD, List.getElem?_drop]
theorem srt_pw {l : List Nmd} : srt l ↔ l.Pairwise fun a b => ltB a.s b.s = true := by
  rw [List.pairwise_iff_getElem]
  constructor
  · intro h i j hi hj hij
    have := h i j hij hj
    rwa [getElem!_pos l i hi, getElem!_pos l j hj] at this
  · intro h i j hij hj
    rw [getElem!_pos l i (by omega), getElem!_pos l j hj]
    exact h i j (by omega) hj hij
theorem srt_filter {l : List Nmd} (h : srt l) (f : Nmd → Bool) : srt (l.filter f) := srt_pw.2 ((srt_pw.1 h).filter f)
/-- a list in order, cut at a name: those ahead of it, and those behind it -/
theorem cut_take {l : List Nmd} (h : srt l) (t : List UInt8) : l.take (pos l t) = l.filter fun x => ltB x.s t := by
  induction l with
  | nil => rfl
  | cons x l ih =>
    have hs : srt l := srt_pw.2 (List.pairwise_cons.1 (srt_pw.1 h)).2
    have hx := (List.pairwise_cons.1 (srt_pw.1 h)).1
    cases hc : ltB x.s t with
    | true =>
      have hp : pos (x :: l) t = pos l t + 1 := by unfold pos; rw [List.takeWhile_cons, if_pos (by simpa using hc)]; rfl
      rw [hp, List.take_succ_cons, List.filter_cons, if_pos (by simpa using hc), ih hs]
    | false =>
      have hp : pos (x :: l) t = 0 := by unfold pos; rw [List.takeWhile_cons, if_neg (by simpa using hc)]; rfl
      rw [hp, List.take_zero]
      symm
      rw [List.filter_eq_nil_iff]
      intro a ha hb
      rcases List.mem_cons.1 ha with rfl | ha
      · rw [hc] at hb; cases hb
      · have := ltB_trans (hx a ha) hb; rw [hc] at this; cases this
theorem cut_drop {l : List Nmd} (h : srt l) (t : List UInt8) : l.drop (pos l t) = l.filter fun x => !ltB x.s t := by
  induction l with
  | nil => rfl
  | cons x l ih =>
    have hs : srt l := srt_pw.2 (List.pairwise_cons.1 (srt_pw.1 h)).2
    have hx := (List.pairwise_cons.1 (srt_pw.1 h)).1
    cases hc : ltB x.s t with
    | true =>
      have hp : pos (x :: l) t = pos l t + 1 := by unfold pos; rw [List.takeWhile_cons, if_pos (by simpa using hc)]; rfl
      rw [hp, List.drop_succ_cons, List.filter_cons, if_neg (by simpa using hc), ih hs]
    | false =>
      have hp : pos (x :: l) t = 0 := by unfold pos; rw [List.takeWhile_cons, if_neg (by simpa using hc)]; rfl
      rw [hp, List.drop_zero]
      symm
      rw [List.filter_eq_self]
      intro a ha
      rcases List.mem_cons.1 ha with rfl | ha
      · rw [hc]; rfl
      · cases hb : ltB a.s t with
        | false => rfl
        | true => have := ltB_trans (hx a ha) hb; rw [hc] at this; cases this
theorem cut_drop_gt {l : List Nmd} (h : srt l) {t : List UInt8} (hn : has l t = false) : l.drop (pos l t) = l.filter fun x => ltB t x.s := by
  rw [cut_drop h]
  refine List.filter_congr fun x hx => ?_
  have hne : x.s ≠ t := fun e => by
    have : has l t = true := List.any_eq_true.2 ⟨x, hx, decide_eq_true e⟩
    rw [hn] at this; cases this
  rcases ltB_tri x.s t with k | k | k
  · rw [k, ltB_asymm k]; rfl
  · exact absurd k hne
  · rw [k, ltB_asymm k]; rfl
theorem ins_doc {l : List Nmd} (h : srt l) {x : Nmd} (hn : has l x.s = false) : ins l x = (l.filter fun y => ltB y.s x.s) ++ [x] ++ l.filter fun y => ltB x.s y.s := by
  unfold ins; rw [cut_take h, cut_drop_gt h hn]
theorem srt_ins {l : List Nmd} (h : srt l) {x : Nmd} (hn : has l x.s = false) : srt (ins l x) := by
  rw [ins_doc h hn, srt_pw, List.append_assoc, List.pairwise_append]
  have hp := srt_pw.1 h
  refine ⟨hp.filter _, ?_, ?_⟩
  · rw [List.singleton_append, List.pairwise_cons]
    exact ⟨fun a ha => (List.mem_filter.1 ha).2, hp.filter _⟩
  · intro a ha b hb
    have h1 := (List.mem_filter.1 ha).2
    rcases List.mem_cons.1 hb with rfl | hb
    · exact h1
    · exact ltB_trans h1 (List.mem_filter.1 hb).2
theorem srt_put {l : List Nmd} (h : srt l) (t : List UInt8) (p : Int) : srt (putL l t p) := by
  unfold putL
  split
  · exact h
  · rename_i hn; exact srt_ins h (by simpa using hn)
theorem srt_drop {l : List Nmd} (h : srt l) (t : List UInt8) : srt (dropL l t) := srt_filter h _
theorem len_ins (l : List Nmd) (x : Nmd) : (ins l x).length = l.length + 1 := by
  unfold ins
  have := pos_le l x.s
  simp only [List.length_append, List.length_take, List.length_drop, List.length_singleton]; omega
theorem len_put (l : List Nmd) (t : List UInt8) (p : Int) : (putL l t p).length ≤ l.length + 1 := by
  unfold putL; split
  · omega
  · rw [len_ins]; exact Nat.le_refl _
theorem len_drop (l : List Nmd) (t : List UInt8) : (dropL l t).length ≤ l.length := List.length_filter_le _ _
/-- what is dropped stands at one place -/
theorem drop_at {l : List Nmd} (h : srt l) {i : Nat} (hi : i < l.length) : l.take i ++ l.drop (i + 1) = dropL l (l[i]!).s := by
  have e : l = l.take i ++ (l[i]! :: l.drop (i + 1)) := by rw [← Ls.drop_cons hi, List.take_append_drop]
  have hp := srt_pw.1 h
  rw [e, List.pairwise_append, List.pairwise_cons] at hp
  obtain ⟨_, ⟨h2, _⟩, h3⟩ := hp
  have h4 : dropL l (l[i]!).s = dropL (l.take i ++ (l[i]! :: l.drop (i + 1))) (l[i]!).s := congrArg (fun z => dropL z (l[i]!).s) e
  rw [h4]
  unfold dropL
  rw [List.filter_append, List.filter_cons, if_neg (by simp), List.filter_eq_self.2, List.filter_eq_self.2]
  · intro a ha; exact decide_eq_true (fun e => ltB_ne (h2 a ha) e.symm)
  · intro a ha; exact decide_eq_true (ltB_ne (h3 a ha _ (List.mem_cons_self ..)))
theorem drop_none {l : List Nmd} {t : List UInt8} (hn : has l t = false) : dropL l t = l := by
  unfold dropL
  rw [List.filter_eq_self]
  intro a ha
  refine decide_eq_true fun e => ?_
  have : has l t = true := List.any_eq_true.2 ⟨a, ha, decide_eq_true e⟩
  rw [hn] at this; cases this
/-- those that begin so stand beside one another -/
theorem begs_at {l : List Nmd} (h : srt l) (t : List UInt8) : (l.drop (pos l t)).takeWhile (fun x => decide (t <+: x.s)) = begs l t := by
  induction l with
  | nil => rfl
  | cons x l ih =>
    have hs : srt l := srt_pw.2 (List.pairwise_cons.1 (srt_pw.1 h)).2
    have hx := (List.pairwise_cons.1 (srt_pw.1 h)).1
    cases hc : ltB x.s t with
    | true =>
      have hp : pos (x :: l) t = pos l t + 1 := by unfold pos; rw [List.takeWhile_cons, if_pos (by simpa using hc)]; rfl
      have hn : ¬ t <+: x.s := fun e => by rw [pre_not_lt e] at hc; cases hc
      rw [hp, List.drop_succ_cons, ih hs]
      unfold begs
      rw [List.filter_cons, if_neg (by simpa using hn)]
    | false =>
      have hp : pos (x :: l) t = 0 := by unfold pos; rw [List.takeWhile_cons, if_neg (by simpa using hc)]; rfl
      rw [hp, List.drop_zero]
      unfold begs
      by_cases hb : t <+: x.s
      · rw [List.takeWhile_cons, if_pos (by simpa using hb), List.filter_cons, if_pos (by simpa using hb)]
        congr 1
        have hgs : ∀ (l : List Nmd), (∀ a ∈ l, ltB a.s t = false) → srt l → l.takeWhile (fun x => decide (t <+: x.s)) = l.filter fun x => decide (t <+: x.s) := by
          intro l
          induction l with
          | nil => intros; rfl
          | cons y l ih2 =>
            intro h1 h2
            have h2s : srt l := srt_pw.2 (List.pairwise_cons.1 (srt_pw.1 h2)).2
            have h2x := (List.pairwise_cons.1 (srt_pw.1 h2)).1
            by_cases hy : t <+: y.s
            · rw [List.takeWhile_cons, if_pos (by simpa using hy), List.filter_cons, if_pos (by simpa using hy), ih2 (fun a ha => h1 a (List.mem_cons_of_mem _ ha)) h2s]
            · rw [List.takeWhile_cons, if_neg (by simpa using hy), List.filter_cons, if_neg (by simpa using hy)]
              symm; rw [List.filter_eq_nil_iff]
              intro a ha; simpa using pre_gone (h1 y (List.mem_cons_self ..)) hy (h2x a ha)
        refine hgs l (fun a ha => ?_) hs
        cases k : ltB a.s t with
        | false => rfl
        | true => have := ltB_trans (hx a ha) k; rw [hc] at this; cases this
      · rw [List.takeWhile_cons, if_neg (by simpa using hb), List.filter_cons, if_neg (by simpa using hb)]
        symm; rw [List.filter_eq_nil_iff]
        intro a ha; simpa using pre_gone hc hb (hx a ha)
theorem filt_yes {α : Type} [Inhabited α] (f : α → Bool) (l : List α) (j : Nat) (hj : j < l.length) (h : f (l[j]!) = true) : (l.take (j + 1)).filter f = (l.take j).filter f ++ [l[j]!] := by
  rw [Ls.take_snoc hj, List.filter_append, List.filter_cons, if_pos h]; rfl
theorem filt_no {α : Type} [Inhabited α] (f : α → Bool) (l : List α) (j : Nat) (hj : j < l.length) (h : f (l[j]!) = false) : (l.take (j + 1)).filter f = (l.take j).filter f := by
  rw [Ls.take_snoc hj, List.filter_append, List.filter_cons, if_neg (by rw [h]; decide)]; simp
theorem drop_lt (l : List Nmd) (t : List UInt8) : decide ((dropL l t).length < l.length) = has l t := by
  cases h : has l t with
  | false => rw [drop_none h]; simp
  | true =>
    obtain ⟨x, hx, e⟩ := List.any_eq_true.1 h
    refine decide_eq_true (Nat.lt_of_le_of_ne (len_drop l t) fun hl => ?_)
    have := List.length_filter_eq_length_iff.1 hl x hx
    exact absurd (of_decide_eq_true e) (of_decide_eq_true this)
theorem begs_nil (l : List Nmd) : begs l [] = l := by
  unfold begs; rw [List.filter_eq_self]; intro a _; exact decide_eq_true List.nil_prefix
end Nm
end Go.Proofs.Ytjncahmbllmllaa
/- Rows of cells: what one owns, opened; copy, append and clear in place; append of zeros; capacity; whether two slices overlap. -/
set_option linter.unusedSimpArgs false
set_option linter.unusedVariables false
set_option linter.unusedSectionVars false
set_option maxRecDepth 20000
namespace Go.J
open Go
def Hld (cs : List Value) (o : Nat) (vs : List Value) : Prop := ∀ j, j < vs.length → cs[o + j]? = vs[j]?
def put (cs : List Value) (a : Nat) (vs : List Value) : List Value := cs.take a ++ vs ++ cs.drop (a + vs.length)
theorem put_len {cs vs : List Value} {a : Nat} (h : a + vs.length ≤ cs.length) : (put cs a vs).length = cs.length := by
  unfold put; simp only [List.length_append, List.length_take, List.length_drop]; omega
theorem put_get {cs vs : List Value} {a : Nat} (h : a + vs.length ≤ cs.length) (k : Nat) : (put cs a vs)[k]? = if a ≤ k ∧ k < a + vs.length then vs[k - a]? else cs[k]? := by
  unfold put
  have e1 : (cs.take a).length = a := by rw [List.length_take]; omega
  by_cases h1 : k < a
  · rw [if_neg (by omega), List.append_assoc, List.getElem?_append_left (by omega), List.getElem?_take, if_pos h1]
  · by_cases h2 : k < a + vs.length
    · rw [if_pos ⟨by omega, h2⟩, List.append_assoc, List.getElem?_append_right (by omega), e1, List.getElem?_append_left (by omega)]
    · rw [if_neg (by omega), List.getElem?_append_right (by rw [List.length_append, e1]; omega), List.length_append, e1, List.getElem?_drop]
      congr 1; omega
theorem Hld.put_in {cs vs : List Value} {a : Nat} (h : a + vs.length ≤ cs.length) : Hld (put cs a vs) a vs := fun j hj => by
  rw [put_get h, if_pos ⟨by omega, by omega⟩]; congr 1; omega
theorem Hld.put_out {cs vs us : List Value} {a o : Nat} (h : a + vs.length ≤ cs.length) (hh : Hld cs o us) (hd : o + us.length ≤ a ∨ a + vs.length ≤ o) : Hld (put cs a vs) o us := fun j hj => by
  rw [put_get h, if_neg (by omega)]; exact hh j hj
theorem Hld.app {cs us vs : List Value} {o : Nat} (h1 : Hld cs o us) (h2 : Hld cs (o + us.length) vs) : Hld cs o (us ++ vs) := fun j hj => by
  rw [List.length_append] at hj
  by_cases h : j < us.length
  · rw [List.getElem?_append_left h]; exact h1 j h
  · rw [List.getElem?_append_right (by omega), ← h2 (j - us.length) (by omega)]; congr 1; omega
theorem Hld.left {cs us vs : List Value} {o : Nat} (h : Hld cs o (us ++ vs)) : Hld cs o us := fun j hj => by
  rw [h j (by rw [List.length_append]; omega), List.getElem?_append_left hj]
theorem Hld.right {cs us vs : List Value} {o : Nat} (h : Hld cs o (us ++ vs)) : Hld cs (o + us.length) vs := fun j hj => by
  rw [Nat.add_assoc, h (us.length + j) (by rw [List.length_append]; omega), List.getElem?_append_right (by omega)]; congr 1; omega
section
variable {P : Program} {n : Nat} {w0 : World} {F : Fr} {m : Mem} {Rs Rs' R1 R2 : List Res} {Q : Exit → Act → World → Prop} {K : Act → World → Prop} {C : World → Prop} {α : Type} [Inhabited α] {f : α → List Value} {sz : Nat}
variable {E E2 : TypeId} {p : Option Addr} {c : Nat} {l : List α} {g g2 a o dl dc sl sc : Nat} {cs cs2 : List Value}
theorem At.own_row (hp : Pick Rs (.own f sz E p c l) Rs') (h0 : p = none → c = 0 → l = [] → At n w0 F m Rs K)
    (h1 : ∀ g o cs, p = some ⟨g, o, none⟩ → l.length ≤ c → c ≤ maxLen → o + c * sz ≤ cs.length → Hld cs o (l.flatMap f) → At n w0 F m (.blk g E cs :: Rs') K) (hf : Fl f sz) : At n w0 F m Rs K := fun a w ha hw => by
  obtain ⟨s, ⟨e1, e2, e3, _⟩ | ⟨g, o, cur, rfl, h2, h3, h4, h5, h6, h7⟩⟩ := hw.get hp
  · exact h0 e1 e2 e3 a w ha hw
  · refine h1 g o cur.toList rfl h3 h4 (by rw [Array.length_toList]; exact h5) (fun j hj => ?_) a w ha (hw.turn hp fun s' hs' => ?_)
    · rw [Array.getElem?_toList]; exact h6 j (by rw [flatMap_length hf.len] at hj; exact hj)
    · rcases hs' with ⟨e1, _⟩ | ⟨g', o', cur', e1, _, _, _, _, _, g7⟩
      · cases e1
      · injection e1 with e1; injection e1 with e1 _ _; subst e1
        refine ⟨fun k => k = g, ⟨?_, fun _ => Iff.rfl⟩, rfl, rfl, rfl, Nat.le_refl _, fun _ _ _ => rfl, fun k hk => .inl ((g7 k).2 hk)⟩
        rw [Array.toArray_toList]; exact h2
theorem own_close (hf : Fl f sz) (h1 : l.length ≤ c) (h2 : c ≤ maxLen) (h3 : o + c * sz ≤ cs.length) (h4 : Hld cs o (l.flatMap f)) : Ent (.blk g E cs :: Rs) (.own f sz E (some ⟨g, o, none⟩) c l :: Rs) := fun w s ⟨s1, s2, ⟨e1, e2⟩, g2, g3, g4⟩ =>
  ⟨s, ⟨s1, s2, .inr ⟨g, o, cs.toArray, rfl, e1, h1, h2, by rw [List.size_toArray]; exact h3, fun j hj => by rw [List.getElem?_toArray]; exact h4 j (by rw [flatMap_length hf.len]; exact hj), e2⟩, g2, g3, g4⟩, fun _ x => x⟩
theorem At.own_end (hf : Fl f sz) (h1 : l.length ≤ c) (h2 : c ≤ maxLen) (h3 : o + c * sz ≤ cs.length) (h4 : Hld cs o (l.flatMap f)) (hp : Pick Rs (.blk g E cs) Rs') (h : At n w0 F m (.own f sz E (some ⟨g, o, none⟩) c l :: Rs') K) : At n w0 F m Rs K :=
  At.ent ((Ent.of_pick hp).trans (own_close hf h1 h2 h3 h4)) h
theorem blk_cells (hp : Pick Rs (.blk g E cs) Rs') {vs : List Value} (hh : Hld cs a vs) (w : World) (hw : HW w0 m Rs w) (j : Nat) (hj : j < vs.length) : w.cell? ⟨g, a + j, none⟩ = vs[j]? := by
  rw [World.cell_of (hw.blk hp), List.getElem?_toArray]; exact hh j hj
theorem rdb_cellsV {q : Option Addr} {l2 : List α} {c2 g2 a2 : Nat} (h : Rdb C f sz q c2 l2) (hq : q = some ⟨g2, a2, none⟩) {vs : List Value} (hv : vs = l2.flatMap f) (w : World) (hw : C w) (j : Nat) (hj : j < vs.length) : w.cell? ⟨g2, a2 + j, none⟩ = vs[j]? := by
  subst hv
  exact rdb_cells h hw g2 a2 hq j (by rw [flatMap_length h.fl.len] at hj; exact hj)
/-- cells are written in place -/
theorem HW.putB {w : World} (hw : HW w0 m Rs w) (hp : Pick Rs (.blk g E cs) Rs') {vs : List Value} (hfit : a + vs.length ≤ cs.length) (h1 : ∀ v ∈ vs, v.oneCell' = true) :
    ∃ w', (storeCells ⟨g, a, none⟩ vs 0).run P w = .ok () w' ∧ HW w0 m (.blk g E (put cs a vs) :: Rs') w' := by
  have hb := hw.blk hp
  have hst := run_storeCells_at P g a E vs 0 cs.toArray w hb (by simpa using hfit) h1
  simp only [Nat.add_zero] at hst
  refine ⟨_, hst, hw.turn hp fun s hs => ⟨s, ⟨setRow_heap w g cs.toArray _ E _ hb, hs.2⟩, rfl, rfl, rfl, by simp, fun k _ hk => setRow_other w g k _ (fun e => hk ((hs.2 k).2 e)), fun k hk => .inl hk⟩⟩
theorem At.copyB {ops : Array Oper} {rest : List Oper} {d : Nat} {x y : Operand} {t tx ty : TypeId} {pos : String} {aft : Array Edge} {a2 k : Nat} (vs : List Value)
    (hx : ev F x = some (.slice (some ⟨g, a, none⟩) dl dc)) (hy : ev F y = some (.slice (some ⟨g2, a2, none⟩) sl sc)) (ht : P.underlying t = some (.slice E2)) (hs : sizeB P E2 = some sz)
    (hk : Nat.min sl dl = k) (hv : k * sz = vs.length) (hr : ∀ w, HW w0 m Rs w → ∀ j, j < vs.length → w.cell? ⟨g2, a2 + j, none⟩ = vs[j]?) (h1 : ∀ v ∈ vs, v.oneCell' = true)
    (hp : Pick Rs (.blk g E cs) Rs') (hfit : a + vs.length ≤ cs.length) (hd : Nat.blt d n = true)
    (h : At n w0 ((d, .int .i64 (k : Int)) :: F) m (.blk g E (put cs a vs) :: Rs') (wpList P ops Q rest)) :
    At n w0 F m Rs (wpList P ops Q (⟨some d, .call ⟨.builtin .copy, #[x, y], #[t, tx]⟩, ty, pos, aft, none⟩ :: rest)) := fun ac w ha hw =>
  wpList_plain rfl fun K hK => by
    obtain ⟨w', hst, hw'⟩ := hw.putB (P := P) hp hfit h1
    have hl := run_loadCells (P := P) w g2 a2 vs (hr w hw)
    have hrun : (execOp ac.eval ⟨some d, .call ⟨.builtin .copy, #[x, y], #[t, tx]⟩, ty, pos, aft, none⟩).run P w = .ok (.value (.int .i64 (k : Int))) w' := by
      rw [BigFrame.execOp_builtin]
      have hu : ∀ w, (underlying t).run P w = .ok (.slice E2) w := fun w => by simp only [underlying, program, bind, Sem.bind, Sem.run, ht]; rfl
      have h0 : (Builtin.copy_ #[t, tx] ty #[.slice (some ⟨g, a, none⟩) dl dc, .slice (some ⟨g2, a2, none⟩) sl sc]).run P w = .ok (goInt k) w' := by
        unfold Builtin.copy_
        simp only [Sem.run_bind, hu, Result.andThen, Builtin.lenOf, Builtin.firstCells, List.getElem?_toArray, List.getElem?_cons_zero, List.getElem?_cons_succ, Sem.run_pure, run_sizeOf hs, hk, hv, hl, hst]
      simp [BigFrame.builtin_copy, ha.ev hx, ha.ev hy, h0, goInt]
    unfold Oper.wp
    rw [hrun]
    exact hK _ _ (h _ _ (ha.put hd) hw')
/-- append where there is room, at cells -/
theorem At.appendB {ops : Array Oper} {rest : List Oper} {d : Nat} {x y : Operand} {t tx ty : TypeId} {pos : String} {aft : Array Edge} {i k : Nat} {q : Option Addr} (vs : List Value)
    (hx : ev F x = some (.slice (some ⟨g, o, none⟩) i c)) (hy : ev F y = some (.slice q k sc)) (ht : P.underlying t = some (.slice E2)) (htx : P.underlying tx = some (.slice E2)) (hs : sizeB P E2 = some sz)
    (hv : k * sz = vs.length) (hr : 0 < k → ∃ g2 a2, q = some ⟨g2, a2, none⟩ ∧ ∀ w, HW w0 m Rs w → ∀ j, j < vs.length → w.cell? ⟨g2, a2 + j, none⟩ = vs[j]?) (h1 : ∀ v ∈ vs, v.oneCell' = true) (hroom : i + k ≤ c)
    (hp : Pick Rs (.blk g E cs) Rs') (hfit : o + i * sz + vs.length ≤ cs.length) (hd : Nat.blt d n = true)
    (h : At n w0 ((d, .slice (some ⟨g, o, none⟩) (i + k) c) :: F) m (.blk g E (put cs (o + i * sz) vs) :: Rs') (wpList P ops Q rest)) :
    At n w0 F m Rs (wpList P ops Q (⟨some d, .call ⟨.builtin .append, #[x, y], #[t, tx]⟩, ty, pos, aft, none⟩ :: rest)) := fun ac w ha hw =>
  wpList_plain rfl fun K hK => by
    obtain ⟨w', hst, hw'⟩ := hw.putB (P := P) hp hfit h1
    have hu : ∀ w, (underlying t).run P w = .ok (.slice E2) w := fun w => by simp only [underlying, program, bind, Sem.bind, Sem.run, ht]; rfl
    have hux : ∀ w, (underlying tx).run P w = .ok (.slice E2) w := fun w => by simp only [underlying, program, bind, Sem.bind, Sem.run, htx]; rfl
    have hc : (Builtin.firstCells sz k (.slice q k sc)).run P w = .ok vs.toArray w := by
      rcases Nat.eq_zero_or_pos k with hk | hk
      · have hvs : vs = [] := List.eq_nil_of_length_eq_zero (by rw [← hv, hk, Nat.zero_mul])
        subst hvs hk
        cases q with
        | none => rfl
        | some b =>
          show (loadCells b (0 * sz)).run P w = _
          rw [Nat.zero_mul]
          exact run_loadCells_list w b [] (fun j v h => by cases h)
      · obtain ⟨g2, a2, rfl, hr2⟩ := hr hk
        show (loadCells ⟨g2, a2, none⟩ (k * sz)).run P w = _
        rw [hv]
        exact run_loadCells w g2 a2 vs (hr2 w hw)
    have hrun : (execOp ac.eval ⟨some d, .call ⟨.builtin .append, #[x, y], #[t, tx]⟩, ty, pos, aft, none⟩).run P w = .ok (.value (.slice (some ⟨g, o, none⟩) (i + k) c)) w' := by
      rw [BigFrame.execOp_builtin]
      have h0 : (Builtin.append_ #[t, tx] ty #[.slice (some ⟨g, o, none⟩) i c, .slice q k sc]).run P w = .ok (.slice (some ⟨g, o, none⟩) (i + k) c) w' := by
        simp [Builtin.append_, hu, hux, run_sizeOf hs, Builtin.lenOf, hroom, hc, Addr.add_eq, hst]
      simp [BigFrame.builtin_append, ha.ev hx, ha.ev hy, h0]
    unfold Oper.wp
    rw [hrun]
    exact hK _ _ (h _ _ (ha.put hd) hw')
/-- clear, at cells -/
theorem At.clearB {ops : Array Oper} {rest : List Oper} {d : Option Nat} {x : Operand} {t ty : TypeId} {pos : String} {aft : Array Edge} {k : Nat}
    (hx : ev F x = some (.slice (some ⟨g, a, none⟩) k c)) (ht : P.underlying t = some (.slice E2)) (he : elemB P E2 sz = true) (hz1 : zeroOneB P E2 = true)
    (hp : Pick Rs (.blk g E cs) Rs') (hfit : a + k * sz ≤ cs.length) (hd : d = none)
    (h : ∀ vs, vs.length = k * sz → At n w0 F m (.blk g E (put cs a vs) :: Rs') (wpList P ops Q rest)) :
    At n w0 F m Rs (wpList P ops Q (⟨d, .call ⟨.builtin .clear, #[x], #[t]⟩, ty, pos, aft, none⟩ :: rest)) := fun ac w ha hw =>
  wpList_plain rfl fun K hK => by
    subst hd
    obtain ⟨i, z, hi, hz, hsz, hbt, hzs⟩ := elemB_spec he
    have hone : z.cells.toList.all oneCell = true := by
      unfold zeroOneB at hz1; rw [hi] at hz1; simp only [hz] at hz1; exact hz1
    have hlen : (Builtin.zeroCells z.cells k).toList.length = k * sz := by rw [Array.length_toList, size_zeroCells, hzs]
    obtain ⟨w', hst, hw'⟩ := hw.putB (P := P) (vs := (Builtin.zeroCells z.cells k).toList) hp (by rw [hlen]; exact hfit) (zeroCells_one hone _)
    have hzv : ∀ w, (zeroValue E2).run P w = .ok z w := fun w => by simp [zeroValue, typeInfo, hi, hz]
    have hu : ∀ w, (underlying t).run P w = .ok (.slice E2) w := fun w => by simp only [underlying, program, bind, Sem.bind, Sem.run, ht]; rfl
    have hrun : (execOp ac.eval ⟨none, .call ⟨.builtin .clear, #[x], #[t]⟩, ty, pos, aft, none⟩).run P w = .ok (.value (.tuple #[])) w' := by
      rw [BigFrame.execOp_builtin]
      have h0 : (Builtin.clear_ #[t] ty #[.slice (some ⟨g, a, none⟩) k c]).run P w = .ok (.tuple #[]) w' := by
        cases k with
        | zero =>
          have : (Builtin.zeroCells z.cells 0).toList = [] := List.eq_nil_of_length_eq_zero (by rw [hlen, Nat.zero_mul])
          rw [this] at hst
          simp only [storeCells, pure, Sem.run] at hst
          cases hst
          simp [Builtin.clear_, hu]
        | succ k => simp [Builtin.clear_, hu, hzv, hst]
      simp [BigFrame.builtin_clear, ha.ev hx, h0]
    unfold Oper.wp
    rw [hrun]
    exact hK _ _ (h _ hlen _ _ ha hw')
/-- append of so many zeros, where there is no room -/
theorem At.appendZ {ops : Array Oper} {rest : List Oper} {d : Nat} {x y : Operand} {t tn ty : TypeId} {pos : String} {aft : Array Edge} {i k : Nat} {kn : IntKind} (z : α)
    (hx : ev F x = some (.slice p i c)) (hy : ev F y = some (.int .i64 (k : Int))) (h1 : Rdb (HW w0 m Rs) f sz p c l) (hi : i = l.length) (ht : P.underlying t = some (.slice E)) (htn : P.underlying tn = some (.int kn)) (he : elemB P E sz = true) (hz : zeroL P E = some (f z))
    (hgrow : c < l.length + k) (h0 : 0 < k) (hsm : l.length + k ≤ 34359738368) (hd : Nat.blt d n = true)
    (h : ∀ p' c', At n w0 ((d, .slice p' (l ++ List.replicate k z).length c') :: F) m (.own f sz E p' c' (l ++ List.replicate k z) :: Rs) (wpList P ops Q rest)) :
    At n w0 F m Rs (wpList P ops Q (⟨some d, .call ⟨.builtin .append, #[x, y], #[t, tn]⟩, ty, pos, aft, none⟩ :: rest)) := fun ac w ha hw =>
  wpList_plain rfl fun K hK => by
    subst hi
    have hf := h1.fl
    obtain ⟨i, zv, hi, hzv, hsz, hbt, hzs⟩ := elemB_spec he
    obtain ⟨i', z', hi', hz', hzc⟩ := zeroL_spec hz
    rw [hi] at hi'; cases hi'
    rw [hzv] at hz'; cases hz'
    have hby : (l.length + k) * i.bytes ≤ 140737488355328 := Nat.le_trans (Nat.mul_le_mul hsm hbt) (by omega)
    have h63 : l.length + k ≤ maxLen := by simp only [maxLen]; omega
    have s1 := rdb_src (P := P) h1 hw ht
    have hl1 := flatMap_length hf.len l
    have hold : (Builtin.firstCells i.size l.length (.slice p l.length c)).run P w.drew = .ok (l.flatMap f).toArray w.drew := by rw [hsz]; exact s1.cellsD
    have hge := grownCap_ge w (l.length + k) c E
    have hcm : grownCap w (l.length + k) c E ≤ maxLen := grownCap_le_maxLen w (l.length + k) c E h63
    have hlz : (f z).length = sz := hf.len z
    have hcp : Builtin.zeroCells zv.cells k = (copies k (f z)).toArray := by
      have := copies_arr zv.cells (f z) hzc k
      rw [hlz] at this
      unfold Builtin.zeroCells
      rw [← this, hzs]
    have hfm : (l ++ List.replicate k z).flatMap f = l.flatMap f ++ copies k (f z) := by rw [List.flatMap_append, flatMap_replicate]
    have hr : (Builtin.append_ #[t, tn] ty #[.slice p l.length c, .int .i64 (k : Int)]).run P w = .ok (.slice (some ⟨w.heap.size, 0, none⟩) (l.length + k) (grownCap w (l.length + k) c E))
        (w.drew.alloc (.cells ((l.flatMap f ++ copies k (f z)).toArray ++ Builtin.zeroCells zv.cells (grownCap w (l.length + k) c E - (l.length + k))) E)) := by
      have hwk : IntKind.i64.wrap (k : Int) = k := by rw [IntKind.wrap_i64]; omega
      have hneg : ¬ ((k : Int) < 0) := by omega
      have hkb : k * i.bytes ≤ 281474976710656 := Nat.le_trans (Nat.mul_le_mul (show k ≤ 34359738368 by omega) hbt) (by omega)
      have h48 : ¬ (281474976710656 < (k : Int) * (i.bytes : Int)) := by rw [← Int.natCast_mul]; omega
      have hn : ¬ (l.length + k ≤ c) := by omega
      have h63' : ¬ (9223372036854775807 < (l.length : Int) + (k : Int)) := by omega
      have hb63 : ¬ (281474976710656 < Builtin.nextslicecap (l.length + k) c * i.bytes) := by have := growslice_fits hgrow hby; omega
      have hk0 : ¬ k = 0 := by omega
      have hs0 : ¬ (k * i.size = 0) := Nat.mul_ne_zero hk0 (by have := hf.pos; omega)
      rw [show (l.flatMap f ++ copies k (f z)).toArray = (l.flatMap f).toArray ++ (copies k (f z)).toArray by simp, ← hcp]
      simp [Builtin.append_, run_underlying ht, run_underlying htn, sizeOf, typeInfo, zeroValue, hi, hzv, asInt, asIntOf, hwk, hneg, h48, hn, h63', hb63, hk0, hs0, Question.forced, hold, newRow, grownCap]
    unfold Oper.wp
    have hrun : ∀ v w', (Builtin.append_ #[t, tn] ty #[.slice p l.length c, .int .i64 (k : Int)]).run P w = .ok v w' → (execOp ac.eval ⟨some d, .call ⟨.builtin .append, #[x, y], #[t, tn]⟩, ty, pos, aft, none⟩).run P w = .ok (.value v) w' := fun v w' hr => by
      rw [BigFrame.execOp_builtin]
      simp [BigFrame.builtin_append, ha.ev hx, ha.ev hy, hr]
    rw [hrun _ _ hr]
    have hll : (l ++ List.replicate k z).length = l.length + k := by simp
    rw [← hll] at hge hcm ⊢
    refine hK _ _ (h _ _ _ _ (ha.put hd) (hw.add rfl rfl rfl (by simp) (fun j hj => heap_alloc_old w.drew _ hj) ⟨fun j => j = w.heap.size, .inr ⟨w.heap.size, 0, _, rfl, heap_alloc_new w.drew _, hge, hcm, ?_, fun j hj => ?_, fun _ => Iff.rfl⟩, fun j hj => by omega⟩))
    · rw [← hfm]
      simp only [Array.size_append, List.size_toArray, size_zeroCells, hzs, flatMap_length hf.len, ← Nat.add_mul]
      rw [Nat.add_sub_cancel' hge, Nat.zero_add]
      exact Nat.le_refl _
    · rw [Nat.zero_add, ← hfm, Array.getElem?_append_left (by simp only [List.size_toArray, flatMap_length hf.len]; exact hj)]
      simp
theorem pr_cap_sl {x : Operand} {t e : TypeId} {ln : Nat} (ht : P.underlying t = some (.slice e)) (hx : ev F x = some (.slice p ln c)) : PR P n F C (.call ⟨.builtin .cap, #[x], #[t]⟩) (.int .i64 (c : Int)) := fun _ _ _ _ _ a w ha _ => by
  simp [execOp, resolve, invoke, builtin, ha.ev hx, Builtin.cap_, underlying, program, ht, Sem.run, goInt]
/-- a part whose end is told with its room -/
theorem run_slice4 {t e : TypeId} (ht : P.underlying t = some (.slice e)) (hs : sizeB P e = some sz) (p : Option Addr) (l c lo hi mx : Nat) (h1 : lo ≤ hi) (h2 : hi ≤ mx) (h3 : mx ≤ c) (k k' k2 : IntKind) (w : World) :
    (Instr.sliceAt t (.slice p l c) (some (.int k (lo : Int))) (some (.int k' (hi : Int))) (some (.int k2 (mx : Int)))).run P w = .ok (.slice (subp p mx lo sz) (hi - lo) (mx - lo)) w := by
  have hr : ∀ w, (underlying t).run P w = .ok (.slice e) w := fun w => by simp only [underlying, program, bind, Sem.bind, Sem.run, ht]; rfl
  unfold Instr.sliceAt
  simp only [Sem.run_bind, hr, Result.andThen]
  unfold Instr.slice
  simp only [Sem.run_bind, hr, Result.andThen]
  have hb : (Instr.sliceBounds true l c (some (.int k (lo : Int))) (some (.int k' (hi : Int))) (some (.int k2 (mx : Int)))).run P w = .ok (lo, hi, mx) w := by
    unfold Instr.sliceBounds Instr.sliceBound
    simp [asIntOf, pure, Sem.run, bind, Sem.bind, h1, h2, h3]
  rw [hb]
  simp only [run_sizeOf hs, pure, Sem.run, subp]
theorem pr_slice4 {x y z u : Operand} {t e : TypeId} {ln lo hi mx : Nat} {k k' k2 : IntKind} (hx : ev F x = some (.slice p ln c)) (hy : ev F y = some (.int k (lo : Int))) (hz : ev F z = some (.int k' (hi : Int))) (hu : ev F u = some (.int k2 (mx : Int))) (ht : P.underlying t = some (.slice e)) (hs : sizeB P e = some sz) (h1 : lo ≤ hi) (h2 : hi ≤ mx) (h3 : mx ≤ c) :
    PR P n F C (.slice t x (some y) (some z) (some u)) (.slice (subp p mx lo sz) (hi - lo) (mx - lo)) := fun _ _ _ _ _ a w ha hC => by
  simp only [execOp, ha.ev hx, Sem.run_bind, Option.map_some, ha.ev hy, ha.ev hz, ha.ev hu]
  rw [run_slice4 ht hs p ln c lo hi mx h1 h2 h3]
  rfl
/-- parts of a row that is there -/
theorem pr_slice_bl {x y : Operand} {t e : TypeId} {ln lo : Nat} {k : IntKind} (hx : ev F x = some (.slice (some ⟨g, o, none⟩) ln c)) (hy : ev F y = some (.int k (lo : Int))) (ht : P.underlying t = some (.slice e)) (hs : sizeB P e = some sz) (h1 : lo ≤ ln) (h2 : ln ≤ c) (hlt : lo < c) :
    PR P n F C (.slice t x (some y) none none) (.slice (some ⟨g, o + lo * sz, none⟩) (ln - lo) (c - lo)) := by
  have := pr_slice_l (P := P) (n := n) (C := C) hx hy ht hs h1 h2
  rwa [show subp (some ⟨g, o, none⟩) c lo sz = some ⟨g, o + lo * sz, none⟩ by unfold subp; rw [if_neg (by omega)]; simp [Addr.add_eq]] at this
theorem pr_slice_bh {x y : Operand} {t e : TypeId} {ln hi : Nat} {k : IntKind} (hx : ev F x = some (.slice p ln c)) (hy : ev F y = some (.int k (hi : Int))) (ht : P.underlying t = some (.slice e)) (hs : sizeB P e = some sz) (h2 : hi ≤ c) :
    PR P n F C (.slice t x none (some y) none) (.slice p hi c) := by
  have := pr_slice_h (P := P) (n := n) (C := C) hx hy ht hs h2
  rwa [subp0, Nat.sub_zero, Nat.sub_zero] at this
theorem pr_slice_blh {x y z : Operand} {t e : TypeId} {ln lo hi : Nat} {k k' : IntKind} (hx : ev F x = some (.slice (some ⟨g, o, none⟩) ln c)) (hy : ev F y = some (.int k (lo : Int))) (hz : ev F z = some (.int k' (hi : Int))) (ht : P.underlying t = some (.slice e)) (hs : sizeB P e = some sz) (h1 : lo ≤ hi) (h2 : hi ≤ c) (hlt : lo < c) :
    PR P n F C (.slice t x (some y) (some z) none) (.slice (some ⟨g, o + lo * sz, none⟩) (hi - lo) (c - lo)) := by
  have := pr_slice_lh (P := P) (n := n) (C := C) hx hy hz ht hs h1 h2
  rwa [show subp (some ⟨g, o, none⟩) c lo sz = some ⟨g, o + lo * sz, none⟩ by unfold subp; rw [if_neg (by omega)]; simp [Addr.add_eq]] at this
theorem subp_lt {lo : Nat} (h : lo < c) : subp (some ⟨g, o, none⟩) c lo sz = some ⟨g, o + lo * sz, none⟩ := by unfold subp; rw [if_neg (by omega)]; simp [Addr.add_eq]
/-- a row that is there, read as a slice -/
theorem blk_rdbF (hp : Pick Rs (.blk g E cs) Rs') (hf : Fl f sz) (hh : Hld cs o (l.flatMap f)) (hc : l.length ≤ c) : Rdb (HW w0 m Rs) f sz (some ⟨g, o, none⟩) c l :=
  ⟨hf, fun _ _ _ => ⟨_, _, rfl⟩, fun _ _ => hc, fun w hw i j hi hj => by
    show w.cell? ⟨g, o + (i * sz + j), none⟩ = _
    have hb : (i + 1) * sz ≤ l.length * sz := Nat.mul_le_mul_right _ hi
    rw [Nat.add_mul] at hb
    rw [World.cell_of (hw.blk hp), List.getElem?_toArray, hh _ (by rw [flatMap_length hf.len]; omega), flatMap_get hf.len l i j hi hj]⟩
theorem Hld.split {i : Nat} (hf : Fl f sz) (hh : Hld cs o (l.flatMap f)) (hi : i ≤ l.length) : Hld cs o ((l.take i).flatMap f) ∧ Hld cs (o + i * sz) ((l.drop i).flatMap f) := by
  have e : l.flatMap f = (l.take i).flatMap f ++ (l.drop i).flatMap f := by rw [← List.flatMap_append, List.take_append_drop]
  rw [e] at hh
  refine ⟨hh.left, ?_⟩
  have := hh.right
  rwa [flatMap_length hf.len, List.length_take, Nat.min_eq_left hi] at this
/-- .. whose cells are known at once -/
theorem At.appendZB {ops : Array Oper} {rest : List Oper} {d : Nat} {x y : Operand} {t tn ty : TypeId} {pos : String} {aft : Array Edge} {i k : Nat} {kn : IntKind} (z : α)
    (hx : ev F x = some (.slice p i c)) (hy : ev F y = some (.int .i64 (k : Int))) (h1 : Rdb (HW w0 m Rs) f sz p c l) (hi : i = l.length) (ht : P.underlying t = some (.slice E)) (htn : P.underlying tn = some (.int kn)) (he : elemB P E sz = true) (hz : zeroL P E = some (f z))
    (hgrow : c < l.length + k) (h0 : 0 < k) (hsm : l.length + k ≤ 34359738368) (hd : Nat.blt d n = true)
    (h : ∀ g o c' cs, l.length + k ≤ c' → c' ≤ maxLen → o + c' * sz ≤ cs.length → Hld cs o ((l ++ List.replicate k z).flatMap f) → At n w0 ((d, .slice (some ⟨g, o, none⟩) (l.length + k) c') :: F) m (.blk g E cs :: Rs) (wpList P ops Q rest)) :
    At n w0 F m Rs (wpList P ops Q (⟨some d, .call ⟨.builtin .append, #[x, y], #[t, tn]⟩, ty, pos, aft, none⟩ :: rest)) := by
  refine At.appendZ z hx hy h1 hi ht htn he hz hgrow h0 hsm hd fun p' c' => ?_
  have hll : (l ++ List.replicate k z).length = l.length + k := by simp
  refine At.own_row pk0 (fun _ _ e => absurd (congrArg List.length e) (by rw [hll]; simp; omega)) (fun g o cs e h2 h3 h4 h5 => ?_) h1.fl
  subst e
  rw [hll] at h2 ⊢
  exact h g o c' cs h2 h3 h4 h5
theorem Pick.skip {X Y : Res} {A B T : List Res} (hp : Pick A X B) (hp2 : Pick B Y T) : ∃ T', Pick A Y T' := by
  induction hp generalizing T with
  | here => exact ⟨_, .there hp2⟩
  | @there X' R A B _ ih =>
    cases hp2 with
    | here => exact ⟨_, .here⟩
    | there h => obtain ⟨T', hT⟩ := ih h; exact ⟨_, .there hT⟩
theorem At.blk_ne (hp : Pick Rs (.blk g E cs) R1) (hp2 : Pick R1 (.blk g2 E2 cs2) R2) (h : g ≠ g2 → At n w0 F m Rs K) : At n w0 F m Rs K := fun a w ha hw => by
  refine h (fun e => ?_) a w ha hw
  obtain ⟨s, ⟨s1, s2, h1, h2, hd, he⟩, _⟩ := (hw.ent (Ent.of_pick hp)).res
  obtain ⟨s3, s4, h3, _, _, he2⟩ := (Sat.pick hp2).1 h2
  exact hd g ⟨(h1.2 g).2 rfl, (he2 g).2 (.inl ((h3.2 g).2 e))⟩
theorem pr_overlaps {id : FuncId} {fn : Func} {x y : Operand} {t r : TypeId} {ts : Array TypeId} {b : Nat} (hf : P.funcs[id]? = some fn) (hname : (fn.name == "runtime.NumGoroutine") = false) (hb : fn.body.isNone = true) (hn : Extern.findNext fn = none) (he : Extern.find fn = some (Extern.SlicesOverlaps.overlaps #[t, t] #[r]))
    (hx : ev F x = some (.slice (some ⟨g, a, none⟩) sl sc)) (hy : ev F y = some (.slice (some ⟨g2, b, none⟩) dl dc)) (ht : P.underlying t = some (.slice E)) (hs : sizeB P E = some sz) (hp : Pick Rs (.blk g E cs) R1) (hp2 : Pick R1 (.blk g2 E2 cs2) R2) (hne : g ≠ g2) (h0 : 0 < cs2.length) :
    PR P n F (HW w0 m Rs) (.call ⟨.value (.func id), #[x, y], ts⟩) (.bool false) := fun _ _ _ _ _ ac w ha hw => by
  rw [execOp_call_go]
  have h1 := hw.blk hp
  obtain ⟨R3, hp3⟩ := hp.skip hp2
  have h2 := hw.blk hp3
  have : (#[] ++ (#[x, y] : Array Operand).map ac.eval ++ #[] : Array Value) = #[.slice (some ⟨g, a, none⟩) sl sc, .slice (some ⟨g2, b, none⟩) dl dc] := by simp [ha.ev hx, ha.ev hy]
  rw [this, run_callFunc_extern hf hname hb hn he]
  have hfz : ∀ o', w.frozen? ⟨g, o', none⟩ = false := fun o' => by simp [World.frozen?, h1]
  rw [Lib.run_overlaps_apart w t r E ht sz (fun w => run_sizeOf hs w) ⟨g, a, none⟩ ⟨g2, b, none⟩ sl sc dl dc hne E E2 cs.length cs2.length (by simp [World.shape?, h1]) (by simp [World.shape?, h2]) (by omega) (hfz _) (hfz _)]
  rfl
end
end Go.J
/- The contracts under the index of names: how two names stand, where one stands, whether a text begins so. -/
set_option linter.unusedSimpArgs false
set_option linter.unusedVariables false
set_option linter.unusedSectionVars false
set_option maxRecDepth 20000
set_option maxHeartbeats 4000000
namespace Go.Proofs.Ytjncahmbllmllaa
open Go Go.J
attribute [local irreducible] At AtQ AtM AtM1 PR Ct Pu Rd Res.blk Res.own Res.ex RVs RV
namespace Nm
theorem isNaN (a : List UInt8) : Pu Try.prog 57 #[.string (str a)] (.bool false) := by
  refine Pu.intro fun m => ?_
  refine Ct.enterV (by rfl) Try.func57 rfl Try.ntmps57 rfl (fun w0 Rest => ?_)
  (repeat' (first | refine zss ?_ | refine zs0 ?_ | (refine zsp ?_ ?_ <;> (intro hc; (try simp only [zhcs, reduceCtorEq] at hc); (try (exfalso; first | contradiction | omega | exact absurd rfl hc | exact absurd (by decide) hc))))))
  all_goals ((with_reducible apply At.retB1 (B := [])); exact rfl; exact rfl; exact zml; exact zkp; exact ⟨by simp, rfl, rfl⟩)
theorem compare (a b : List UInt8) : Pu Try.prog 47 #[.string (str a), .string (str b)] (.int .i64 (cmpS a b)) := by
  refine Pu.intro fun m => ?_
  cases h1 : ltB a b with
  | true =>
    rw [cmpS_lt h1]
    refine Ct.enterV (by rfl) Try.func47 rfl Try.ntmps47 rfl (fun w0 Rest => ?_)
    (repeat' (first | refine zss ?_ | ((first | (with_reducible first | apply At.val | apply AtQ.val)); (exact pr_strlss (by rfl) (by rfl) h1); exact rfl) | refine zs0 ?_ | ((with_reducible first | apply AtM1.callp | apply AtQ.callp | apply At.callp); kernel_rfl; exact rfl; exact rfl; exact isNaN _) | (refine zsp ?_ ?_ <;> (intro hc; (try simp only [zhcs, reduceCtorEq] at hc); (try (exfalso; first | contradiction | omega | exact absurd rfl hc | exact absurd (by decide) hc))))))
    all_goals ((with_reducible apply At.retB1 (B := [])); exact rfl; exact rfl; exact zml; exact zkp; exact ⟨rfl, rfl, rfl⟩)
  | false =>
    cases h2 : ltB b a with
    | true =>
      rw [show cmpS a b = 1 by unfold cmpS; rw [h1, h2]; rfl]
      refine Ct.enterV (by rfl) Try.func47 rfl Try.ntmps47 rfl (fun w0 Rest => ?_)
      (repeat' (first | refine zss ?_ | ((first | (with_reducible first | apply At.val | apply AtQ.val)); (first | exact pr_strlss (by rfl) (by rfl) h1 | exact pr_strgtr (by rfl) (by rfl) h2); exact rfl) | refine zs0 ?_ | ((with_reducible first | apply AtM1.callp | apply AtQ.callp | apply At.callp); kernel_rfl; exact rfl; exact rfl; exact isNaN _) | (refine zsp ?_ ?_ <;> (intro hc; (try simp only [zhcs, reduceCtorEq] at hc); (try (exfalso; first | contradiction | omega | exact absurd rfl hc | exact absurd (by decide) hc))))))
      all_goals ((with_reducible apply At.retB1 (B := [])); exact rfl; exact rfl; exact zml; exact zkp; exact ⟨rfl, rfl, rfl⟩)
    | false =>
      rw [show cmpS a b = 0 by unfold cmpS; rw [h1, h2]; rfl]
      refine Ct.enterV (by rfl) Try.func47 rfl Try.ntmps47 rfl (fun w0 Rest => ?_)
      (repeat' (first | refine zss ?_ | ((first | (with_reducible first | apply At.val | apply AtQ.val)); (first | exact pr_strlss (by rfl) (by rfl) h1 | exact pr_strgtr (by rfl) (by rfl) h2); exact rfl) | refine zs0 ?_ | ((with_reducible first | apply AtM1.callp | apply AtQ.callp | apply At.callp); kernel_rfl; exact rfl; exact rfl; exact isNaN _) | (refine zsp ?_ ?_ <;> (intro hc; (try simp only [zhcs, reduceCtorEq] at hc); (try (exfalso; first | contradiction | omega | exact absurd rfl hc | exact absurd (by decide) hc))))))
      all_goals ((with_reducible apply At.retB1 (B := [])); exact rfl; exact rfl; exact zml; exact zkp; exact ⟨rfl, rfl, rfl⟩)
structure BS where
  (i j : Nat)
theorem hasPre' (s t : List UInt8) : Pu Try.prog 54 #[.string (str s), .string (str t)] (.bool (decide (t <+: s))) := by
  refine Pu.intro fun m => ?_
  by_cases h : t.length ≤ s.length
  · have e : decide (t <+: s) = decide (s.take t.length = t) := by
      by_cases k : t <+: s
      · rw [decide_eq_true k, decide_eq_true ((List.prefix_iff_eq_take.1 k).symm)]
      · rw [decide_eq_false k, decide_eq_false fun k' => k (List.prefix_iff_eq_take.2 k'.symm)]
    rw [e]
    refine Ct.enterV (by rfl) Try.func54 rfl Try.ntmps54 rfl (fun w0 Rest => ?_)
    (repeat' (first | refine zss ?_ | refine zs0 ?_ | (refine zsp ?_ ?_ <;> (intro hc; (try simp only [zhcs, reduceCtorEq] at hc); (try (exfalso; first | omega | contradiction | omega | exact absurd rfl hc | exact absurd (by decide) hc))))))
    all_goals ((with_reducible apply At.retB1 (B := [])); exact rfl; exact rfl; exact zml; exact zkp; exact ⟨by simp, rfl, rfl⟩)
  · rw [decide_eq_false fun k => h k.length_le]
    refine Ct.enterV (by rfl) Try.func54 rfl Try.ntmps54 rfl (fun w0 Rest => ?_)
    (repeat' (first | refine zss ?_ | refine zs0 ?_ | (refine zsp ?_ ?_ <;> (intro hc; (try simp only [zhcs, reduceCtorEq] at hc); (try (exfalso; first | omega | contradiction | omega | exact absurd rfl hc | exact absurd (by decide) hc))))))
    all_goals ((with_reducible apply At.retB1 (B := [])); exact rfl; exact rfl; exact zml; exact zkp; exact ⟨rfl, rfl, rfl⟩)
theorem hasPre (s t : List UInt8) : Pu Try.prog 39 #[.string (str s), .string (str t)] (.bool (decide (t <+: s))) := by
  refine Pu.intro fun m => ?_
  refine Ct.enterV (by rfl) Try.func39 rfl Try.ntmps39 rfl (fun w0 Rest => ?_)
  (repeat' (first | refine zss ?_ | refine zs0 ?_ | ((with_reducible first | apply AtM1.callp | apply AtQ.callp | apply At.callp); kernel_rfl; exact rfl; exact rfl; exact hasPre' _ _) | (refine zsp ?_ ?_ <;> (intro hc; (try simp only [zhcs, reduceCtorEq] at hc); (try (exfalso; first | contradiction | omega | exact absurd rfl hc | exact absurd (by decide) hc))))))
  all_goals ((with_reducible apply At.retB1 (B := [])); exact rfl; exact rfl; exact zml; exact zkp; exact ⟨rfl, rfl, rfl⟩)
end Nm
end Go.Proofs.Ytjncahmbllmllaa
/- The contracts of matchers. -/
set_option linter.unusedSimpArgs false
set_option linter.unusedVariables false
set_option linter.unusedSectionVars false
set_option maxRecDepth 20000
set_option maxHeartbeats 4000000
namespace Go.Proofs.Ytjncahmbllmllaa
open Go Go.J
attribute [local irreducible] At AtQ AtM AtM1 PR Ct Pu Rd Res.blk Res.own Res.ex RVs RV
namespace Mt
theorem pre_iff (t s : List UInt8) : t <+: s ↔ t.length ≤ s.length ∧ s.take t.length = t := ⟨fun h => ⟨h.length_le, (List.prefix_iff_eq_take.1 h).symm⟩, fun h => List.prefix_iff_eq_take.2 h.2.symm⟩
theorem hits {m : Mem} (x : Mat) (p : Option Addr) (c : Nat) (l : List Lab) (hl : l.length ≤ 1000000000) (sl0 : Sl m Lb.cells 2 p c l) :
    Rd Try.prog 18 #[x.val, .slice p l.length c] m [] (.bool (hit x l)) := by
  unfold Rd
  have hv := fun (m' : Mem) (hm : m.le m') => Lb.value (m := m') p c l x.n hl (sl0.mono hm)
  have hp := Nm.hasPre (Lb.val l x.n) x.v
  by_cases h1 : x.k = 1
  · rw [hit1 h1]
    generalize Lb.val l x.n = V at hv
    refine Ct.enterV (by rfl) Try.func18 rfl Try.ntmps18 rfl (fun w0 Rest => ?_)
    (repeat' (first | refine zss ?_ | refine zsM ?_ | ((with_reducible first | apply AtM1.cr | apply AtQ.cr | apply At.cr); exact rfl; exact rfl; exact fun _ hmm => hv _ hmm; exact ztk; kernel_rfl) | ((with_reducible apply At.box (d := 2)); exact rfl; exact rfl; exact rfl; intro b2) | (refine zsp ?_ ?_ <;> (intro hc; (try simp only [zhcs, reduceCtorEq] at hc); (try (exfalso; first | omega | contradiction | omega | exact absurd rfl hc | exact absurd (by decide) hc))))))
    all_goals ((with_reducible apply At.retB1 (B := [])); exact rfl; exact rfl; exact zml; exact zkp; exact ⟨congrArg Value.bool (by simp [str_inj]), rfl, rfl⟩)
  by_cases h2 : x.k = 2
  · rw [hit2 h2]
    generalize Lb.val l x.n = V at hv
    refine Ct.enterV (by rfl) Try.func18 rfl Try.ntmps18 rfl (fun w0 Rest => ?_)
    (repeat' (first | refine zss ?_ | refine zsM ?_ | ((with_reducible first | apply AtM1.cr | apply AtQ.cr | apply At.cr); exact rfl; exact rfl; exact fun _ hmm => hv _ hmm; exact ztk; kernel_rfl) | ((with_reducible apply At.box (d := 2)); exact rfl; exact rfl; exact rfl; intro b2) | (refine zsp ?_ ?_ <;> (intro hc; (try simp only [zhcs, reduceCtorEq] at hc); (try (exfalso; first | omega | contradiction | omega | exact absurd rfl hc | exact absurd (by decide) hc))))))
    all_goals ((with_reducible apply At.retB1 (B := [])); exact rfl; exact rfl; exact zml; exact zkp; exact ⟨congrArg Value.bool (by simp [str_inj]), rfl, rfl⟩)
  by_cases h3 : x.k = 3
  · rw [hit3 h3]
    generalize Lb.val l x.n = V at hv hp
    refine Ct.enterV (by rfl) Try.func18 rfl Try.ntmps18 rfl (fun w0 Rest => ?_)
    (repeat' (first | refine zss ?_ | refine zsM ?_ | ((with_reducible first | apply AtM1.cr | apply AtQ.cr | apply At.cr); exact rfl; exact rfl; exact fun _ hmm => hv _ hmm; exact ztk; kernel_rfl) | ((with_reducible first | apply AtM1.callp | apply AtQ.callp | apply At.callp); kernel_rfl; exact rfl; exact rfl; exact hp) | ((with_reducible apply At.box (d := 2)); exact rfl; exact rfl; exact rfl; intro b2) | (refine zsp ?_ ?_ <;> (intro hc; (try simp only [zhcs, reduceCtorEq] at hc); (try (exfalso; first | omega | contradiction | omega | exact absurd rfl hc | exact absurd (by decide) hc))))))
    all_goals ((with_reducible apply At.retB1 (B := [])); exact rfl; exact rfl; exact zml; exact zkp; exact ⟨rfl, rfl, rfl⟩)
  · rw [hit0 h1 h2 h3]
    generalize Lb.val l x.n = V at hv
    refine Ct.enterV (by rfl) Try.func18 rfl Try.ntmps18 rfl (fun w0 Rest => ?_)
    (repeat' (first | refine zss ?_ | refine zsM ?_ | ((with_reducible first | apply AtM1.cr | apply AtQ.cr | apply At.cr); exact rfl; exact rfl; exact fun _ hmm => hv _ hmm; exact ztk; kernel_rfl) | ((with_reducible apply At.box (d := 2)); exact rfl; exact rfl; exact rfl; intro b2) | (refine zsp ?_ ?_ <;> (intro hc; (try simp only [zhcs, reduceCtorEq] at hc); (try (exfalso; first | omega | contradiction | omega | exact absurd rfl hc | exact absurd (by decide) hc))))))
    all_goals ((with_reducible apply At.retB1 (B := [])); exact rfl; exact rfl; exact zml; exact zkp; exact ⟨rfl, rfl, rfl⟩)
abbrev pt (b : Nat) : Value := .pointer (some ⟨b, 0, none⟩)
abbrev bx (b : Nat) (p : Option Addr) (n c : Nat) : List Res := [.blk b 22 [.slice p n c]]
theorem all1 {m : Mem} (b : Nat) (x : Mat) (p : Option Addr) (c : Nat) (l : List Lab) (w : Bool) (hl : l.length ≤ 1000000000) (sl0 : Sl m Lb.cells 2 p c l) (h : hit x l = w) :
    Ct Try.prog 27 #[x.val, pt b] m (bx b p l.length c) (fun v m' B => v = .bool (!w) ∧ m = m' ∧ B = bx b p l.length c) := by
  subst h
  have hh := fun (m' : Mem) (hm : m.le m') => hits (m := m') x p c l hl (sl0.mono hm)
  refine Ct.enterV (by rfl) Try.func27 rfl Try.ntmps27 rfl (fun w0 Rest => ?_)
  (repeat' (first | refine zss ?_ | refine zs0 ?_ | ((with_reducible first | apply AtM1.cr | apply AtQ.cr | apply At.cr); exact rfl; exact rfl; exact fun _ hmm => hh _ hmm; exact ztk; kernel_rfl) | ((with_reducible apply At.box (d := 2)); exact rfl; exact rfl; exact rfl; intro b2) | (refine zsp ?_ ?_ <;> (intro hc; (try simp only [zhcs, reduceCtorEq] at hc); (try (exfalso; first | contradiction | omega | exact absurd rfl hc | exact absurd (by decide) hc))))))
  all_goals ((with_reducible apply At.retB1 (B := bx b p l.length c)); exact rfl; exact rfl; exact zml; exact zkp; exact ⟨rfl, rfl, rfl⟩)
theorem indexM {m : Mem} (b : Nat) (p : Option Addr) (c : Nat) (l : List Lab) (q : Option Addr) (d : Nat) (ms : List Mat) (hl : l.length ≤ 1000000000) (hm : ms.length ≤ 1000000000) (sl0 : Sl m Lb.cells 2 p c l) (sl1 : Sl m cells 3 q d ms) :
    Ct Try.prog 48 #[.slice q ms.length d, .func (.func 27) #[] #[pt b]] m (bx b p l.length c) (fun v m' B => m = m' ∧ B = bx b p l.length c ∧
      ∃ k : Int, v = .int .i64 k ∧ (0 ≤ k ↔ ¬ ∀ i, i < ms.length → hit ms[i]! l = true)) := by
  refine Ct.enterV (by rfl) Try.func48 rfl Try.ntmps48 rfl (fun w0 Rest => ?_)
  (repeat' (first | refine zss ?_ | refine zsM ?_ | (refine zsp ?_ ?_ <;> (intro hc; (try simp only [zhcs, reduceCtorEq] at hc); (try (exfalso; first | contradiction | omega | exact absurd rfl hc | exact absurd (by decide) hc))))))
  (refine At.loopk (σ := Nat) [0, 1, 7] (fun s F0 => (8, .int .i64 (s : Int)) :: F0) (fun s => m) (fun s => .blk b 22 [.slice p l.length c] :: Rest) (fun s => s ≤ ms.length ∧ ∀ i, i < s → hit ms[i]! l = true) (fun s => ms.length - s) 0 (by rfl) ?_ zsubs zml zente ?_)
  · exact ⟨Nat.zero_le _, fun i h => absurd h (Nat.not_lt_zero i)⟩
  rintro j ⟨hs, hn⟩
  by_cases h : j < ms.length
  · cases e : hit ms[j]! l with
    | false =>
      have hcl := all1 (m := m) b (ms[j]!) p c l false hl sl0 e
      rw [Bool.not_false] at hcl
      (repeat' (first | refine zss ?_ | refine zsM ?_ | ((with_reducible apply At.callf); exact rfl; kernel_rfl; exact rfl; exact rfl; exact hcl; exact ztk; rintro v' m' B' hm' ⟨rfl, rfl, rfl⟩; (try replace sl0 := sl0.mono hm'); (try replace sl1 := sl1.mono hm')) | (refine zsp ?_ ?_ <;> (intro hc; (try simp only [zhcs, reduceCtorEq] at hc); (try (exfalso; first | omega | contradiction | omega | exact absurd rfl hc | exact absurd (by decide) hc))))))
      all_goals ((with_reducible apply At.retB1 (B := bx b p l.length c)); exact rfl; exact rfl; exact zml; exact zkp; exact ⟨rfl, rfl, _, rfl, ⟨fun _ hh => absurd ((hh j h).symm.trans e) (by decide), fun _ => by omega⟩⟩)
    | true =>
      have hcl := all1 (m := m) b (ms[j]!) p c l true hl sl0 e
      rw [Bool.not_true] at hcl
      have hnn : ∀ i, i < j + 1 → hit ms[i]! l = true := fun i hi => by
        by_cases e1 : i = j
        · subst e1; exact e
        · exact hn i (by omega)
      (repeat' (first | refine zss ?_ | refine zsM ?_ | ((with_reducible apply At.callf); exact rfl; kernel_rfl; exact rfl; exact rfl; exact hcl; exact ztk; rintro v' m' B' hm' ⟨rfl, rfl, rfl⟩; (try replace sl0 := sl0.mono hm'); (try replace sl1 := sl1.mono hm')) | (refine zsp ?_ ?_ <;> (intro hc; (try simp only [zhcs, reduceCtorEq] at hc); (try (exfalso; first | omega | contradiction | omega | exact absurd rfl hc | exact absurd (by decide) hc))))))
      all_goals ((with_reducible refine At.reachk ((j + 1)) ?_ ?_ ?_ ?_); exact zsubs; exact zml; exact zente; exact ⟨⟨h, hnn⟩, by omega⟩)
  · (repeat' (first | refine zss ?_ | refine zsM ?_ | (refine zsp ?_ ?_ <;> (intro hc; (try simp only [zhcs, reduceCtorEq] at hc); (try (exfalso; first | omega | contradiction | omega | exact absurd rfl hc | exact absurd (by decide) hc))))))
    all_goals ((with_reducible apply At.retB1 (B := bx b p l.length c)); exact rfl; exact rfl; exact zml; exact zkp; exact ⟨rfl, rfl, _, rfl, ⟨fun hh => absurd hh (by decide), fun hh => absurd (fun i hi => hn i (by omega)) hh⟩⟩)
theorem containsM {m : Mem} (b : Nat) (p : Option Addr) (c : Nat) (l : List Lab) (q : Option Addr) (d : Nat) (ms : List Mat) (hl : l.length ≤ 1000000000) (hm : ms.length ≤ 1000000000) (sl0 : Sl m Lb.cells 2 p c l) (sl1 : Sl m cells 3 q d ms) :
    Ct Try.prog 24 #[.slice q ms.length d, .func (.func 27) #[] #[pt b]] m (bx b p l.length c) (fun v m' B => v = .bool (!all ms l) ∧ m = m' ∧ B = bx b p l.length c) := by
  have hi := indexM (m := m) b p c l q d ms hl hm sl0 sl1
  refine Ct.enterV (by rfl) Try.func24 rfl Try.ntmps24 rfl (fun w0 Rest => ?_)
  (repeat' (first | refine zss ?_ | refine zsM ?_ | ((with_reducible first | apply At.c1 | apply At.c0); exact rfl; exact rfl; exact hi; exact ztk; kernel_rfl; rintro v' m' B' hm' ⟨rfl, rfl, k, rfl, hk⟩; (try replace sl0 := sl0.mono hm'); (try replace sl1 := sl1.mono hm'); (try (have hq0 : hm' = Mem.le_refl _ := rfl; clear hq0 hm'))) | (refine zsp ?_ ?_ <;> (intro hc; (try simp only [zhcs, reduceCtorEq] at hc); (try (exfalso; first | contradiction | omega | exact absurd rfl hc | exact absurd (by decide) hc))))))
  all_goals ((with_reducible apply At.retB1 (B := bx b p l.length c)); exact rfl; exact rfl; exact zml; exact zkp; exact ⟨congrArg Value.bool (by unfold all; rw [← decide_not, decide_eq_decide]; exact hk), rfl, rfl⟩)
theorem allM {m : Mem} (p : Option Addr) (c : Nat) (l : List Lab) (q : Option Addr) (d : Nat) (ms : List Mat) (hl : l.length ≤ 1000000000) (hm : ms.length ≤ 1000000000) (sl0 : Sl m Lb.cells 2 p c l) (sl1 : Sl m cells 3 q d ms) :
    Rd Try.prog 13 #[.slice q ms.length d, .slice p l.length c] m [] (.bool (all ms l)) := by
  unfold Rd
  refine Ct.enterV (by rfl) Try.func13 rfl Try.ntmps13 rfl (fun w0 Rest => ?_)
  (repeat' (first | refine zss ?_ | refine zsM ?_ | ((with_reducible first | apply At.c1 | apply At.c0); exact rfl; exact rfl; exact containsM _ p c l q d ms hl hm sl0 sl1; exact ztk; kernel_rfl; rintro v' m' B' hm' ⟨rfl, rfl, rfl⟩; (try replace sl0 := sl0.mono hm'); (try replace sl1 := sl1.mono hm'); (try (have hq0 : hm' = Mem.le_refl _ := rfl; clear hq0 hm'))) | ((with_reducible apply At.box (d := 3)); exact rfl; exact rfl; exact rfl; intro b3) | (refine zsp ?_ ?_ <;> (intro hc; (try simp only [zhcs, reduceCtorEq] at hc); (try (exfalso; first | contradiction | omega | exact absurd rfl hc | exact absurd (by decide) hc))))))
  all_goals ((with_reducible apply At.retB1 (B := [])); exact rfl; exact rfl; exact zml; exact zkp; exact ⟨congrArg Value.bool (Bool.not_not _), rfl, rfl⟩)
end Mt
end Go.Proofs.Ytjncahmbllmllaa
/- The contracts of matchers: Check, Pick, Same. -/
set_option linter.unusedSimpArgs false
set_option linter.unusedVariables false
set_option linter.unusedSectionVars false
set_option maxRecDepth 20000
set_option maxHeartbeats 4000000
namespace Go.Proofs.Ytjncahmbllmllaa
open Go Go.J
attribute [local irreducible] At AtQ AtM AtM1 PR Ct Pu Rd Res.blk Res.own Res.ex RVs RV
namespace Mt
def Mid (x : Mat) : Prop := x.n.length ≤ 1000000000000 ∧ x.v.length ≤ 1000000000000
theorem Mid.lab {x : Mat} (h : Mid x) : Lb.Mid [lab x] := fun i hi => by
  have : i = 0 := by simpa using hi
  subst this; exact h
theorem rgt_no {x : Mat} (h : ¬ (1 ≤ x.k ∧ x.k ≤ 3)) : rgt x = false := decide_eq_false fun k => h k.1
theorem rgt_yes {x : Mat} (h : 1 ≤ x.k ∧ x.k ≤ 3) : rgt x = decide (Lb.chk [lab x] = 0) := by
  unfold rgt; rw [decide_eq_decide]; exact ⟨fun k => k.2, fun k => ⟨h, k⟩⟩
theorem right1 (x : Mat) (hx : Mid x) : Pu Try.prog 26 #[x.val] (.bool (rgt x)) := Pu.of_le fun m => by
  by_cases h : 1 ≤ x.k ∧ x.k ≤ 3
  · rw [rgt_yes h]
    have hch := fun (m' : Mem) (p : Option Addr) (c : Nat) => Lb.check (m := m') p c [lab x] hx.lab
    generalize Lb.chk [lab x] = r at hch
    refine Ct.enterV (by rfl) Try.func26 rfl Try.ntmps26 rfl (fun w0 Rest => ?_)
    (repeat' (first | refine zss ?_ | refine zsM ?_ | ((with_reducible apply At.litF Lb.cells [lab x]); exact inferInstance; (iterate 7 exact rfl); intro b' m' hm' sl1; skip) | ((with_reducible first | apply AtM1.cr | apply AtQ.cr | apply At.cr); exact rfl; exact rfl; exact fun _ hmm => hch _ _ _ (sl1.mono hmm); exact ztk; kernel_rfl) | ((with_reducible apply At.box (d := 1)); exact rfl; exact rfl; exact rfl; intro b1) | (refine zsp ?_ ?_ <;> (intro hc; (try simp only [zhcs, reduceCtorEq] at hc); (try (exfalso; first | omega | contradiction | omega | exact absurd rfl hc | exact absurd (by decide) hc))))))
    all_goals ((with_reducible apply At.retB1 (B := [])); exact rfl; exact rfl; exact zml; exact zkp; exact ⟨rfl, by first | exact Mem.le_refl _ | assumption, rfl⟩)
  · rw [rgt_no h]
    refine Ct.enterV (by rfl) Try.func26 rfl Try.ntmps26 rfl (fun w0 Rest => ?_)
    (repeat' (first | refine zss ?_ | refine zsM ?_ | ((with_reducible apply At.box (d := 1)); exact rfl; exact rfl; exact rfl; intro b1) | (refine zsp ?_ ?_ <;> (intro hc; (try simp only [zhcs, reduceCtorEq] at hc); (try (exfalso; first | omega | contradiction | omega | exact absurd rfl hc | exact absurd (by decide) hc))))))
    all_goals ((with_reducible apply At.retB1 (B := [])); exact rfl; exact rfl; exact zml; exact zkp; exact ⟨rfl, Mem.le_refl _, rfl⟩)
abbrev fnR : Value := .func (.func 25) #[] #[]
theorem check1 {m : Mem} (x : Mat) (w : Bool) (hx : Mid x) (h : rgt x = w) : Ct Try.prog 25 #[x.val] m [] (fun v m' B => v = .bool (!w) ∧ m = m' ∧ B = []) := by
  subst h
  have hh := right1 x hx
  refine Ct.enterV (by rfl) Try.func25 rfl Try.ntmps25 rfl (fun w0 Rest => ?_)
  (repeat' (first | refine zss ?_ | refine zs0 ?_ | ((with_reducible first | apply AtM1.callp | apply AtQ.callp | apply At.callp); kernel_rfl; exact rfl; exact rfl; exact hh) | ((with_reducible apply At.box (d := 1)); exact rfl; exact rfl; exact rfl; intro b1) | (refine zsp ?_ ?_ <;> (intro hc; (try simp only [zhcs, reduceCtorEq] at hc); (try (exfalso; first | contradiction | omega | exact absurd rfl hc | exact absurd (by decide) hc))))))
  all_goals ((with_reducible apply At.retB1 (B := [])); exact rfl; exact rfl; exact zml; exact zkp; exact ⟨rfl, rfl, rfl⟩)
theorem indexR {m : Mem} (q : Option Addr) (d : Nat) (ms : List Mat) (hm : ms.length ≤ 1000000000) (hx : ∀ i, i < ms.length → Mid ms[i]!) (sl1 : Sl m cells 3 q d ms) :
    Ct Try.prog 48 #[.slice q ms.length d, fnR] m [] (fun v m' B => m = m' ∧ B = [] ∧
      ∃ k : Int, v = .int .i64 k ∧ (0 ≤ k ↔ ¬ ∀ i, i < ms.length → rgt ms[i]! = true)) := by
  refine Ct.enterV (by rfl) Try.func48 rfl Try.ntmps48 rfl (fun w0 Rest => ?_)
  (repeat' (first | refine zss ?_ | refine zsM ?_ | (refine zsp ?_ ?_ <;> (intro hc; (try simp only [zhcs, reduceCtorEq] at hc); (try (exfalso; first | contradiction | omega | exact absurd rfl hc | exact absurd (by decide) hc))))))
  (refine At.loopk (σ := Nat) [0, 1, 7] (fun s F0 => (8, .int .i64 (s : Int)) :: F0) (fun s => m) (fun s => Rest) (fun s => s ≤ ms.length ∧ ∀ i, i < s → rgt ms[i]! = true) (fun s => ms.length - s) 0 (by rfl) ?_ zsubs zml zente ?_)
  · exact ⟨Nat.zero_le _, fun i h => absurd h (Nat.not_lt_zero i)⟩
  rintro j ⟨hs, hn⟩
  by_cases h : j < ms.length
  · cases e : rgt ms[j]! with
    | false =>
      have hcl := check1 (m := m) (ms[j]!) false (hx j h) e
      rw [Bool.not_false] at hcl
      (repeat' (first | refine zss ?_ | refine zsM ?_ | ((with_reducible apply At.callf); exact rfl; kernel_rfl; exact rfl; exact rfl; exact hcl; exact ztk; rintro v' m' B' hm' ⟨rfl, rfl, rfl⟩; (try replace sl1 := sl1.mono hm')) | (refine zsp ?_ ?_ <;> (intro hc; (try simp only [zhcs, reduceCtorEq] at hc); (try (exfalso; first | omega | contradiction | omega | exact absurd rfl hc | exact absurd (by decide) hc))))))
      all_goals ((with_reducible apply At.retB1 (B := [])); exact rfl; exact rfl; exact zml; exact zkp; exact ⟨rfl, rfl, _, rfl, ⟨fun _ hh => absurd ((hh j h).symm.trans e) (by decide), fun _ => by omega⟩⟩)
    | true =>
      have hcl := check1 (m := m) (ms[j]!) true (hx j h) e
      rw [Bool.not_true] at hcl
      have hnn : ∀ i, i < j + 1 → rgt ms[i]! = true := fun i hi => by
        by_cases e1 : i = j
        · subst e1; exact e
        · exact hn i (by omega)
      (repeat' (first | refine zss ?_ | refine zsM ?_ | ((with_reducible apply At.callf); exact rfl; kernel_rfl; exact rfl; exact rfl; exact hcl; exact ztk; rintro v' m' B' hm' ⟨rfl, rfl, rfl⟩; (try replace sl1 := sl1.mono hm')) | (refine zsp ?_ ?_ <;> (intro hc; (try simp only [zhcs, reduceCtorEq] at hc); (try (exfalso; first | omega | contradiction | omega | exact absurd rfl hc | exact absurd (by decide) hc))))))
      all_goals ((with_reducible refine At.reachk ((j + 1)) ?_ ?_ ?_ ?_); exact zsubs; exact zml; exact zente; exact ⟨⟨h, hnn⟩, by omega⟩)
  · (repeat' (first | refine zss ?_ | refine zsM ?_ | (refine zsp ?_ ?_ <;> (intro hc; (try simp only [zhcs, reduceCtorEq] at hc); (try (exfalso; first | omega | contradiction | omega | exact absurd rfl hc | exact absurd (by decide) hc))))))
    all_goals ((with_reducible apply At.retB1 (B := [])); exact rfl; exact rfl; exact zml; exact zkp; exact ⟨rfl, rfl, _, rfl, ⟨fun hh => absurd hh (by decide), fun hh => absurd (fun i hi => hn i (by omega)) hh⟩⟩)
theorem containsR {m : Mem} (q : Option Addr) (d : Nat) (ms : List Mat) (w : Bool) (hm : ms.length ≤ 1000000000) (hx : ∀ i, i < ms.length → Mid ms[i]!) (sl1 : Sl m cells 3 q d ms) (hw : decide (∀ i, i < ms.length → rgt ms[i]! = true) = w) :
    Ct Try.prog 24 #[.slice q ms.length d, fnR] m [] (fun v m' B => v = .bool (!w) ∧ m = m' ∧ B = []) := by
  subst hw
  have hi := indexR (m := m) q d ms hm hx sl1
  refine Ct.enterV (by rfl) Try.func24 rfl Try.ntmps24 rfl (fun w0 Rest => ?_)
  (repeat' (first | refine zss ?_ | refine zsM ?_ | ((with_reducible first | apply At.c1 | apply At.c0); exact rfl; exact rfl; exact hi; exact ztk; kernel_rfl; rintro v' m' B' hm' ⟨rfl, rfl, k, rfl, hk⟩; (try replace sl1 := sl1.mono hm'); (try (have hq0 : hm' = Mem.le_refl _ := rfl; clear hq0 hm'))) | (refine zsp ?_ ?_ <;> (intro hc; (try simp only [zhcs, reduceCtorEq] at hc); (try (exfalso; first | contradiction | omega | exact absurd rfl hc | exact absurd (by decide) hc))))))
  all_goals ((with_reducible apply At.retB1 (B := [])); exact rfl; exact rfl; exact zml; exact zkp; exact ⟨congrArg Value.bool (by rw [← decide_not, decide_eq_decide]; exact hk), rfl, rfl⟩)
theorem chk_long {ms : List Mat} (h : 16 < ms.length) : chk ms = 2 := if_neg fun k => by have := k.1; omega
theorem checkM {m : Mem} (q : Option Addr) (d : Nat) (ms : List Mat) (hm : ms.length ≤ 1000000000) (hx : ∀ i, i < ms.length → Mid ms[i]!) (sl1 : Sl m cells 3 q d ms) :
    Rd Try.prog 12 #[.slice q ms.length d] m [] (.int .i64 (chk ms)) := by
  unfold Rd
  by_cases h : 16 < ms.length
  · rw [chk_long h]
    refine Ct.enterV (by rfl) Try.func12 rfl Try.ntmps12 rfl (fun w0 Rest => ?_)
    (repeat' (first | refine zss ?_ | refine zsM ?_ | (refine zsp ?_ ?_ <;> (intro hc; (try simp only [zhcs, reduceCtorEq] at hc); (try (exfalso; first | omega | contradiction | omega | exact absurd rfl hc | exact absurd (by decide) hc))))))
    all_goals ((with_reducible apply At.retB1 (B := [])); exact rfl; exact rfl; exact zml; exact zkp; exact ⟨rfl, rfl, rfl⟩)
  · have hi := fun w hw => containsR (m := m) q d ms w hm hx sl1 hw
    by_cases hr : ∀ i, i < ms.length → rgt ms[i]! = true
    · rw [show chk ms = 0 from if_pos ⟨by omega, hr⟩]
      have hi := hi true (decide_eq_true hr)
      rw [Bool.not_true] at hi
      refine Ct.enterV (by rfl) Try.func12 rfl Try.ntmps12 rfl (fun w0 Rest => ?_)
      (repeat' (first | refine zss ?_ | refine zsM ?_ | ((with_reducible first | apply At.c1 | apply At.c0); exact rfl; exact rfl; exact hi; exact ztk; kernel_rfl; rintro v' m' B' hm' ⟨rfl, rfl, rfl⟩; (try replace sl1 := sl1.mono hm'); (try (have hq0 : hm' = Mem.le_refl _ := rfl; clear hq0 hm'))) | (refine zsp ?_ ?_ <;> (intro hc; (try simp only [zhcs, reduceCtorEq] at hc); (try (exfalso; first | omega | contradiction | omega | exact absurd rfl hc | exact absurd (by decide) hc))))))
      all_goals ((with_reducible apply At.retB1 (B := [])); exact rfl; exact rfl; exact zml; exact zkp; exact ⟨rfl, rfl, rfl⟩)
    · rw [show chk ms = 2 from if_neg fun k => hr k.2]
      have hi := hi false (decide_eq_false hr)
      rw [Bool.not_false] at hi
      refine Ct.enterV (by rfl) Try.func12 rfl Try.ntmps12 rfl (fun w0 Rest => ?_)
      (repeat' (first | refine zss ?_ | refine zsM ?_ | ((with_reducible first | apply At.c1 | apply At.c0); exact rfl; exact rfl; exact hi; exact ztk; kernel_rfl; rintro v' m' B' hm' ⟨rfl, rfl, rfl⟩; (try replace sl1 := sl1.mono hm'); (try (have hq0 : hm' = Mem.le_refl _ := rfl; clear hq0 hm'))) | (refine zsp ?_ ?_ <;> (intro hc; (try simp only [zhcs, reduceCtorEq] at hc); (try (exfalso; first | omega | contradiction | omega | exact absurd rfl hc | exact absurd (by decide) hc))))))
      all_goals ((with_reducible apply At.retB1 (B := [])); exact rfl; exact rfl; exact zml; exact zkp; exact ⟨rfl, rfl, rfl⟩)
end Mt
end Go.Proofs.Ytjncahmbllmllaa
/- The contracts of Sort, for few labels. -/
set_option linter.unusedSimpArgs false
set_option linter.unusedVariables false
set_option linter.unusedSectionVars false
set_option maxRecDepth 20000
set_option maxHeartbeats 4000000
namespace Go.Proofs.Ytjncahmbllmllaa
open Go Go.J
attribute [local irreducible] At AtQ AtM AtM1 PR Ct Pu Rd Res.blk Res.own Res.ex RVs RV
namespace Lb
abbrev oL (p : Option Addr) (c : Nat) (l : List Lab) : Res := .own cells 2 29 p c l
abbrev fnS : Value := .func (.func 46) #[] #[]
theorem sort1 {m : Mem} (a b : Lab) (r : Int) (h : Nm.cmpS a.n b.n = r) : Ct Try.prog 46 #[a.val, b.val] m [] (fun v m' B => v = .int .i64 r ∧ m = m' ∧ B = []) := by
  subst h
  refine Ct.enterV (by rfl) Try.func46 rfl Try.ntmps46 rfl (fun w0 Rest => ?_)
  (repeat' (first | refine zss ?_ | refine zs0 ?_ | ((with_reducible first | apply AtM1.callp | apply AtQ.callp | apply At.callp); kernel_rfl; exact rfl; exact rfl; exact Nm.compare _ _) | ((with_reducible apply At.box (d := 2)); exact rfl; exact rfl; exact rfl; intro b2) | ((with_reducible apply At.box (d := 3)); exact rfl; exact rfl; exact rfl; intro b3) | (refine zsp ?_ ?_ <;> (intro hc; (try simp only [zhcs, reduceCtorEq] at hc); (try (exfalso; first | contradiction | omega | exact absurd rfl hc | exact absurd (by decide) hc))))))
  all_goals ((with_reducible apply At.retB1 (B := [])); exact rfl; exact rfl; exact zml; exact zkp; exact ⟨rfl, rfl, rfl⟩)
set_option maxHeartbeats 1000000 in
theorem insX0 {m : Mem} (p : Option Addr) (c : Nat) (l : List Lab) (hl : l.length ≤ 1000000) :
    Ct Try.prog 60 #[.slice p l.length c, .int .i64 0, .int .i64 (l.length : Int), fnS] m [oL p c (srtL (l.take 1) ++ l.drop 1)] (fun v m' B => v = .tuple #[] ∧ m = m' ∧ B = [oL p c (srtL l)]) := by
  refine Ct.enterV (by rfl) Try.func60 rfl Try.ntmps60 rfl (fun w0 Rest => ?_)
  (repeat' (first | refine zss ?_ | refine zsO ?_ | (refine zsp ?_ ?_ <;> (intro hc; (try simp only [zhcs, reduceCtorEq] at hc); (try (exfalso; first | contradiction | omega | exact absurd rfl hc | exact absurd (by decide) hc))))))
  (refine At.loopk (σ := Nat) [0, 1, 2, 3] (fun s F0 => (8, .int .i64 ((s + 1 : Nat) : Int)) :: F0) (fun s => m) (fun s => oL p c (srtL (l.take (s + 1)) ++ l.drop (s + 1)) :: Rest) (fun s => True) (fun s => l.length - s) 0 (by rfl) ?_ zsubs zml zente ?_)
  · trivial
  rintro i -
  by_cases h : i + 1 < l.length
  · have hD : srtL (l.take (i + 1)) ++ l.drop (i + 1) = way (srtL (l.take (i + 1))) l[i + 1]! (l.drop (i + 1 + 1)) (i + 1) := by
      have hP : (srtL (l.take (i + 1))).length = i + 1 := by rw [len_srt, List.length_take]; omega
      have := way_top (P := srtL (l.take (i + 1))) (x := l[i + 1]!) (R := l.drop (i + 1 + 1))
      rw [hP] at this
      rw [this, ← Ls.drop_cons h]
    have hN := srt_snoc h
    have hP : (srtL (l.take (i + 1))).length = i + 1 := by rw [len_srt, List.length_take]; omega
    have hR : (l.drop (i + 1 + 1)).length = l.length - (i + 1 + 1) := List.length_drop ..
    rw [hD]
    generalize srtL (l.take (i + 1)) = P at hN hP
    generalize l[i + 1]! = x at hN
    obtain ⟨Z, eZ⟩ : ∃ Z, srtL (l.take (i + 1 + 1)) ++ l.drop (i + 1 + 1) = Z := ⟨_, rfl⟩
    have hC : ∀ j, atF P x.n P.length = j → way P x (l.drop (i + 1 + 1)) j = Z := fun j hj => by rw [way_end hj, ← hN, eZ]
    generalize l.drop (i + 1 + 1) = R at hR hC
    (repeat' (first | refine zss ?_ | refine zsO ?_ | (refine zsp ?_ ?_ <;> (intro hc; (try simp only [zhcs, reduceCtorEq] at hc); (try (exfalso; first | omega | contradiction | omega | exact absurd rfl hc | exact absurd (by decide) hc))))))
    (refine At.loopk (σ := Nat) [0, 1, 2, 3, 8] (fun s F0 => (9, .int .i64 (s : Int)) :: F0) (fun s => m) (fun s => oL p c (way P x R s) :: Rest) (fun s => s ≤ P.length ∧ atF P x.n P.length = atF P x.n s) (fun s => s) (i + 1) (by rfl) ?_ zsubs zml zente ?_)
    · exact ⟨by omega, by rw [hP]⟩
    rintro j ⟨hj, ha⟩
    have hlw : (way P x R j).length = l.length := by rw [len_way]; omega
    cases j with
    | zero =>
      rw [hC 0 ha]
      (repeat' (first | ((with_reducible apply At.mixed (id := 4) 17 (.q 0 (.q 1 (.q 2 (.q 3 (.q 4 (.q 5 (.q 6 (.q 7 (.q 8 (.q 9 (.q 10 (.q 11 (.q 12 (.q 13 (.x 14 (.q 15 (.q 16 .done)))))))))))))))))); exact rfl; kernel_rfl; kernel_rfl; kernel_rfl) | ((with_reducible apply At.mixed (id := 6) 18 (.q 0 (.q 1 (.q 2 (.q 3 (.q 4 (.q 5 (.q 6 (.q 7 (.q 8 (.q 9 (.q 10 (.q 11 (.q 12 (.q 13 (.q 14 (.x 15 (.q 16 (.x 17 .done))))))))))))))))))); exact rfl; kernel_rfl; kernel_rfl; kernel_rfl) | refine zsx ?_ | refine zss ?_ | ((with_reducible apply AtM.bo); exact rfl; exact rfl; exact rfl) | refine zsO ?_ | refine zxO ?_ | (refine zsp ?_ ?_ <;> (intro hc; (try simp only [zhcs, reduceCtorEq] at hc); (try (exfalso; first | omega | contradiction | omega | exact absurd rfl hc | exact absurd (by decide) hc))))))
      all_goals rw [← eZ]
      all_goals ((with_reducible refine At.reachk ((i + 1)) ?_ ?_ ?_ ?_); exact zsubs; exact zml; exact zente; exact ⟨trivial, by omega⟩)
    | succ k =>
      have hw : IntKind.wrap .i64 (((k + 1 : Nat) : Int) - 1) = (k : Int) := by rw [show ((k + 1 : Nat) : Int) - 1 = (k : Int) by omega]; exact IntWalk.i64_in _ (by omega)
      have hx := way_x (P := P) (R := R) (x := x) hj
      have hp := way_p (P := P) (R := R) (x := x) (j := k) (by omega)
      cases e : ltB x.n P[k]!.n with
      | true =>
        have hcm := fun (m : Mem) => sort1 (m := m) ((way P x R (k + 1))[k + 1]!) ((way P x R (k + 1))[k]!) (-1) (by rw [hx, hp]; exact Nm.cmpS_lt e)
        have hsw : ((way P x R (k + 1)).set (k + 1) ((way P x R (k + 1))[k]!)).set k ((way P x R (k + 1))[k + 1]!) = way P x R k := by rw [hx, hp]; exact way_sw (by omega)
        generalize way P x R (k + 1) = W at hlw hcm hsw
        (repeat' (first | ((with_reducible apply At.mixed (id := 4) 17 (.q 0 (.q 1 (.q 2 (.q 3 (.q 4 (.q 5 (.q 6 (.q 7 (.q 8 (.q 9 (.q 10 (.q 11 (.q 12 (.q 13 (.x 14 (.q 15 (.q 16 .done)))))))))))))))))); exact rfl; kernel_rfl; kernel_rfl; kernel_rfl) | ((with_reducible apply At.mixed (id := 6) 18 (.q 0 (.q 1 (.q 2 (.q 3 (.q 4 (.q 5 (.q 6 (.q 7 (.q 8 (.q 9 (.q 10 (.q 11 (.q 12 (.q 13 (.q 14 (.x 15 (.q 16 (.x 17 .done))))))))))))))))))); exact rfl; kernel_rfl; kernel_rfl; kernel_rfl) | refine zsx ?_ | refine zss ?_ | ((with_reducible apply AtM.bo); exact rfl; exact rfl; exact rfl) | ((first | (with_reducible first | apply At.val | apply AtQ.val) | ((with_reducible first | apply AtM1.valz | apply AtM1.val); exact rfl) | ((with_reducible apply AtM1.val); exact rfl)); (exact pr_sub (by rfl) (by rfl) hw); exact rfl) | refine zsO ?_ | refine zxO ?_ | ((with_reducible apply At.callf); exact rfl; kernel_rfl; exact rfl; exact rfl; exact hcm _; exact ztk; rintro v' m' B' hm' ⟨rfl, rfl, rfl⟩; skip) | ((with_reducible apply At.storeW (f := cells) (x' := (W[k]!))); (iterate 3 exact rfl); exact (by repeat constructor); exact rfl; exact inferInstance; exact zom; (iterate 3 exact rfl)) | ((with_reducible apply At.storeW (f := cells) (x' := (W[k + 1]!))); (iterate 3 exact rfl); exact (by repeat constructor); exact rfl; exact inferInstance; exact zom; (iterate 3 exact rfl)) | (refine zsp ?_ ?_ <;> (intro hc; (try simp only [zhcs, reduceCtorEq] at hc); (try (exfalso; first | omega | contradiction | omega | exact absurd rfl hc | exact absurd (by decide) hc))))))
        all_goals rw [hsw]
        all_goals ((with_reducible refine At.reachk (k) ?_ ?_ ?_ ?_); exact zsubs; exact zml; exact zente; exact ⟨⟨by omega, by rw [ha, atF_dn e]⟩, by omega⟩)
      | false =>
        obtain ⟨r, hr⟩ : ∃ r, Nm.cmpS x.n P[k]!.n = r := ⟨_, rfl⟩
        have hr0 : 0 ≤ r := by rw [← hr]; exact Nm.cmpS_ge e
        have hcm := fun (m : Mem) => sort1 (m := m) ((way P x R (k + 1))[k + 1]!) ((way P x R (k + 1))[k]!) r (by rw [hx, hp]; exact hr)
        have hCe := hC (k + 1) (by rw [ha, atF_st e])
        rw [hCe] at hcm hlw ⊢
        (repeat' (first | ((with_reducible apply At.mixed (id := 4) 17 (.q 0 (.q 1 (.q 2 (.q 3 (.q 4 (.q 5 (.q 6 (.q 7 (.q 8 (.q 9 (.q 10 (.q 11 (.q 12 (.q 13 (.x 14 (.q 15 (.q 16 .done)))))))))))))))))); exact rfl; kernel_rfl; kernel_rfl; kernel_rfl) | ((with_reducible apply At.mixed (id := 6) 18 (.q 0 (.q 1 (.q 2 (.q 3 (.q 4 (.q 5 (.q 6 (.q 7 (.q 8 (.q 9 (.q 10 (.q 11 (.q 12 (.q 13 (.q 14 (.x 15 (.q 16 (.x 17 .done))))))))))))))))))); exact rfl; kernel_rfl; kernel_rfl; kernel_rfl) | refine zsx ?_ | refine zss ?_ | ((with_reducible apply AtM.bo); exact rfl; exact rfl; exact rfl) | ((first | (with_reducible first | apply At.val | apply AtQ.val) | ((with_reducible first | apply AtM1.valz | apply AtM1.val); exact rfl) | ((with_reducible apply AtM1.val); exact rfl)); (exact pr_sub (by rfl) (by rfl) hw); exact rfl) | refine zsO ?_ | refine zxO ?_ | ((with_reducible apply At.callf); exact rfl; kernel_rfl; exact rfl; exact rfl; exact hcm _; exact ztk; rintro v' m' B' hm' ⟨rfl, rfl, rfl⟩; skip) | (refine zsp ?_ ?_ <;> (intro hc; (try simp only [zhcs, reduceCtorEq] at hc); (try (exfalso; first | omega | contradiction | omega | exact absurd rfl hc | exact absurd (by decide) hc))))))
        all_goals rw [← eZ]
        all_goals ((with_reducible refine At.reachk ((i + 1)) ?_ ?_ ?_ ?_); exact zsubs; exact zml; exact zente; exact ⟨trivial, by omega⟩)
  · have hE : srtL (l.take (i + 1)) ++ l.drop (i + 1) = srtL l := by rw [List.take_of_length_le (by omega), List.drop_of_length_le (by omega), List.append_nil]
    rw [hE]
    (repeat' (first | refine zss ?_ | refine zsO ?_ | (refine zsp ?_ ?_ <;> (intro hc; (try simp only [zhcs, reduceCtorEq] at hc); (try (exfalso; first | omega | contradiction | omega | exact absurd rfl hc | exact absurd (by decide) hc))))))
    all_goals ((first | (with_reducible apply At.retB0 (B := [oL p c (srtL l)])) | (with_reducible apply At.retR0 (B := [oL p c (srtL l)]))); exact rfl; exact zml; exact zkp; exact ⟨rfl, rfl, rfl⟩)
theorem one_srt (l : List Lab) : srtL (l.take 1) ++ l.drop 1 = l := by
  cases l with
  | nil => rfl
  | cons x l => rfl
theorem insX {m : Mem} (p : Option Addr) (c : Nat) (l : List Lab) (hl : l.length ≤ 1000000) :
    Ct Try.prog 60 #[.slice p l.length c, .int .i64 0, .int .i64 (l.length : Int), fnS] m [oL p c l] (fun v m' B => v = .tuple #[] ∧ m = m' ∧ B = [oL p c (srtL l)]) := by
  have h := insX0 (m := m) p c l hl
  rwa [one_srt] at h
theorem stableX {m : Mem} (p : Option Addr) (c : Nat) (l : List Lab) (hl : l.length ≤ 16) :
    Ct Try.prog 56 #[.slice p l.length c, .int .i64 (l.length : Int), fnS] m [oL p c l] (fun v m' B => v = .tuple #[] ∧ m = m' ∧ B = [oL p c (srtL l)]) := by
  have hin := insX (m := m) p c l (by omega)
  refine Ct.enterV (by rfl) Try.func56 rfl Try.ntmps56 rfl (fun w0 Rest => ?_)
  (repeat' (first | refine zss ?_ | refine zsO ?_ | (refine zsp ?_ ?_ <;> (intro hc; (try simp only [zhcs, reduceCtorEq] at hc); (try (exfalso; first | contradiction | omega | exact absurd rfl hc | exact absurd (by decide) hc))))))
  (refine At.loopk (σ := Unit) [0, 1, 2, 6] (fun s F0 => (7, .int .i64 0) :: (8, .int .i64 20) :: F0) (fun s => m) (fun s => oL p c l :: Rest) (fun s => True) (fun s => 0) () (by rfl) ?_ zsubs zml zente ?_)
  · trivial
  rintro _ -
  (repeat' (first | refine zss ?_ | refine zsO ?_ | ((with_reducible first | apply At.c1 | apply At.c0); exact rfl; exact rfl; exact hin; exact ztk; kernel_rfl; rintro v' m' B' hm' ⟨rfl, rfl, rfl⟩; skip; (try (have hq0 : hm' = Mem.le_refl _ := rfl; clear hq0 hm'))) | (refine zsp ?_ ?_ <;> (intro hc; (try simp only [zhcs, reduceCtorEq] at hc); (try (exfalso; first | omega | contradiction | omega | exact absurd rfl hc | exact absurd (by decide) hc))))))
  (refine At.loopk (σ := Unit) [0, 1, 2] (fun s F0 => (6, .int .i64 20) :: F0) (fun s => m) (fun s => oL p c (srtL l) :: Rest) (fun s => True) (fun s => 0) () (by rfl) ?_ zsubs zml zente ?_)
  · trivial
  rintro _ -
  (repeat' (first | refine zss ?_ | refine zsO ?_ | (refine zsp ?_ ?_ <;> (intro hc; (try simp only [zhcs, reduceCtorEq] at hc); (try (exfalso; first | omega | contradiction | omega | exact absurd rfl hc | exact absurd (by decide) hc))))))
  all_goals ((first | (with_reducible apply At.retB0 (B := [oL p c (srtL l)])) | (with_reducible apply At.retR0 (B := [oL p c (srtL l)]))); exact rfl; exact zml; exact zkp; exact ⟨rfl, rfl, rfl⟩)
theorem sortfX {m : Mem} (p : Option Addr) (c : Nat) (l : List Lab) (hl : l.length ≤ 16) :
    Ct Try.prog 45 #[.slice p l.length c, fnS] m [oL p c l] (fun v m' B => v = .tuple #[] ∧ m = m' ∧ B = [oL p c (srtL l)]) := by
  have hin := stableX (m := m) p c l hl
  refine Ct.enterV (by rfl) Try.func45 rfl Try.ntmps45 rfl (fun w0 Rest => ?_)
  (repeat' (first | refine zss ?_ | refine zsO ?_ | ((with_reducible first | apply At.c1 | apply At.c0); exact rfl; exact rfl; exact hin; exact ztk; kernel_rfl; rintro v' m' B' hm' ⟨rfl, rfl, rfl⟩; skip; (try (have hq0 : hm' = Mem.le_refl _ := rfl; clear hq0 hm'))) | (refine zsp ?_ ?_ <;> (intro hc; (try simp only [zhcs, reduceCtorEq] at hc); (try (exfalso; first | contradiction | omega | exact absurd rfl hc | exact absurd (by decide) hc))))))
  all_goals ((first | (with_reducible apply At.retB0 (B := [oL p c (srtL l)])) | (with_reducible apply At.retR0 (B := [oL p c (srtL l)]))); exact rfl; exact zml; exact zkp; exact ⟨rfl, rfl, rfl⟩)
theorem clone {m : Mem} (p : Option Addr) (c : Nat) (l : List Lab) (hl : l.length ≤ 1000000) (sl0 : Sl m cells 2 p c l) :
    Ct Try.prog 44 #[.slice p l.length c] m [] (fun v m' B => m = m' ∧ ∃ p2 c2, v = .slice p2 l.length c2 ∧ B = [oL p2 c2 l]) := by
  cases p with
  | none =>
    have h0 : l = [] := List.eq_nil_of_length_eq_zero (by have := sl0.nil rfl; have := sl0.le; omega)
    subst h0
    refine Ct.enterV (by rfl) Try.func44 rfl Try.ntmps44 rfl (fun w0 Rest => ?_)
    (repeat' (first | refine zss ?_ | ((first | (with_reducible first | apply At.val | apply AtQ.val)); (exact pr_sleql (by rfl) (by rfl) (by rfl)); exact rfl) | refine zsM ?_ | (refine zsp ?_ ?_ <;> (intro hc; (try simp only [zhcs, reduceCtorEq] at hc); (try (exfalso; first | contradiction | omega | exact absurd rfl hc | exact absurd (by decide) hc))))))
    all_goals refine At.own_nil cells 2 29 ?_
    all_goals ((with_reducible apply At.retB1 (B := [oL _ _ _])); exact rfl; exact rfl; exact zml; exact zkp; exact ⟨rfl, _, _, rfl, rfl⟩)
  | some a =>
    refine Ct.enterV (by rfl) Try.func44 rfl Try.ntmps44 rfl (fun w0 Rest => ?_)
    (repeat' (first | refine zss ?_ | ((first | (with_reducible first | apply At.val | apply AtQ.val)); (exact pr_sleql (by rfl) (by rfl) (by rfl)); exact rfl) | refine zsM ?_ | ((with_reducible apply At.lit cells ([] : List Lab)); exact inferInstance; (iterate 7 exact rfl); intro _) | ((with_reducible apply At.apW (f := cells)); exact rfl; exact rfl; exact (by repeat constructor); exact inferInstance; exact zrdl; (iterate 4 exact rfl); exact zom; exact rfl; intro _ _) | (refine zsp ?_ ?_ <;> (intro hc; (try simp only [zhcs, reduceCtorEq] at hc); (try (exfalso; first | contradiction | omega | exact absurd rfl hc | exact absurd (by decide) hc))))))
    all_goals ((with_reducible apply At.retB1 (B := [oL _ _ _])); exact rfl; exact rfl; exact zml; exact zkp; exact ⟨rfl, _, _, rfl, rfl⟩)
theorem sortX0 {m : Mem} (p : Option Addr) (c : Nat) (l : List Lab) (hl : l.length ≤ 16) (sl0 : Sl m cells 2 p c l) :
    Ct Try.prog 22 #[.slice p l.length c] m [] (fun v m' B => m = m' ∧ ∃ p2 c2, v = .slice p2 l.length c2 ∧ B = [oL p2 c2 (srtL l)]) := by
  have h1 := fun (m : Mem) p c => sortfX (m := m) p c l hl
  refine Ct.enterV (by rfl) Try.func22 rfl Try.ntmps22 rfl (fun w0 Rest => ?_)
  (repeat' (first | refine zss ?_ | refine zsO ?_ | ((with_reducible first | apply At.c1 | apply At.c0); exact rfl; exact rfl; exact clone p c l (by omega) sl0; exact ztk; kernel_rfl; rintro v' m' B' hm' ⟨rfl, p2, c2, rfl, rfl⟩; (try replace sl0 := sl0.mono hm'); (try (have hq0 : hm' = Mem.le_refl _ := rfl; clear hq0 hm'))) | ((with_reducible first | apply At.c1 | apply At.c0); exact rfl; exact rfl; exact h1 _ p2 c2; exact ztk; kernel_rfl; rintro v' m' B' hm' ⟨rfl, rfl, rfl⟩; (try replace sl0 := sl0.mono hm'); (try (have hq0 : hm' = Mem.le_refl _ := rfl; clear hq0 hm'))) | (refine zsp ?_ ?_ <;> (intro hc; (try simp only [zhcs, reduceCtorEq] at hc); (try (exfalso; first | contradiction | omega | exact absurd rfl hc | exact absurd (by decide) hc))))))
  all_goals ((with_reducible apply At.retB1 (B := [oL _ _ _])); exact rfl; exact rfl; exact zml; exact zkp; exact ⟨rfl, _, _, rfl, rfl⟩)
/-- labels, that stay -/
def PostL (l : List Lab) : Value → Mem → List Res → Prop := fun v m' B => B = [] ∧ ∃ p c, v = .slice p l.length c ∧ Sl m' cells 2 p c l
theorem sortX {m : Mem} (p : Option Addr) (c : Nat) (l : List Lab) (hl : l.length ≤ 16) (sl0 : Sl m cells 2 p c l) :
    Ct Try.prog 22 #[.slice p l.length c] m [] (PostL (srtL l)) :=
  Ct.slice (R := fun v p c => v = .slice p (srtL l).length c) inferInstance (Ct.mono (sortX0 p c l hl sl0) fun v m' B _ ⟨_, p, c, h2, h3⟩ => ⟨p, c, by rw [len_srt]; exact h2, h3⟩)
end Lb
end Go.Proofs.Ytjncahmbllmllaa
/- The contracts of Sort, for more labels than can be right: how many there are stays. -/
set_option linter.unusedSimpArgs false
set_option linter.unusedVariables false
set_option linter.unusedSectionVars false
set_option maxRecDepth 20000
set_option maxHeartbeats 4000000
namespace Go.Proofs.Ytjncahmbllmllaa
open Go Go.J
attribute [local irreducible] At AtQ AtM AtM1 PR Ct Pu Rd Res.blk Res.own Res.ex RVs RV
namespace Lb
/-- as many as there were -/
def PostN (p : Option Addr) (c n : Nat) : Value → Mem → Mem → List Res → Prop := fun v m m' B => v = .tuple #[] ∧ m = m' ∧ ∃ l : List Lab, l.length = n ∧ B = [oL p c l]
structure NS where
  (i : Nat) (L : List Lab)
theorem sortA {m : Mem} (a b : Lab) : Ct Try.prog 46 #[a.val, b.val] m [] (fun v m' B => v = .int .i64 (Nm.cmpS a.n b.n) ∧ m = m' ∧ B = []) := sort1 a b _ rfl
set_option maxHeartbeats 1000000 in
theorem insG {m : Mem} (p : Option Addr) (c a b n : Nat) (l : List Lab) (hn : l.length = n) (hb : b ≤ n) (ha : a ≤ n) (hl : n ≤ 1000000) :
    Ct Try.prog 60 #[.slice p n c, .int .i64 (a : Int), .int .i64 (b : Int), fnS] m [oL p c l] (fun v m' B => PostN p c n v m m' B) := by
  refine Ct.enterV (by rfl) Try.func60 rfl Try.ntmps60 rfl (fun w0 Rest => ?_)
  (repeat' (first | refine zss ?_ | refine zsO ?_ | (refine zsp ?_ ?_ <;> (intro hc; (try simp only [zhcs, reduceCtorEq] at hc); (try (exfalso; first | contradiction | omega | exact absurd rfl hc | exact absurd (by decide) hc))))))
  (refine At.loopk (σ := NS) [0, 1, 2, 3] (fun s F0 => (8, .int .i64 (s.i : Int)) :: F0) (fun s => m) (fun s => oL p c s.L :: Rest) (fun s => a + 1 ≤ s.i ∧ s.L.length = n) (fun s => n - s.i) ⟨a + 1, l⟩ (by rfl) ?_ zsubs zml zente ?_)
  · exact ⟨Nat.le_refl _, hn⟩
  rintro ⟨i, L⟩ ⟨h1, h2⟩
  dsimp only at h1 h2 ⊢
  by_cases h : i < b
  · (repeat' (first | refine zss ?_ | refine zsO ?_ | (refine zsp ?_ ?_ <;> (intro hc; (try simp only [zhcs, reduceCtorEq] at hc); (try (exfalso; first | omega | contradiction | omega | exact absurd rfl hc | exact absurd (by decide) hc))))))
    (refine At.loopk (σ := NS) [0, 1, 2, 3, 8] (fun s F0 => (9, .int .i64 (s.i : Int)) :: F0) (fun s => m) (fun s => oL p c s.L :: Rest) (fun s => s.i ≤ i ∧ s.L.length = n) (fun s => s.i) ⟨i, L⟩ (by rfl) ?_ zsubs zml zente ?_)
    · exact ⟨Nat.le_refl _, h2⟩
    rintro ⟨j, W⟩ ⟨g1, g2⟩
    dsimp only at g1 g2 ⊢
    by_cases hj : a < j
    · obtain ⟨k, rfl⟩ : ∃ k, j = k + 1 := ⟨j - 1, by omega⟩
      have hw : IntKind.wrap .i64 (((k + 1 : Nat) : Int) - 1) = (k : Int) := by rw [show ((k + 1 : Nat) : Int) - 1 = (k : Int) by omega]; exact IntWalk.i64_in _ (by omega)
      have hcm := fun (m : Mem) => sortA (m := m) (W[k + 1]!) (W[k]!)
      by_cases e : Nm.cmpS W[k + 1]!.n W[k]!.n < 0
      · generalize Nm.cmpS W[k + 1]!.n W[k]!.n = r at hcm e
        (repeat' (first | ((with_reducible apply At.mixed (id := 4) 17 (.q 0 (.q 1 (.q 2 (.q 3 (.q 4 (.q 5 (.q 6 (.q 7 (.q 8 (.q 9 (.q 10 (.q 11 (.q 12 (.q 13 (.x 14 (.q 15 (.q 16 .done)))))))))))))))))); exact rfl; kernel_rfl; kernel_rfl; kernel_rfl) | ((with_reducible apply At.mixed (id := 6) 18 (.q 0 (.q 1 (.q 2 (.q 3 (.q 4 (.q 5 (.q 6 (.q 7 (.q 8 (.q 9 (.q 10 (.q 11 (.q 12 (.q 13 (.q 14 (.x 15 (.q 16 (.x 17 .done))))))))))))))))))); exact rfl; kernel_rfl; kernel_rfl; kernel_rfl) | refine zsx ?_ | refine zss ?_ | ((with_reducible apply AtM.bo); exact rfl; exact rfl; exact rfl) | ((first | (with_reducible first | apply At.val | apply AtQ.val) | ((with_reducible first | apply AtM1.valz | apply AtM1.val); exact rfl) | ((with_reducible apply AtM1.val); exact rfl)); (exact pr_sub (by rfl) (by rfl) hw); exact rfl) | refine zsO ?_ | refine zxO ?_ | ((with_reducible apply At.callf); exact rfl; kernel_rfl; exact rfl; exact rfl; exact hcm _; exact ztk; rintro v' m' B' hm' ⟨rfl, rfl, rfl⟩; skip) | ((with_reducible apply At.storeW (f := cells) (x' := (W[k]!))); (iterate 3 exact rfl); exact (by repeat constructor); exact rfl; exact inferInstance; exact zom; (iterate 3 exact rfl)) | ((with_reducible apply At.storeW (f := cells) (x' := (W[k + 1]!))); (iterate 3 exact rfl); exact (by repeat constructor); exact rfl; exact inferInstance; exact zom; (iterate 3 exact rfl)) | (refine zsp ?_ ?_ <;> (intro hc; (try simp only [zhcs, reduceCtorEq] at hc); (try (exfalso; first | omega | contradiction | omega | exact absurd rfl hc | exact absurd (by decide) hc))))))
        all_goals ((with_reducible refine At.reachk ((⟨k, (W.set (k + 1) (W[k]!)).set k (W[k + 1]!)⟩ : NS)) ?_ ?_ ?_ ?_); exact zsubs; exact zml; exact zente; exact ⟨⟨by show k ≤ i; omega, by show ((W.set (k + 1) (W[k]!)).set k (W[k + 1]!)).length = n; simp; exact g2⟩, by show k < k + 1; omega⟩)
      · generalize Nm.cmpS W[k + 1]!.n W[k]!.n = r at hcm e
        (repeat' (first | ((with_reducible apply At.mixed (id := 4) 17 (.q 0 (.q 1 (.q 2 (.q 3 (.q 4 (.q 5 (.q 6 (.q 7 (.q 8 (.q 9 (.q 10 (.q 11 (.q 12 (.q 13 (.x 14 (.q 15 (.q 16 .done)))))))))))))))))); exact rfl; kernel_rfl; kernel_rfl; kernel_rfl) | ((with_reducible apply At.mixed (id := 6) 18 (.q 0 (.q 1 (.q 2 (.q 3 (.q 4 (.q 5 (.q 6 (.q 7 (.q 8 (.q 9 (.q 10 (.q 11 (.q 12 (.q 13 (.q 14 (.x 15 (.q 16 (.x 17 .done))))))))))))))))))); exact rfl; kernel_rfl; kernel_rfl; kernel_rfl) | refine zsx ?_ | refine zss ?_ | ((with_reducible apply AtM.bo); exact rfl; exact rfl; exact rfl) | ((first | (with_reducible first | apply At.val | apply AtQ.val) | ((with_reducible first | apply AtM1.valz | apply AtM1.val); exact rfl) | ((with_reducible apply AtM1.val); exact rfl)); (exact pr_sub (by rfl) (by rfl) hw); exact rfl) | refine zsO ?_ | refine zxO ?_ | ((with_reducible apply At.callf); exact rfl; kernel_rfl; exact rfl; exact rfl; exact hcm _; exact ztk; rintro v' m' B' hm' ⟨rfl, rfl, rfl⟩; skip) | (refine zsp ?_ ?_ <;> (intro hc; (try simp only [zhcs, reduceCtorEq] at hc); (try (exfalso; first | omega | contradiction | omega | exact absurd rfl hc | exact absurd (by decide) hc))))))
        all_goals ((with_reducible refine At.reachk ((⟨i + 1, W⟩ : NS)) ?_ ?_ ?_ ?_); exact zsubs; exact zml; exact zente; exact ⟨⟨by show a + 1 ≤ i + 1; omega, g2⟩, by show n - (i + 1) < n - i; omega⟩)
    · (repeat' (first | ((with_reducible apply At.mixed (id := 4) 17 (.q 0 (.q 1 (.q 2 (.q 3 (.q 4 (.q 5 (.q 6 (.q 7 (.q 8 (.q 9 (.q 10 (.q 11 (.q 12 (.q 13 (.x 14 (.q 15 (.q 16 .done)))))))))))))))))); exact rfl; kernel_rfl; kernel_rfl; kernel_rfl) | ((with_reducible apply At.mixed (id := 6) 18 (.q 0 (.q 1 (.q 2 (.q 3 (.q 4 (.q 5 (.q 6 (.q 7 (.q 8 (.q 9 (.q 10 (.q 11 (.q 12 (.q 13 (.q 14 (.x 15 (.q 16 (.x 17 .done))))))))))))))))))); exact rfl; kernel_rfl; kernel_rfl; kernel_rfl) | refine zsx ?_ | refine zss ?_ | ((with_reducible apply AtM.bo); exact rfl; exact rfl; exact rfl) | refine zsO ?_ | refine zxO ?_ | (refine zsp ?_ ?_ <;> (intro hc; (try simp only [zhcs, reduceCtorEq] at hc); (try (exfalso; first | omega | contradiction | omega | exact absurd rfl hc | exact absurd (by decide) hc))))))
      all_goals ((with_reducible refine At.reachk ((⟨i + 1, W⟩ : NS)) ?_ ?_ ?_ ?_); exact zsubs; exact zml; exact zente; exact ⟨⟨by show a + 1 ≤ i + 1; omega, g2⟩, by show n - (i + 1) < n - i; omega⟩)
  · (repeat' (first | refine zss ?_ | refine zsO ?_ | (refine zsp ?_ ?_ <;> (intro hc; (try simp only [zhcs, reduceCtorEq] at hc); (try (exfalso; first | omega | contradiction | omega | exact absurd rfl hc | exact absurd (by decide) hc))))))
    all_goals ((first | (with_reducible apply At.retB0 (B := [oL p c L])) | (with_reducible apply At.retR0 (B := [oL p c L]))); exact rfl; exact zml; exact zkp; exact ⟨rfl, rfl, _, h2, rfl⟩)
theorem swapR {m : Mem} (p : Option Addr) (c a b k n : Nat) (l : List Lab) (hn : l.length = n) (ha : a + k ≤ n) (hb : b + k ≤ n) (hl : n ≤ 1000000) :
    Ct Try.prog 63 #[.slice p n c, .int .i64 (a : Int), .int .i64 (b : Int), .int .i64 (k : Int), fnS] m [oL p c l] (fun v m' B => PostN p c n v m m' B) := by
  refine Ct.enterV (by rfl) Try.func63 rfl Try.ntmps63 rfl (fun w0 Rest => ?_)
  (repeat' (first | refine zss ?_ | refine zsO ?_ | (refine zsp ?_ ?_ <;> (intro hc; (try simp only [zhcs, reduceCtorEq] at hc); (try (exfalso; first | contradiction | omega | exact absurd rfl hc | exact absurd (by decide) hc))))))
  (refine At.loopk (σ := NS) [0, 1, 2, 3] (fun s F0 => (10, .int .i64 (s.i : Int)) :: F0) (fun s => m) (fun s => oL p c s.L :: Rest) (fun s => s.i ≤ k ∧ s.L.length = n) (fun s => k - s.i) ⟨0, l⟩ (by rfl) ?_ zsubs zml zente ?_)
  · exact ⟨Nat.zero_le _, hn⟩
  rintro ⟨i, W⟩ ⟨h1, h2⟩
  dsimp only at h1 h2 ⊢
  by_cases h : i < k
  · have wa : IntKind.wrap .i64 ((a : Int) + (i : Int)) = ((a + i : Nat) : Int) := by rw [← Int.natCast_add]; exact IntWalk.i64_in _ (by omega)
    have wb : IntKind.wrap .i64 ((b : Int) + (i : Int)) = ((b + i : Nat) : Int) := by rw [← Int.natCast_add]; exact IntWalk.i64_in _ (by omega)
    (repeat' (first | ((with_reducible apply At.mixed (id := 3) 24 (.q 0 (.q 1 (.q 2 (.q 3 (.q 4 (.q 5 (.q 6 (.q 7 (.q 8 (.q 9 (.q 10 (.q 11 (.q 12 (.q 13 (.q 14 (.q 15 (.q 16 (.q 17 (.q 18 (.q 19 (.q 20 (.x 21 (.q 22 (.x 23 .done))))))))))))))))))))))))); exact rfl; kernel_rfl; kernel_rfl; kernel_rfl) | refine zsx ?_ | refine zss ?_ | ((with_reducible apply AtM.bo); exact rfl; exact rfl; exact rfl) | ((first | (with_reducible first | apply At.val | apply AtQ.val) | ((with_reducible first | apply AtM1.valz | apply AtM1.val); exact rfl) | ((with_reducible apply AtM1.val); exact rfl)); (first | exact pr_add (by rfl) (by rfl) wa | exact pr_add (by rfl) (by rfl) wb); exact rfl) | refine zsO ?_ | refine zxO ?_ | ((with_reducible apply At.storeW (f := cells) (x' := (W[b + i]!))); (iterate 3 exact rfl); exact (by repeat constructor); exact rfl; exact inferInstance; exact zom; (iterate 3 exact rfl)) | ((with_reducible apply At.storeW (f := cells) (x' := (W[a + i]!))); (iterate 3 exact rfl); exact (by repeat constructor); exact rfl; exact inferInstance; exact zom; (iterate 3 exact rfl)) | (refine zsp ?_ ?_ <;> (intro hc; (try simp only [zhcs, reduceCtorEq] at hc); (try (exfalso; first | omega | contradiction | omega | exact absurd rfl hc | exact absurd (by decide) hc))))))
    all_goals ((with_reducible refine At.reachk ((⟨i + 1, (W.set (a + i) (W[b + i]!)).set (b + i) (W[a + i]!)⟩ : NS)) ?_ ?_ ?_ ?_); exact zsubs; exact zml; exact zente; exact ⟨⟨h, by show ((W.set (a + i) (W[b + i]!)).set (b + i) (W[a + i]!)).length = n; simp; exact h2⟩, by show k - (i + 1) < k - i; omega⟩)
  · (repeat' (first | refine zss ?_ | refine zsO ?_ | (refine zsp ?_ ?_ <;> (intro hc; (try simp only [zhcs, reduceCtorEq] at hc); (try (exfalso; first | omega | contradiction | omega | exact absurd rfl hc | exact absurd (by decide) hc))))))
    all_goals ((first | (with_reducible apply At.retB0 (B := [oL p c W])) | (with_reducible apply At.retR0 (B := [oL p c W]))); exact rfl; exact zml; exact zkp; exact ⟨rfl, rfl, _, h2, rfl⟩)
structure RoS where
  (i j : Nat) (L : List Lab)
theorem rotR {m : Mem} (p : Option Addr) (c a k b n : Nat) (l : List Lab) (hn : l.length = n) (h1 : a < k) (h2 : k < b) (hb : b ≤ n) (hl : n ≤ 1000000) :
    Ct Try.prog 62 #[.slice p n c, .int .i64 (a : Int), .int .i64 (k : Int), .int .i64 (b : Int), fnS] m [oL p c l] (fun v m' B => PostN p c n v m m' B) := by
  have wi : IntKind.wrap .i64 ((k : Int) - (a : Int)) = ((k - a : Nat) : Int) := by rw [show (k : Int) - (a : Int) = ((k - a : Nat) : Int) by omega]; exact IntWalk.i64_in _ (by omega)
  have wj : IntKind.wrap .i64 ((b : Int) - (k : Int)) = ((b - k : Nat) : Int) := by rw [show (b : Int) - (k : Int) = ((b - k : Nat) : Int) by omega]; exact IntWalk.i64_in _ (by omega)
  refine Ct.enterV (by rfl) Try.func62 rfl Try.ntmps62 rfl (fun w0 Rest => ?_)
  (repeat' (first | refine zss ?_ | ((first | (with_reducible first | apply At.val | apply AtQ.val)); (first | exact pr_sub (by rfl) (by rfl) wi | exact pr_sub (by rfl) (by rfl) wj); exact rfl) | refine zsO ?_ | (refine zsp ?_ ?_ <;> (intro hc; (try simp only [zhcs, reduceCtorEq] at hc); (try (exfalso; first | contradiction | omega | exact absurd rfl hc | exact absurd (by decide) hc))))))
  (refine At.loopk (σ := RoS) [0, 2, 4] (fun s F0 => (10, .int .i64 (s.i : Int)) :: (11, .int .i64 (s.j : Int)) :: F0) (fun s => m) (fun s => oL p c s.L :: Rest) (fun s => 1 ≤ s.i ∧ s.i ≤ k ∧ 1 ≤ s.j ∧ k + s.j ≤ n ∧ s.L.length = n) (fun s => s.i + s.j) ⟨k - a, b - k, l⟩ (by rfl) ?_ zsubs zml zente ?_)
  · exact ⟨by show 1 ≤ k - a; omega, by show k - a ≤ k; omega, by show 1 ≤ b - k; omega, by show k + (b - k) ≤ n; omega, hn⟩
  rintro ⟨i, j, W⟩ ⟨g1, g2, g3, g4, g5⟩
  dsimp only at g1 g2 g3 g4 g5 ⊢
  have w1 : IntKind.wrap .i64 ((k : Int) - (i : Int)) = ((k - i : Nat) : Int) := by rw [show (k : Int) - (i : Int) = ((k - i : Nat) : Int) by omega]; exact IntWalk.i64_in _ (by omega)
  by_cases e : i = j
  · have s1 := fun (m : Mem) => swapR (m := m) p c (k - i) k i n W g5 (by omega) (by omega) hl
    (repeat' (first | refine zss ?_ | ((first | (with_reducible first | apply At.val | apply AtQ.val)); (exact pr_sub (by rfl) (by rfl) w1); exact rfl) | refine zsO ?_ | ((with_reducible first | apply At.c1 | apply At.c0); exact rfl; exact rfl; exact s1 _; exact ztk; kernel_rfl; rintro v' m' B' hm' ⟨rfl, rfl, W2, hW2, rfl⟩; skip; (try (have hq0 : hm' = Mem.le_refl _ := rfl; clear hq0 hm'))) | (refine zsp ?_ ?_ <;> (intro hc; (try simp only [zhcs, reduceCtorEq] at hc); (try (exfalso; first | omega | contradiction | omega | exact absurd rfl hc | exact absurd (by decide) hc))))))
    all_goals ((first | (with_reducible apply At.retB0 (B := [oL p c W2])) | (with_reducible apply At.retR0 (B := [oL p c W2]))); exact rfl; exact zml; exact zkp; exact ⟨rfl, rfl, _, hW2, rfl⟩)
  by_cases e2 : j < i
  · have s1 := fun (m : Mem) => swapR (m := m) p c (k - i) k j n W g5 (by omega) (by omega) hl
    have w2 : IntKind.wrap .i64 ((i : Int) - (j : Int)) = ((i - j : Nat) : Int) := by rw [show (i : Int) - (j : Int) = ((i - j : Nat) : Int) by omega]; exact IntWalk.i64_in _ (by omega)
    (repeat' (first | refine zss ?_ | ((first | (with_reducible first | apply At.val | apply AtQ.val)); (first | exact pr_sub (by rfl) (by rfl) w1 | exact pr_sub (by rfl) (by rfl) w2); exact rfl) | refine zsO ?_ | ((with_reducible first | apply At.c1 | apply At.c0); exact rfl; exact rfl; exact s1 _; exact ztk; kernel_rfl; rintro v' m' B' hm' ⟨rfl, rfl, W2, hW2, rfl⟩; skip; (try (have hq0 : hm' = Mem.le_refl _ := rfl; clear hq0 hm'))) | (refine zsp ?_ ?_ <;> (intro hc; (try simp only [zhcs, reduceCtorEq] at hc); (try (exfalso; first | omega | contradiction | omega | exact absurd rfl hc | exact absurd (by decide) hc))))))
    all_goals ((with_reducible refine At.reachk ((⟨i - j, j, W2⟩ : RoS)) ?_ ?_ ?_ ?_); exact zsubs; exact zml; exact zente; exact ⟨⟨by show 1 ≤ i - j; omega, by show i - j ≤ k; omega, g3, g4, hW2⟩, by show i - j + j < i + j; omega⟩)
  · have s1 := fun (m : Mem) => swapR (m := m) p c (k - i) (k + j - i) i n W g5 (by omega) (by omega) hl
    have w2 : IntKind.wrap .i64 ((j : Int) - (i : Int)) = ((j - i : Nat) : Int) := by rw [show (j : Int) - (i : Int) = ((j - i : Nat) : Int) by omega]; exact IntWalk.i64_in _ (by omega)
    have w3 : IntKind.wrap .i64 ((k : Int) + (j : Int)) = ((k + j : Nat) : Int) := by rw [← Int.natCast_add]; exact IntWalk.i64_in _ (by omega)
    have w4 : IntKind.wrap .i64 (((k + j : Nat) : Int) - (i : Int)) = ((k + j - i : Nat) : Int) := by rw [show ((k + j : Nat) : Int) - (i : Int) = ((k + j - i : Nat) : Int) by omega]; exact IntWalk.i64_in _ (by omega)
    (repeat' (first | refine zss ?_ | ((first | (with_reducible first | apply At.val | apply AtQ.val)); (first | exact pr_sub (by rfl) (by rfl) w1 | exact pr_sub (by rfl) (by rfl) w2 | exact pr_add (by rfl) (by rfl) w3 | exact pr_sub (by rfl) (by rfl) w4); exact rfl) | refine zsO ?_ | ((with_reducible first | apply At.c1 | apply At.c0); exact rfl; exact rfl; exact s1 _; exact ztk; kernel_rfl; rintro v' m' B' hm' ⟨rfl, rfl, W2, hW2, rfl⟩; skip; (try (have hq0 : hm' = Mem.le_refl _ := rfl; clear hq0 hm'))) | (refine zsp ?_ ?_ <;> (intro hc; (try simp only [zhcs, reduceCtorEq] at hc); (try (exfalso; first | omega | contradiction | omega | exact absurd rfl hc | exact absurd (by decide) hc))))))
    all_goals ((with_reducible refine At.reachk ((⟨i, j - i, W2⟩ : RoS)) ?_ ?_ ?_ ?_); exact zsubs; exact zml; exact zente; exact ⟨⟨g1, g2, by show 1 ≤ j - i; omega, by show k + (j - i) ≤ n; omega, hW2⟩, by show i + (j - i) < i + j; omega⟩)
/-- so many labels, whichever -/
def N (p : Option Addr) (c n : Nat) : Res := .ex (fun l : List Lab => l.length = n) (fun l => [oL p c l])
theorem N.close {p : Option Addr} {c n : Nat} {l : List Lab} (h : l.length = n) (Rest : List Res) : Ent (oL p c l :: Rest) (N p c n :: Rest) := Ent.closex (A := fun l : List Lab => [oL p c l]) l h
theorem toN {m : Mem} {f : FuncId} {args : Array Value} {p : Option Addr} {c n : Nat} (h : ∀ l : List Lab, l.length = n → Ct Try.prog f args m [oL p c l] (fun v m' B => PostN p c n v m m' B)) :
    Ct Try.prog f args m [N p c n] (fun v m' B => v = .tuple #[] ∧ m = m' ∧ B = [N p c n]) :=
  Ct.openx fun l hl => Ct.conv (h l hl) fun v m' B _ ⟨h1, h2, l2, hl2, h3⟩ => ⟨_, ⟨h1, h2, rfl⟩, fun Rest => by subst h3; exact N.close hl2 Rest⟩
theorem N.open {k : Nat} {w0 : World} {F : Fr} {m : Mem} {Rs0 Rs : List Res} {K : Go.Act → World → Prop} {p : Option Addr} {c n : Nat} (hp : Pick Rs0 (N p c n) Rs) (h : ∀ l : List Lab, l.length = n → At k w0 F m (oL p c l :: Rs) K) : At k w0 F m Rs0 K :=
  At.openx (I := fun l : List Lab => l.length = n) (A := fun l => [oL p c l]) hp h
structure BSt where
  (i j : Nat)
theorem half (x y : Nat) (d : Nat) (hd : (x + y) / 2 = d) (h : x + y ≤ 100000000) : IntKind.wrap .i64 ((x : Int) + (y : Int)) = ((x + y : Nat) : Int) ∧ IntKind.wrap .u64 ((x + y : Nat) : Int) = ((x + y : Nat) : Int) ∧ ((x + y : Nat) : Int) / 2 ^ (1 : Int).toNat = (d : Int) ∧ IntKind.wrap .i64 (d : Int) = (d : Int) ∧ IntKind.wrap .i64 ((d : Int) + 1) = ((d + 1 : Nat) : Int) ∧ IntKind.wrap .u64 (d : Int) = (d : Int) := by
  refine ⟨by rw [← Int.natCast_add]; exact IntWalk.i64_in _ (by omega), IntWalk.u64_in _ (by omega), by rw [← hd]; simp, IntWalk.i64_in _ (by omega), by rw [show (d : Int) + 1 = ((d + 1 : Nat) : Int) by omega]; exact IntWalk.i64_in _ (by omega), IntWalk.u64_in _ (by omega)⟩
end Lb
end Go.Proofs.Ytjncahmbllmllaa
/- Two rows of labels put together: of many. -/
set_option linter.unusedSimpArgs false
set_option linter.unusedVariables false
set_option linter.unusedSectionVars false
set_option maxRecDepth 20000
set_option maxHeartbeats 4000000
namespace Go.Proofs.Ytjncahmbllmllaa
open Go Go.J
attribute [local irreducible] At AtQ AtM AtM1 PR Ct Pu Rd Res.blk Res.own Res.ex RVs RV Lb.N
namespace Lb
set_option maxHeartbeats 8000000 in
theorem symG {m : Mem} (p : Option Addr) (c n d a k b : Nat) (l : List Lab) (hl : n ≤ 1000000) (hd : b - a ≤ d + 1) (hn : l.length = n) (h1 : a < k) (h2 : k < b) (hb : b ≤ n) (c1 : ¬ k - a = 1) (c2 : ¬ b - k = 1)
    (wi : IntKind.wrap .i64 ((k : Int) - (a : Int)) = ((k - a : Nat) : Int)) (wj : IntKind.wrap .i64 ((b : Int) - (k : Int)) = ((b - k : Nat) : Int))
    (ih : ∀ {m : Mem} (a k b : Nat) (l : List Lab), b - a ≤ d → l.length = n → a < k → k < b → b ≤ n →
      Ct Try.prog 61 #[.slice p n c, .int .i64 (a : Int), .int .i64 (k : Int), .int .i64 (b : Int), fnS] m [oL p c l] (fun v m' B => PostN p c n v m m' B)) :
    Ct Try.prog 61 #[.slice p n c, .int .i64 (a : Int), .int .i64 (k : Int), .int .i64 (b : Int), fnS] m [oL p c l] (fun v m' B => PostN p c n v m m' B) := by
  obtain ⟨x, hx⟩ : ∃ x, (a + b) / 2 = x := ⟨_, rfl⟩
  obtain ⟨u1, u2, u3, u4, u5, u6⟩ := half a b x hx (by omega)
  have v1 : IntKind.wrap .i64 ((x : Int) + (k : Int)) = ((x + k : Nat) : Int) := by rw [← Int.natCast_add]; exact IntWalk.i64_in _ (by omega)
  have v3 : IntKind.wrap .i64 (((x + k : Nat) : Int) - 1) = ((x + k - 1 : Nat) : Int) := by rw [show ((x + k : Nat) : Int) - 1 = ((x + k - 1 : Nat) : Int) by omega]; exact IntWalk.i64_in _ (by omega)
  have hst : x < k → b ≤ x + k := by omega
  have v2 : x < k → IntKind.wrap .i64 (((x + k : Nat) : Int) - (b : Int)) = ((x + k - b : Nat) : Int) := fun hh => by rw [show ((x + k : Nat) : Int) - (b : Int) = ((x + k - b : Nat) : Int) by have := hst hh; omega]; exact IntWalk.i64_in _ (by omega)
  have r1 := fun {m : Mem} (i e : Nat) (g1 : i < k) (g2 : k < e) (g3 : e ≤ n) => toN (m := m) fun l hl' => rotR p c i k e n l hl' g1 g2 g3 hl
  have r2 := fun {m : Mem} (a' k' b' : Nat) (g0 : b' - a' ≤ d) (g1 : a' < k') (g2 : k' < b') (g3 : b' ≤ n) => toN (m := m) fun l hl' => ih a' k' b' l g0 hl' g1 g2 g3
  refine Ct.enterV (by rfl) Try.func61 rfl Try.ntmps61 rfl (fun w0 Rest => ?_)
  (repeat' (first | ((refine At.cutk (t := 140) (σ := BSt) [0, 1, 2, 3, 4, 18, 19] (fun s F0 => (20, .int .i64 (s.i : Int)) :: (21, .int .i64 (s.j : Int)) :: F0) (fun s => m) (fun s => oL p c l :: Rest) (fun s => a ≤ s.i ∧ s.i ≤ s.j ∧ x + k ≤ b + s.i ∧ s.j ≤ k ∧ s.j ≤ x) (by rfl) (by rfl) ?_ ?_); (refine ⟨?_, ?_⟩ <;> (intro hc; (try simp only [zhcs, reduceCtorEq] at hc); (try (exfalso; first | contradiction | omega | exact absurd rfl hc | exact absurd (by decide) hc))))) | refine zss ?_ | ((first | (with_reducible first | apply At.val | apply AtQ.val)); (first | exact pr_sub (by rfl) (by rfl) wi | exact pr_sub (by rfl) (by rfl) wj | exact pr_add (by rfl) (by rfl) u1 | exact pr_conv ⟨_, rfl⟩ (by rfl) (by rfl) u2 | exact pr_shrv (by rfl) (by rfl) (by omega) (by decide) u3 | exact pr_conv ⟨_, rfl⟩ (by rfl) (by rfl) u4 | exact pr_add (by rfl) (by rfl) v1); exact rfl) | refine zsO ?_ | (refine zsp ?_ ?_ <;> (intro hc; (try simp only [zhcs, reduceCtorEq] at hc); (try (exfalso; first | omega | contradiction | omega | exact absurd rfl hc | exact absurd (by decide) hc))))))
  · rename_i hc
    have v2 := v2 (by omega)
    (repeat' (first | refine zss ?_ | ((first | (with_reducible first | apply At.val | apply AtQ.val)); (exact pr_sub (by rfl) (by rfl) v2); exact rfl) | refine zs0 ?_ | (refine zsp ?_ ?_ <;> (intro hc; (try simp only [zhcs, reduceCtorEq] at hc); (try (exfalso; first | contradiction | omega | exact absurd rfl hc | exact absurd (by decide) hc))))))
    ((with_reducible refine At.reachk ((⟨x + k - b, x⟩ : BSt)) ?_ ?_ ?_ ?_); exact zsubs; exact zml; exact zente; exact ⟨by dsimp only; omega, by dsimp only; omega, by dsimp only; omega, by dsimp only; omega, Nat.le_refl _⟩)
  · rename_i hc
    (repeat' (first | refine zss ?_ | refine zsO ?_ | (refine zsp ?_ ?_ <;> (intro hc; (try simp only [zhcs, reduceCtorEq] at hc); (try (exfalso; first | contradiction | omega | exact absurd rfl hc | exact absurd (by decide) hc))))))
    ((with_reducible refine At.reachk ((⟨a, k⟩ : BSt)) ?_ ?_ ?_ ?_); exact zsubs; exact zml; exact zente; exact ⟨Nat.le_refl _, by dsimp only; omega, by dsimp only; omega, Nat.le_refl _, by dsimp only; omega⟩)
  have hxa : a < x ∧ x < b := by omega
  clear u1 u2 u3 u4 u5 u6 v1 v2 wi wj ih hst hx
  rintro ⟨A, R⟩ ⟨g1, g2, g3, g4, g5⟩
  dsimp only at g1 g2 g3 g4 g5 ⊢
  have w3 : IntKind.wrap .i64 (((x + k : Nat) : Int) - 1) = ((x + k - 1 : Nat) : Int) := v3
  clear v3
  refine At.ent (N.close hn _) ?_
  (repeat' (first | refine zss ?_ | ((first | (with_reducible first | apply At.val | apply AtQ.val)); (exact pr_sub (by rfl) (by rfl) w3); exact rfl) | refine zsO ?_ | (refine zsp ?_ ?_ <;> (intro hc; (try simp only [zhcs, reduceCtorEq] at hc); (try (exfalso; first | contradiction | omega | exact absurd rfl hc | exact absurd (by decide) hc))))))
  (refine At.loopk (σ := BSt) [0, 1, 2, 3, 4, 18, 19, 22] (fun s F0 => (20, .int .i64 (s.i : Int)) :: (21, .int .i64 (s.j : Int)) :: F0) (fun s => m) (fun s => N p c n :: Rest) (fun s => A ≤ s.i ∧ s.i ≤ s.j ∧ s.j ≤ R) (fun s => s.j - s.i) ⟨A, R⟩ (by rfl) ?_ zsubs zml zente ?_)
  · exact ⟨Nat.le_refl _, g2, Nat.le_refl _⟩
  rintro ⟨i, j⟩ ⟨f1, f2, f3⟩
  dsimp only at f1 f2 f3 ⊢
  by_cases e : i < j
  · obtain ⟨y, hy⟩ : ∃ y, (i + j) / 2 = y := ⟨_, rfl⟩
    obtain ⟨t1, t2, t3, t4, t5, t6⟩ := half i j y hy (by omega)
    have t7 : IntKind.wrap .i64 (((x + k - 1 : Nat) : Int) - (y : Int)) = ((x + k - 1 - y : Nat) : Int) := by rw [show ((x + k - 1 : Nat) : Int) - (y : Int) = ((x + k - 1 - y : Nat) : Int) by omega]; exact IntWalk.i64_in _ (by omega)
    obtain ⟨z, hz⟩ : ∃ z, x + k - 1 - y = z := ⟨_, rfl⟩
    rw [hz] at t7
    have hz' : z < n := by omega
    have hy' : y < n := by omega
    have q1 : (A ≤ i ∧ i ≤ y ∧ y ≤ R) ∧ y - i < j - i := by omega
    have q2 : (A ≤ y + 1 ∧ y + 1 ≤ j ∧ j ≤ R) ∧ j - (y + 1) < j - i := by omega
    refine N.open (p := p) (c := c) (n := n) (by repeat constructor) fun L hL => ?_
    clear hy g1 g2 g3 g4 g5 f1 f2 f3 w3 r1 r2 hz h1 h2 hb c1 c2 hd hn hl
    have hcm := fun (m : Mem) => sortA (m := m) (L[z]!) (L[y]!)
    by_cases e2 : Nm.cmpS L[z]!.n L[y]!.n < 0
    · generalize Nm.cmpS L[z]!.n L[y]!.n = r at hcm e2
      (repeat' (first | ((with_reducible apply At.mixed (id := 5) 11 (.q 0 (.q 1 (.q 2 (.q 3 (.q 4 (.q 5 (.q 6 (.q 7 (.q 8 (.x 9 (.q 10 .done)))))))))))); exact rfl; kernel_rfl; kernel_rfl; kernel_rfl) | ((with_reducible apply At.mixed (id := 11) 18 (.q 0 (.q 1 (.q 2 (.q 3 (.q 4 (.q 5 (.q 6 (.q 7 (.q 8 (.q 9 (.q 10 (.q 11 (.q 12 (.q 13 (.q 14 (.x 15 (.q 16 (.x 17 .done))))))))))))))))))); exact rfl; kernel_rfl; kernel_rfl; kernel_rfl) | ((with_reducible apply At.mixed (id := 17) 12 (.q 0 (.q 1 (.q 2 (.q 3 (.q 4 (.q 5 (.q 6 (.q 7 (.q 8 (.x 9 (.q 10 (.q 11 .done))))))))))))); exact rfl; kernel_rfl; kernel_rfl; kernel_rfl) | ((with_reducible apply At.mixed (id := 23) 18 (.q 0 (.q 1 (.q 2 (.q 3 (.q 4 (.q 5 (.q 6 (.q 7 (.q 8 (.q 9 (.q 10 (.q 11 (.q 12 (.q 13 (.q 14 (.x 15 (.q 16 (.x 17 .done))))))))))))))))))); exact rfl; kernel_rfl; kernel_rfl; kernel_rfl) | ((with_reducible apply At.mixed (id := 35) 14 (.q 0 (.q 1 (.q 2 (.q 3 (.q 4 (.q 5 (.q 6 (.q 7 (.q 8 (.q 9 (.q 10 (.x 11 (.q 12 (.q 13 .done))))))))))))))); exact rfl; kernel_rfl; kernel_rfl; kernel_rfl) | refine zsx ?_ | refine zss ?_ | ((with_reducible apply AtM.bo); exact rfl; exact rfl; exact rfl) | ((first | (with_reducible first | apply At.val | apply AtQ.val) | ((with_reducible first | apply AtM1.valz | apply AtM1.val); exact rfl) | ((with_reducible apply AtM1.val); exact rfl)); (first | exact pr_add (by rfl) (by rfl) t1 | exact pr_add (by rfl) (by rfl) t5 | exact pr_conv ⟨_, rfl⟩ (by rfl) (by rfl) t2 | exact pr_shrv (by rfl) (by rfl) (by omega) (by decide) t3 | exact pr_conv ⟨_, rfl⟩ (by rfl) (by rfl) t4 | exact pr_sub (by rfl) (by rfl) t7); exact rfl) | refine zsO ?_ | refine zxO ?_ | ((with_reducible apply At.callf); exact rfl; kernel_rfl; exact rfl; exact rfl; exact hcm _; exact ztk; rintro v' m' B' hm' ⟨rfl, rfl, rfl⟩; skip) | (refine zsp ?_ ?_ <;> (intro hc; (try simp only [zhcs, reduceCtorEq] at hc); (try (exfalso; first | omega | contradiction | omega | exact absurd rfl hc | exact absurd (by decide) hc))))))
      all_goals refine At.ent (N.close hL _) ?_
      all_goals ((with_reducible refine At.reachk ((⟨i, y⟩ : BSt)) ?_ ?_ ?_ ?_); exact zsubs; exact zml; exact zente; exact q1)
    · generalize Nm.cmpS L[z]!.n L[y]!.n = r at hcm e2
      (repeat' (first | ((with_reducible apply At.mixed (id := 5) 11 (.q 0 (.q 1 (.q 2 (.q 3 (.q 4 (.q 5 (.q 6 (.q 7 (.q 8 (.x 9 (.q 10 .done)))))))))))); exact rfl; kernel_rfl; kernel_rfl; kernel_rfl) | ((with_reducible apply At.mixed (id := 11) 18 (.q 0 (.q 1 (.q 2 (.q 3 (.q 4 (.q 5 (.q 6 (.q 7 (.q 8 (.q 9 (.q 10 (.q 11 (.q 12 (.q 13 (.q 14 (.x 15 (.q 16 (.x 17 .done))))))))))))))))))); exact rfl; kernel_rfl; kernel_rfl; kernel_rfl) | ((with_reducible apply At.mixed (id := 17) 12 (.q 0 (.q 1 (.q 2 (.q 3 (.q 4 (.q 5 (.q 6 (.q 7 (.q 8 (.x 9 (.q 10 (.q 11 .done))))))))))))); exact rfl; kernel_rfl; kernel_rfl; kernel_rfl) | ((with_reducible apply At.mixed (id := 23) 18 (.q 0 (.q 1 (.q 2 (.q 3 (.q 4 (.q 5 (.q 6 (.q 7 (.q 8 (.q 9 (.q 10 (.q 11 (.q 12 (.q 13 (.q 14 (.x 15 (.q 16 (.x 17 .done))))))))))))))))))); exact rfl; kernel_rfl; kernel_rfl; kernel_rfl) | ((with_reducible apply At.mixed (id := 35) 14 (.q 0 (.q 1 (.q 2 (.q 3 (.q 4 (.q 5 (.q 6 (.q 7 (.q 8 (.q 9 (.q 10 (.x 11 (.q 12 (.q 13 .done))))))))))))))); exact rfl; kernel_rfl; kernel_rfl; kernel_rfl) | refine zsx ?_ | refine zss ?_ | ((with_reducible apply AtM.bo); exact rfl; exact rfl; exact rfl) | ((first | (with_reducible first | apply At.val | apply AtQ.val) | ((with_reducible first | apply AtM1.valz | apply AtM1.val); exact rfl) | ((with_reducible apply AtM1.val); exact rfl)); (first | exact pr_add (by rfl) (by rfl) t1 | exact pr_add (by rfl) (by rfl) t5 | exact pr_conv ⟨_, rfl⟩ (by rfl) (by rfl) t2 | exact pr_shrv (by rfl) (by rfl) (by omega) (by decide) t3 | exact pr_conv ⟨_, rfl⟩ (by rfl) (by rfl) t4 | exact pr_sub (by rfl) (by rfl) t7); exact rfl) | refine zsO ?_ | refine zxO ?_ | ((with_reducible apply At.callf); exact rfl; kernel_rfl; exact rfl; exact rfl; exact hcm _; exact ztk; rintro v' m' B' hm' ⟨rfl, rfl, rfl⟩; skip) | (refine zsp ?_ ?_ <;> (intro hc; (try simp only [zhcs, reduceCtorEq] at hc); (try (exfalso; first | omega | contradiction | omega | exact absurd rfl hc | exact absurd (by decide) hc))))))
      all_goals refine At.ent (N.close hL _) ?_
      all_goals ((with_reducible refine At.reachk ((⟨y + 1, j⟩ : BSt)) ?_ ?_ ?_ ?_); exact zsubs; exact zml; exact zente; exact q2)
  · have w9 : IntKind.wrap .i64 (((x + k : Nat) : Int) - (i : Int)) = ((x + k - i : Nat) : Int) := by rw [show ((x + k : Nat) : Int) - (i : Int) = ((x + k - i : Nat) : Int) by omega]; exact IntWalk.i64_in _ (by omega)
    obtain ⟨E, hE⟩ : ∃ E, x + k - i = E := ⟨_, rfl⟩
    rw [hE] at w9
    have k1 := fun {m : Mem} (q1 : i < k) (q2 : k < E) => r1 (m := m) i E q1 q2 (by omega)
    have k2 := fun {m : Mem} (q1 : a < i) (q2 : i < x) => r2 (m := m) a i x (by omega) q1 q2 (by omega)
    have k3 := fun {m : Mem} (q1 : x < E) (q2 : E < b) => r2 (m := m) x E b (by omega) q1 q2 hb
    clear r1 r2 g1 g2 g3 g4 g5 f1 f2 f3 w3 hE h1 h2 hb c1 c2 hd hn hl
    (repeat' (first | (refine At.cutp (id := 39) (i < k ∧ k < E) 185 [0, 1, 2, 3, 4, 18, 20, 24] (by rfl) ?_ ?_) | ((refine At.cutk (t := 185) (σ := Unit) [0, 1, 3, 4, 18, 20, 24] (fun s F0 => F0) (fun s => m) (fun s => N p c n :: Rest) (fun s => True) (by rfl) (by rfl) ?_ ?_); (refine ⟨?_, ?_⟩ <;> (intro hc; (try simp only [zhcs, reduceCtorEq] at hc); (try (exfalso; first | contradiction | omega | exact absurd rfl hc | exact absurd (by decide) hc))))) | refine zss ?_ | ((first | (with_reducible first | apply At.val | apply AtQ.val)); (exact pr_sub (by rfl) (by rfl) w9); exact rfl) | refine zs0 ?_ | ((with_reducible apply At.endp); exact rfl; exact zsubs; exact zml; exact zente; (simp only [decide_eq_true_eq, decide_eq_false_iff_not, Bool.not_eq_true', Bool.not_eq_false', Bool.false_eq_true, Bool.true_eq_false, false_iff, true_iff]; first | omega | (constructor <;> intros <;> omega))) | (refine zsp ?_ ?_ <;> (intro hc; (try simp only [zhcs, reduceCtorEq] at hc); (try (exfalso; first | contradiction | omega | exact absurd rfl hc | exact absurd (by decide) hc))))))
    · (repeat' (first | refine zss ?_ | refine zs0 ?_ | ((with_reducible first | apply At.c1 | apply At.c0); exact rfl; exact rfl; exact k1 (by omega) (by omega); exact ztk; kernel_rfl; rintro v' m' B' hm' ⟨rfl, rfl, rfl⟩; skip; (try (have hq0 : hm' = Mem.le_refl _ := rfl; clear hq0 hm'))) | (refine zsp ?_ ?_ <;> (intro hc; (try simp only [zhcs, reduceCtorEq] at hc); (try (exfalso; first | contradiction | omega | exact absurd rfl hc | exact absurd (by decide) hc))))))
      ((with_reducible refine At.reachk (()) ?_ ?_ ?_ ?_); exact zsubs; exact zml; exact zente; exact trivial)
    · (repeat' (first | refine zss ?_ | refine zsM ?_ | (refine zsp ?_ ?_ <;> (intro hc; (try simp only [zhcs, reduceCtorEq] at hc); (try (exfalso; first | contradiction | omega | exact absurd rfl hc | exact absurd (by decide) hc))))))
      ((with_reducible refine At.reachk (()) ?_ ?_ ?_ ?_); exact zsubs; exact zml; exact zente; exact trivial)
    rintro - -
    (repeat' (first | (refine At.cutp (id := 41) (a < i ∧ i < x) 199 [0, 1, 3, 4, 18, 20, 24] (by rfl) ?_ ?_) | ((refine At.cutk (t := 199) (σ := Unit) [0, 3, 4, 18, 24] (fun s F0 => F0) (fun s => m) (fun s => N p c n :: Rest) (fun s => True) (by rfl) (by rfl) ?_ ?_); (refine ⟨?_, ?_⟩ <;> (intro hc; (try simp only [zhcs, reduceCtorEq] at hc); (try (exfalso; first | contradiction | omega | exact absurd rfl hc | exact absurd (by decide) hc))))) | refine zss ?_ | refine zs0 ?_ | ((with_reducible apply At.endp); exact rfl; exact zsubs; exact zml; exact zente; (simp only [decide_eq_true_eq, decide_eq_false_iff_not, Bool.not_eq_true', Bool.not_eq_false', Bool.false_eq_true, Bool.true_eq_false, false_iff, true_iff]; first | omega | (constructor <;> intros <;> omega))) | (refine zsp ?_ ?_ <;> (intro hc; (try simp only [zhcs, reduceCtorEq] at hc); (try (exfalso; first | contradiction | omega | exact absurd rfl hc | exact absurd (by decide) hc))))))
    · (repeat' (first | refine zss ?_ | refine zs0 ?_ | ((with_reducible first | apply At.c1 | apply At.c0); exact rfl; exact rfl; exact k2 (by omega) (by omega); exact ztk; kernel_rfl; rintro v' m' B' hm' ⟨rfl, rfl, rfl⟩; skip; (try (have hq0 : hm' = Mem.le_refl _ := rfl; clear hq0 hm'))) | (refine zsp ?_ ?_ <;> (intro hc; (try simp only [zhcs, reduceCtorEq] at hc); (try (exfalso; first | contradiction | omega | exact absurd rfl hc | exact absurd (by decide) hc))))))
      ((with_reducible refine At.reachk (()) ?_ ?_ ?_ ?_); exact zsubs; exact zml; exact zente; exact trivial)
    · (repeat' (first | refine zss ?_ | refine zsM ?_ | (refine zsp ?_ ?_ <;> (intro hc; (try simp only [zhcs, reduceCtorEq] at hc); (try (exfalso; first | contradiction | omega | exact absurd rfl hc | exact absurd (by decide) hc))))))
      ((with_reducible refine At.reachk (()) ?_ ?_ ?_ ?_); exact zsubs; exact zml; exact zente; exact trivial)
    rintro - -
    (repeat' (first | (refine At.cutp (id := 43) (x < E ∧ E < b) 213 [0, 3, 4, 18, 24] (by rfl) ?_ ?_) | refine zss ?_ | refine zs0 ?_ | ((with_reducible apply At.endp); exact rfl; exact zsubs; exact zml; exact zente; (simp only [decide_eq_true_eq, decide_eq_false_iff_not, Bool.not_eq_true', Bool.not_eq_false', Bool.false_eq_true, Bool.true_eq_false, false_iff, true_iff]; first | omega | (constructor <;> intros <;> omega))) | ((with_reducible first | apply At.c1 | apply At.c0); exact rfl; exact rfl; exact k3 (by omega) (by omega); exact ztk; kernel_rfl; rintro v' m' B' hm' ⟨rfl, rfl, rfl⟩; skip; (try (have hq0 : hm' = Mem.le_refl _ := rfl; clear hq0 hm'))) | (refine zsp ?_ ?_ <;> (intro hc; (try simp only [zhcs, reduceCtorEq] at hc); (try (exfalso; first | contradiction | omega | exact absurd rfl hc | exact absurd (by decide) hc))))))
    all_goals refine N.open (p := p) (c := c) (n := n) (by repeat constructor) fun L hL => ?_
    all_goals ((first | (with_reducible apply At.retB0 (B := [oL p c L])) | (with_reducible apply At.retR0 (B := [oL p c L]))); exact rfl; exact zml; exact zkp; exact ⟨rfl, rfl, _, hL, rfl⟩)
end Lb
end Go.Proofs.Ytjncahmbllmllaa
