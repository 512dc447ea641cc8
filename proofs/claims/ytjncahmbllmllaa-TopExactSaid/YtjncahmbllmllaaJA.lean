/- Arrays that stand in a variable, values of which no more than the length is known, the model's own functions. -/
import Derived.Test.YtjncahmbllmllaaJM
import Derived.Laws.Externs
set_option linter.unusedSimpArgs false
set_option linter.unusedVariables false
set_option linter.unusedSectionVars false
set_option maxRecDepth 20000
namespace Go.J
open Go

section
variable {P : Program} {n : Nat} {w0 : World} {F : Fr} {m : Mem} {Rs : List Res} {Q : Exit → Act → World → Prop} {K : Act → World → Prop} {C : World → Prop}

/-! ### arrays -/
theorem run_indexArr {t e : TypeId} {sz len : Nat} (ht : P.underlying t = some (.array len e)) (hs : sizeB P e = some sz) (b o k : Nat) (ki : IntKind) (hk : k < len) (w : World) :
    (Instr.indexAt t (.pointer (some ⟨b, o, none⟩)) (.int ki (k : Int))).run P w = .ok (.pointer (some ⟨b, o + k * sz, none⟩)) w := by
  have hr : ∀ w, (underlying t).run P w = .ok (.array len e) w := run_underlying ht
  have h1 : (0 : Int) ≤ (k : Int) ∧ (k : Int) < (len : Int) := ⟨by omega, by omega⟩
  unfold Instr.indexAt
  simp only [asIntOf, pure, Sem.run_bind, Sem.run, Result.andThen, hr, Instr.sureAddr, h1, and_self, if_true, run_sizeOf hs, Int.toNat_natCast, Addr.add_eq]
theorem pr_indexArr {x y : Operand} {t e : TypeId} {len b o k sz : Nat} {ki : IntKind} (hx : ev F x = some (.pointer (some ⟨b, o, none⟩))) (hy : ev F y = some (.int ki (k : Int))) (ht : P.underlying t = some (.array len e)) (hs : sizeB P e = some sz) (hk : k < len) :
    PR P n F C (.indexAddr t x y) (.pointer (some ⟨b, o + k * sz, none⟩)) := fun _ _ _ _ _ a w ha _ => by
  simp only [execOp, ha.ev hx, ha.ev hy, Sem.run_bind, run_indexArr ht hs b o k ki hk]
  rfl
/-- the elements are of one cell, the array is the whole block -/
theorem pr_indexArr1 {x y : Operand} {t e : TypeId} {len b k : Nat} {ki : IntKind} (hx : ev F x = some (.pointer (some ⟨b, 0, none⟩))) (hy : ev F y = some (.int ki (k : Int))) (ht : P.underlying t = some (.array len e)) (hs : sizeB P e = some 1) (hk : k < len) :
    PR P n F C (.indexAddr t x y) (.pointer (some ⟨b, k, none⟩)) := by
  have := pr_indexArr (n := n) (C := C) hx hy ht hs hk
  rwa [Nat.zero_add, Nat.mul_one] at this
theorem pr_indexArr1i {x y : Operand} {t e : TypeId} {len b : Nat} {q : Int} {ki : IntKind} (hx : ev F x = some (.pointer (some ⟨b, 0, none⟩))) (hy : ev F y = some (.int ki q)) (ht : P.underlying t = some (.array len e)) (hs : sizeB P e = some 1) (h0 : 0 ≤ q) (hk : q < len) :
    PR P n F C (.indexAddr t x y) (.pointer (some ⟨b, q.toNat, none⟩)) := pr_indexArr1 hx (k := q.toNat) (by rw [hy, Int.toNat_of_nonneg h0]) ht hs (by omega)
theorem pr_load_arr {α : Type} [Inhabited α] {g : α → Value} {l : List α} {x : Operand} {t : TypeId} {b k : Nat} {E : TypeId} {Rs' : List Res} (hx : ev F x = some (.pointer (some ⟨b, k, none⟩))) (hp : Pick Rs (.blk b E (l.map g)) Rs') (ht : isAggB P t = some false) (hk : k < l.length) :
    PR P n F (HW w0 m Rs) (.load t x) (g l[k]!) := pr_load1 ht hx fun w hw => by
  rw [World.cell_of (hw.blk hp)]
  simp [hk]
theorem putl_set : ∀ (cs : List Value) (k : Nat) (v : Value), k < cs.length → putl cs k [v] = some (cs.set k v)
  | [], _, _, h => by simp at h
  | c :: cs, 0, v, _ => by
    have : ∀ l : List Value, putl l 0 [] = some l := fun l => by cases l <;> simp [putl]
    simp [putl, this]
  | c :: cs, k + 1, v, h => by
    have := putl_set cs k v (by simpa using h)
    simp [putl, this]
theorem At.storeArr {α : Type} {g : α → Value} {l : List α} {ops : Array Oper} {rest : List Oper} {t : TypeId} {x y : Operand} {ty : TypeId} {pos : String} {aft : Array Edge} {b k : Nat} {v : Value} {E : TypeId} {Rs' : List Res}
    (x' : α) (hx : ev F x = some (.pointer (some ⟨b, k, none⟩))) (hy : ev F y = some v) (hv : g x' = v) (hc : cellsB v = some [v]) (hs : sizeB P t = some 1) (h1 : oneCell v = true)
    (hp : Repl Rs (.blk b E (l.map g)) (.blk b E ((l.set k x').map g)) Rs') (hk : k < l.length)
    (h : At n w0 F m Rs' (wpList P ops Q rest)) : At n w0 F m Rs (wpList P ops Q (⟨none, .store t x y, ty, pos, aft, none⟩ :: rest)) :=
  At.store (vs := [v]) hx hy hc hs rfl (by simp [h1]) ⟨_, rfl, by rw [putl_set _ _ _ (by simpa using hk), List.map_set, hv]⟩ hp h

/-! ### values of which no more than the length is known -/
theorem cellsOf_agg (L : List Value) : (Value.agg L.toArray).cells = L.toArray := rfl
theorem At.boxA {ops : Array Oper} {rest : List Oper} {d : Nat} {t : TypeId} {x : Operand} {ty : TypeId} {pos : String} {aft : Array Edge} {L : List Value} (hx : ev F x = some (.agg L.toArray)) (hd : Nat.blt d n = true)
    (h : ∀ b, At n w0 ((d, .pointer (some ⟨b, 0, none⟩)) :: F) m (.blk b t L :: Rs) (wpList P ops Q rest)) : At n w0 F m Rs (wpList P ops Q (⟨some d, .box t x, ty, pos, aft, none⟩ :: rest)) :=
  At.box (v := .agg L.toArray) hx (by show flat L = some L; exact flat_self L) hd h
theorem pr_loadA {x : Operand} {t : TypeId} {b k : Nat} {L : List Value} {E : TypeId} {Rs' : List Res} (hx : ev F x = some (.pointer (some ⟨b, 0, none⟩))) (hp : Pick Rs (.blk b E L) Rs') (ht : isAggB P t = some true) (hs : sizeB P t = some k) (hk : L.length = k) :
    PR P n F (HW w0 m Rs) (.load t x) (.agg L.toArray) := pr_loadN ht hx (by rw [hk]; exact hs) fun w hw j _ => by
  rw [World.cell_of (hw.blk hp)]
  simp
theorem putl_all : ∀ (cs vs : List Value), cs.length = vs.length → putl cs 0 vs = some vs
  | [], [], _ => rfl
  | c :: cs, v :: vs, h => by simp [putl, putl_all cs vs (by simpa using h)]
  | [], _ :: _, h => by simp at h
  | _ :: _, [], h => by simp at h
theorem At.storeA {ops : Array Oper} {rest : List Oper} {t : TypeId} {x y : Operand} {ty : TypeId} {pos : String} {aft : Array Edge} {b k : Nat} {L cs : List Value} {E : TypeId} {Rs' : List Res}
    (hx : ev F x = some (.pointer (some ⟨b, 0, none⟩))) (hy : ev F y = some (.agg L.toArray)) (hs : sizeB P t = some k) (h1 : L.all oneCell = true) (hp : Repl Rs (.blk b E cs) (.blk b E L) Rs') (hk : L.length = k) (hk2 : cs.length = k)
    (h : At n w0 F m Rs' (wpList P ops Q rest)) : At n w0 F m Rs (wpList P ops Q (⟨none, .store t x y, ty, pos, aft, none⟩ :: rest)) :=
  At.store (vs := L) hx hy (by show flat L = some L; exact flat_self L) hs hk h1 ⟨_, rfl, putl_all _ _ (by rw [hk2, hk])⟩ hp h
theorem rv_cellA {x b k : Nat} {t E : TypeId} {L : List Value} {Rs' : List Res} (hx : look x F = some (.pointer (some ⟨b, 0, none⟩))) (hp : Pick Rs (.blk b E L) Rs') (ht : isAggB P t = some true) (hs : sizeB P t = some k) (hk : L.length = k) : RV P n F (HW w0 m Rs) (.cell x t) (.agg L.toArray) := fun a w ha hC => by
  show ((do loadVar t (← asAddr (a.tmps.getD x undef))) : Sem Value).run P w = _
  rw [ha.val x _ hx]
  have e0 : (asAddr (.pointer (some ⟨b, 0, none⟩)) : Sem Addr).run P w = .ok ⟨b, 0, none⟩ w := rfl
  simp only [Sem.run_bind, e0, Result.andThen]
  exact run_loadVarN ht (by rw [hk]; exact hs) (fun j _ => by
    rw [World.cell_of (hC.blk hp)]
    simp)

/-! ### the model's own functions -/
theorem pr_extern {f : FuncId} {fn : Func} {e : Array Value → Sem Value} {xs : List Operand} {ts : Array TypeId} {vs : List Value} {v : Value} (hf : P.funcs[f]? = some fn) (hname : (fn.name == "runtime.NumGoroutine") = false) (hb : fn.body.isNone = true) (hn : Extern.findNext fn = none) (he : Extern.find fn = some e)
    (hx : evs F xs = some vs) (hv : ∀ w, (e vs.toArray).run P w = .ok v w) : PR P n F C (.call ⟨.value (.func f), xs.toArray, ts⟩) v := fun _ _ _ _ _ a w ha _ => by
  rw [execOp_call_go]
  have : (#[] ++ xs.toArray.map a.eval ++ #[] : Array Value) = vs.toArray := by simp [evs_map ha xs vs hx]
  rw [this, run_callFunc_extern hf hname hb hn he, hv w]
  rfl

/-! ### two structs are compared -/
def eqG (P : Program) (eqT : TypeId → List Value → List Value → Option (List Bool)) (xs ys : List Value) : List Field → Option (List Bool)
  | [] => some []
  | f :: fs => match f.name == "_" with
    | true => none
    | false => match P.info? f.type with
      | some i => match subl xs f.offset i.size with
        | some a => match subl ys f.offset i.size with
          | some b => match eqT f.type a b with
            | some r => match eqG P eqT xs ys fs with
              | some q => some (r ++ q)
              | none => none
            | none => none
          | none => none
        | none => none
      | none => none
def eqS (P : Program) : Nat → TypeId → List Value → List Value → Option (List Bool)
  | 0, _, _, _ => none
  | d + 1, t, xs, ys => match P.underlying t with
    | some (.struct fs) => eqG P (eqS P d) xs ys fs.toList
    | some .bool => match xs, ys with
      | [.bool a], [.bool b] => some [a == b]
      | _, _ => none
    | some .string => match xs, ys with
      | [.string a], [.string b] => some [decide (a = b)]
      | _, _ => none
    | some (.int _) => match xs, ys with
      | [.int k a], [.int k' b] => match decide (k = k') with
        | true => some [decide (a = b)]
        | false => none
      | _, _ => none
    | _ => none
def eqM (P : Program) (t : TypeId) (xs ys : List Value) : Option (List Bool) := match eqS P 6 t xs ys with
  | some l => flat l
  | none => none


/-- no struct of it is laid out by another's hand -/
def freeF (rec : TypeId → Bool) : List Field → Bool
  | [] => true
  | f :: fs => rec f.type && freeF rec fs
def freeB (P : Program) : Nat → TypeId → Bool
  | 0, _ => false
  | d + 1, t => match P.underlying t with
    | some (.struct fs) => !P.stoodInHeld t && freeF (freeB P d) fs.toList
    | _ => true
theorem eqS_run : ∀ (d e : Nat) (t : TypeId) (xs ys : List Value) (r : List Bool) (w : World), freeB P d t = true → eqS P d t xs ys = some r →
    (isAggB P t = some true ∧ (Op.equalIn (d + e) t (.agg xs.toArray) (.agg ys.toArray)).run P w = .ok (andL r) w) ∨
    (isAggB P t = some false ∧ ∃ x y, xs = [x] ∧ ys = [y] ∧ (Op.equalIn (d + e) t x y).run P w = .ok (andL r) w)
  | 0, _, _, _, _, _, _, h, _ => by cases h
  | d + 1, e, t, xs, ys, r, w, hfree, h => by
    have ih := eqS_run d e
    rw [show d + 1 + e = (d + e) + 1 by omega]
    unfold eqS at h
    unfold freeB at hfree
    cases hu : P.underlying t with
    | none => rw [hu] at h; cases h
    | some u =>
      rw [hu] at h hfree
      cases u <;> simp only at h hfree <;> try (cases h; done)
      case bool =>
        split at h
        · rename_i a b
          cases h
          refine .inr ⟨by simp [isAggB, hu], _, _, rfl, rfl, ?_⟩
          simp [Op.equalIn, run_underlying hu, andL]
        · cases h
      case string =>
        split at h
        · rename_i a b
          cases h
          refine .inr ⟨by simp [isAggB, hu], _, _, rfl, rfl, ?_⟩
          have : (a == b) = decide (a = b) := by rw [beq_toListBytes, str_eq]
          simp [Op.equalIn, run_underlying hu, andL, this]
        · cases h
      case int kk =>
        split at h
        · rename_i k a k' b
          by_cases hk : k = k'
          · subst hk
            simp only [decide_true] at h
            cases h
            refine .inr ⟨by simp [isAggB, hu], _, _, rfl, rfl, ?_⟩
            have : (a == b) = decide (a = b) := rfl
            simp [Op.equalIn, run_underlying hu, andL, this]
          · simp only [decide_eq_false hk] at h
            cases h
        · cases h
      case struct fs =>
        rw [Bool.and_eq_true] at hfree
        obtain ⟨hp0, hfr⟩ := hfree
        cases hp : P.stoodInHeld t with
        | true => rw [hp] at hp0; cases hp0
        | false =>
          refine .inl ⟨by simp [isAggB, hu], ?_⟩
          have hfo : P.fieldsOf t = fs := by simp [Program.fieldsOf, hu]
          rw [run_equalIn_struct w (d + e) t _ _ (by rw [hfo]; exact hu) hp, hfo]
          generalize fs.toList = l at h hfr
          clear hfo hu
          induction l generalizing r with
          | nil => cases h; rfl
          | cons f l ihl =>
            unfold eqG at h
            unfold freeF at hfr
            rw [Bool.and_eq_true] at hfr
            cases hn : f.name == "_" with
            | true => rw [hn] at h; cases h
            | false =>
              rw [hn] at h
              simp only at h
              have hn' : f.name ≠ "_" := by simpa using hn
              cases hi : P.info? f.type with
              | none => rw [hi] at h; cases h
              | some i =>
                rw [hi] at h
                simp only at h
                cases h1 : subl xs f.offset i.size with
                | none => rw [h1] at h; cases h
                | some a =>
                  cases h2 : subl ys f.offset i.size with
                  | none => rw [h1, h2] at h; cases h
                  | some b =>
                    rw [h1, h2] at h
                    simp only at h
                    cases h3 : eqS P d f.type a b with
                    | none => rw [h3] at h; cases h
                    | some q =>
                      rw [h3] at h
                      simp only at h
                      cases h4 : eqG P (eqS P d) xs ys l with
                      | none => rw [h4] at h; cases h
                      | some q2 =>
                        rw [h4] at h
                        cases h
                        have hr := ihl q2 h4 hfr.2
                        unfold Op.eqFields
                        rw [if_pos hn', andL_append]
                        rcases ih f.type a b q w hfr.1 h3 with ⟨hb, hq⟩ | ⟨hb, x, y, rfl, rfl, hq⟩
                        · have p1 := run_part hb hi h1 undef (fun e => by cases e) w
                          have p2 := run_part hb hi h2 undef (fun e => by cases e) w
                          simp only [if_true] at p1 p2
                          simp only [Sem.run_bind, p1, p2, hq, Result.andThen]
                          cases andL q with
                          | true => simpa using hr
                          | false => simp
                        · have p1 := run_part hb hi h1 x (fun _ => rfl) w
                          have p2 := run_part hb hi h2 y (fun _ => rfl) w
                          simp only [Bool.false_eq_true, if_false] at p1 p2
                          simp only [Sem.run_bind, p1, p2, hq, Result.andThen]
                          cases andL q with
                          | true => simpa using hr
                          | false => simp

theorem run_agg_equal2 {t : TypeId} {xs ys : List Value} {bs : List Bool} (hb : isAggB P t = some true) (hn : freeB P 6 t = true) (h : eqM P t xs ys = some bs) (w : World) : (Op.equal t (.agg xs.toArray) (.agg ys.toArray)).run P w = .ok (andL bs) w := by
  unfold eqM at h
  cases h1 : eqS P 6 t xs ys with
  | none => rw [h1] at h; cases h
  | some l =>
    rw [h1] at h
    have := flat_eq _ _ h
    subst this
    unfold Op.equal
    rcases eqS_run 6 9994 t xs ys bs w hn h1 with ⟨_, h2⟩ | ⟨h2, _⟩
    · exact h2
    · rw [hb] at h2; cases h2
theorem pr_aggeq2 {x y : Operand} {t u : TypeId} {xs ys : List Value} {bs : List Bool} (hx : ev F x = some (.agg xs.toArray)) (hy : ev F y = some (.agg ys.toArray)) (hb : isAggB P t = some true) (hg : P.eqGuardType P.depth t = false) (hn : freeB P 6 t = true) (h : eqM P t xs ys = some bs) : PR P n F C (.binOp .eql t x y u) (.bool (andL bs)) :=
  pr_eql_of hx hy (run_agg_guard hg .eql (.inl rfl)) rfl (fun w _ => run_agg_equal2 hb hn h w)
theorem pr_aggne2 {x y : Operand} {t u : TypeId} {xs ys : List Value} {bs : List Bool} (hx : ev F x = some (.agg xs.toArray)) (hy : ev F y = some (.agg ys.toArray)) (hb : isAggB P t = some true) (hg : P.eqGuardType P.depth t = false) (hn : freeB P 6 t = true) (h : eqM P t xs ys = some bs) : PR P n F C (.binOp .neq t x y u) (.bool (!andL bs)) :=
  pr_neq_of hx hy (run_agg_guard hg .neq (.inr rfl)) rfl (fun w _ => run_agg_equal2 hb hn h w)

end
end Go.J
