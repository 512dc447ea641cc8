/- Part 4 of what the law's proof needs: rules of the walk, contracts of functions, plain laws. No condition. -/
import Derived.Test.YtkoijdmlehkhbaaGreatDoorTrLWZ3
import Derived.Laws.Externs
import Derived.Test.YtkoijdmlehkhbaaGreatDoorRows
import Derived.Laws.MathBits
set_option linter.unusedSimpArgs false
set_option linter.unusedVariables false
set_option linter.unusedSectionVars false
set_option maxRecDepth 20000
namespace Go.J
open Go
section
variable {P : Program} {n : Nat} {w0 : World} {F : Fr} {m : Mem} {Rs : List Res} {Q : Exit → Act → World → Prop} {K : Act → World → Prop} {C : World → Prop}
/-! ### arrays -/
theorem run_indexArr {t e : TypeId} {sz len : Nat} (ht : P.underlying t = some (.array len e)) (hs : sizeB P e = some sz) (b o k : Nat) (ki : IntKind) (hk : k < len) (w : World) :
    (Instr.indexAt t (.pointer (some ⟨b, o, none⟩)) (.int ki (k : Int))).run P w = .ok (.pointer (some ⟨b, o + k * sz, none⟩)) w := by
  have hr : ∀ w, (underlying t).run P w = .ok (.array len e) w := run_underlying ht
  have h1 : (0 : Int) ≤ (k : Int) ∧ (k : Int) < (len : Int) := ⟨by omega, by omega⟩
  unfold Instr.indexAt
  simp only [asIntOf, pure, Sem.run_bind, Sem.run, Result.andThen, hr, Instr.sureAddr, h1, and_self, if_true, run_sizeOf hs, Int.toNat_natCast, Addr.add_eq]
theorem pr_indexArr {x y : Operand} {t e : TypeId} {len b o k sz : Nat} {ki : IntKind} (hx : ev F x = some (.pointer (some ⟨b, o, none⟩))) (hy : ev F y = some (.int ki (k : Int))) (ht : P.underlying t = some (.array len e)) (hs : sizeB P e = some sz) (hk : k < len) :
    PR P n F C (.indexAddr t x y) (.pointer (some ⟨b, o + k * sz, none⟩)) := fun _ _ _ _ _ a w ha _ => by
  simp only [execOp, ha.ev hx, ha.ev hy, Sem.run_bind, run_indexArr ht hs b o k ki hk]
  rfl
/-- the elements are of one cell, the array is the whole block -/
theorem pr_indexArr1 {x y : Operand} {t e : TypeId} {len b k : Nat} {ki : IntKind} (hx : ev F x = some (.pointer (some ⟨b, 0, none⟩))) (hy : ev F y = some (.int ki (k : Int))) (ht : P.underlying t = some (.array len e)) (hs : sizeB P e = some 1) (hk : k < len) :
    PR P n F C (.indexAddr t x y) (.pointer (some ⟨b, k, none⟩)) := by
  have := pr_indexArr (n := n) (C := C) hx hy ht hs hk
  rwa [Nat.zero_add, Nat.mul_one] at this
theorem pr_indexArr1i {x y : Operand} {t e : TypeId} {len b : Nat} {q : Int} {ki : IntKind} (hx : ev F x = some (.pointer (some ⟨b, 0, none⟩))) (hy : ev F y = some (.int ki q)) (ht : P.underlying t = some (.array len e)) (hs : sizeB P e = some 1) (h0 : 0 ≤ q) (hk : q < len) :
    PR P n F C (.indexAddr t x y) (.pointer (some ⟨b, q.toNat, none⟩)) := pr_indexArr1 hx (k := q.toNat) (by rw [hy, Int.toNat_of_nonneg h0]) ht hs (by omega)
theorem pr_load_arr {α : Type} [Inhabited α] {g : α → Value} {l : List α} {x : Operand} {t : TypeId} {b k : Nat} {E : TypeId} {Rs' : List Res} (hx : ev F x = some (.pointer (some ⟨b, k, none⟩))) (hp : Pick Rs (.blk b E (l.map g)) Rs') (ht : isAggB P t = some false) (hk : k < l.length) :
    PR P n F (HW w0 m Rs) (.load t x) (g l[k]!) := pr_load1 ht hx fun w hw => by
  rw [World.cell_of (hw.blk hp)]
  simp [hk]
theorem pr_loadA {x : Operand} {t : TypeId} {b k : Nat} {L : List Value} {E : TypeId} {Rs' : List Res} (hx : ev F x = some (.pointer (some ⟨b, 0, none⟩))) (hp : Pick Rs (.blk b E L) Rs') (ht : isAggB P t = some true) (hs : sizeB P t = some k) (hk : L.length = k) :
    PR P n F (HW w0 m Rs) (.load t x) (.agg L.toArray) := pr_loadN ht hx (by rw [hk]; exact hs) fun w hw j _ => by
  rw [World.cell_of (hw.blk hp)]
  simp
theorem rv_cellA {x b k : Nat} {t E : TypeId} {L : List Value} {Rs' : List Res} (hx : look x F = some (.pointer (some ⟨b, 0, none⟩))) (hp : Pick Rs (.blk b E L) Rs') (ht : isAggB P t = some true) (hs : sizeB P t = some k) (hk : L.length = k) : RV P n F (HW w0 m Rs) (.cell x t) (.agg L.toArray) := fun a w ha hC => by
  show ((do loadVar t (← asAddr (a.tmps.getD x undef))) : Sem Value).run P w = _
  rw [ha.val x _ hx]
  have e0 : (asAddr (.pointer (some ⟨b, 0, none⟩)) : Sem Addr).run P w = .ok ⟨b, 0, none⟩ w := rfl
  simp only [Sem.run_bind, e0, Result.andThen]
  exact run_loadVarN ht (by rw [hk]; exact hs) (fun j _ => by
    rw [World.cell_of (hC.blk hp)]
    simp)
/-! ### the model's own functions -/
theorem pr_extern {f : FuncId} {fn : Func} {e : Array Value → Sem Value} {xs : List Operand} {ts : Array TypeId} {vs : List Value} {v : Value} (hf : P.funcs[f]? = some fn) (hname : (fn.name == "runtime.NumGoroutine") = false) (hb : fn.body.isNone = true) (hn : Extern.findNext fn = none) (he : Extern.find fn = some e)
    (hx : evs F xs = some vs) (hv : ∀ w, (e vs.toArray).run P w = .ok v w) : PR P n F C (.call ⟨.value (.func f), xs.toArray, ts⟩) v := fun _ _ _ _ _ a w ha _ => by
  rw [execOp_call_go]
  have : (#[] ++ xs.toArray.map a.eval ++ #[] : Array Value) = vs.toArray := by simp [evs_map ha xs vs hx]
  rw [this, run_callFunc_extern hf hname hb hn he, hv w]
  rfl
/-! ### two structs are compared -/
def eqG (P : Program) (eqT : TypeId → List Value → List Value → Option (List Bool)) (xs ys : List Value) : List Field → Option (List Bool)
  | [] => some []
  | f :: fs => match f.name == "_" with
    | true => none
    | false => match P.info? f.type with
      | some i => match subl xs f.offset i.size with
        | some a => match subl ys f.offset i.size with
          | some b => match eqT f.type a b with
            | some r => match eqG P eqT xs ys fs with
              | some q => some (r ++ q)
              | none => none
            | none => none
          | none => none
        | none => none
      | none => none
def eqS (P : Program) : Nat → TypeId → List Value → List Value → Option (List Bool)
  | 0, _, _, _ => none
  | d + 1, t, xs, ys => match P.underlying t with
    | some (.struct fs) => eqG P (eqS P d) xs ys fs.toList
    | some .bool => match xs, ys with
      | [.bool a], [.bool b] => some [a == b]
      | _, _ => none
    | some .string => match xs, ys with
      | [.string a], [.string b] => some [decide (a = b)]
      | _, _ => none
    | some (.int _) => match xs, ys with
      | [.int k a], [.int k' b] => match decide (k = k') with
        | true => some [decide (a = b)]
        | false => none
      | _, _ => none
    | _ => none
def eqM (P : Program) (t : TypeId) (xs ys : List Value) : Option (List Bool) := match eqS P 6 t xs ys with
  | some l => flat l
  | none => none
/-- no struct of it is laid out by another's hand -/
def freeF (rec : TypeId → Bool) : List Field → Bool
  | [] => true
  | f :: fs => rec f.type && freeF rec fs
def freeB (P : Program) : Nat → TypeId → Bool
  | 0, _ => false
  | d + 1, t => match P.underlying t with
    | some (.struct fs) => !P.stoodInHeld t && freeF (freeB P d) fs.toList
    | _ => true
theorem eqS_run : ∀ (d e : Nat) (t : TypeId) (xs ys : List Value) (r : List Bool) (w : World), freeB P d t = true → eqS P d t xs ys = some r →
    (isAggB P t = some true ∧ (Op.equalIn (d + e) t (.agg xs.toArray) (.agg ys.toArray)).run P w = .ok (andL r) w) ∨
    (isAggB P t = some false ∧ ∃ x y, xs = [x] ∧ ys = [y] ∧ (Op.equalIn (d + e) t x y).run P w = .ok (andL r) w)
  | 0, _, _, _, _, _, _, h, _ => by cases h
  | d + 1, e, t, xs, ys, r, w, hfree, h => by
    have ih := eqS_run d e
    rw [show d + 1 + e = (d + e) + 1 by omega]
    unfold eqS at h
    unfold freeB at hfree
    cases hu : P.underlying t with
    | none => rw [hu] at h; cases h
    | some u =>
      rw [hu] at h hfree
      cases u <;> simp only at h hfree <;> try (cases h; done)
      case bool =>
        split at h
        · rename_i a b
          cases h
          refine .inr ⟨by simp [isAggB, hu], _, _, rfl, rfl, ?_⟩
          simp [Op.equalIn, run_underlying hu, andL]
        · cases h
      case string =>
        split at h
        · rename_i a b
          cases h
          refine .inr ⟨by simp [isAggB, hu], _, _, rfl, rfl, ?_⟩
          have : (a == b) = decide (a = b) := by rw [beq_toListBytes, str_eq]
          simp [Op.equalIn, run_underlying hu, andL, this]
        · cases h
      case int kk =>
        split at h
        · rename_i k a k' b
          by_cases hk : k = k'
          · subst hk
            simp only [decide_true] at h
            cases h
            refine .inr ⟨by simp [isAggB, hu], _, _, rfl, rfl, ?_⟩
            have : (a == b) = decide (a = b) := rfl
            simp [Op.equalIn, run_underlying hu, andL, this]
          · simp only [decide_eq_false hk] at h
            cases h
        · cases h
      case struct fs =>
        rw [Bool.and_eq_true] at hfree
        obtain ⟨hp0, hfr⟩ := hfree
        cases hp : P.stoodInHeld t with
        | true => rw [hp] at hp0; cases hp0
        | false =>
          refine .inl ⟨by simp [isAggB, hu], ?_⟩
          have hfo : P.fieldsOf t = fs := by simp [Program.fieldsOf, hu]
          rw [run_equalIn_struct w (d + e) t _ _ (by rw [hfo]; exact hu) hp, hfo]
          generalize fs.toList = l at h hfr
          clear hfo hu
          induction l generalizing r with
          | nil => cases h; rfl
          | cons f l ihl =>
            unfold eqG at h
            unfold freeF at hfr
            rw [Bool.and_eq_true] at hfr
            cases hn : f.name == "_" with
            | true => rw [hn] at h; cases h
            | false =>
              rw [hn] at h
              simp only at h
              have hn' : f.name ≠ "_" := by simpa using hn
              cases hi : P.info? f.type with
              | none => rw [hi] at h; cases h
              | some i =>
                rw [hi] at h
                simp only at h
                cases h1 : subl xs f.offset i.size with
                | none => rw [h1] at h; cases h
                | some a =>
                  cases h2 : subl ys f.offset i.size with
                  | none => rw [h1, h2] at h; cases h
                  | some b =>
                    rw [h1, h2] at h
                    simp only at h
                    cases h3 : eqS P d f.type a b with
                    | none => rw [h3] at h; cases h
                    | some q =>
                      rw [h3] at h
                      simp only at h
                      cases h4 : eqG P (eqS P d) xs ys l with
                      | none => rw [h4] at h; cases h
                      | some q2 =>
                        rw [h4] at h
                        cases h
                        have hr := ihl q2 h4 hfr.2
                        unfold Op.eqFields
                        rw [if_pos hn', andL_append]
                        rcases ih f.type a b q w hfr.1 h3 with ⟨hb, hq⟩ | ⟨hb, x, y, rfl, rfl, hq⟩
                        · have p1 := run_part hb hi h1 undef (fun e => by cases e) w
                          have p2 := run_part hb hi h2 undef (fun e => by cases e) w
                          simp only [if_true] at p1 p2
                          simp only [Sem.run_bind, p1, p2, hq, Result.andThen]
                          cases andL q with
                          | true => simpa using hr
                          | false => simp
                        · have p1 := run_part hb hi h1 x (fun _ => rfl) w
                          have p2 := run_part hb hi h2 y (fun _ => rfl) w
                          simp only [Bool.false_eq_true, if_false] at p1 p2
                          simp only [Sem.run_bind, p1, p2, hq, Result.andThen]
                          cases andL q with
                          | true => simpa using hr
                          | false => simp
theorem run_agg_equal2 {t : TypeId} {xs ys : List Value} {bs : List Bool} (hb : isAggB P t = some true) (hn : freeB P 6 t = true) (h : eqM P t xs ys = some bs) (w : World) : (Op.equal t (.agg xs.toArray) (.agg ys.toArray)).run P w = .ok (andL bs) w := by
  unfold eqM at h
  cases h1 : eqS P 6 t xs ys with
  | none => rw [h1] at h; cases h
  | some l =>
    rw [h1] at h
    have := flat_eq _ _ h
    subst this
    unfold Op.equal
    rcases eqS_run 6 9994 t xs ys bs w hn h1 with ⟨_, h2⟩ | ⟨h2, _⟩
    · exact h2
    · rw [hb] at h2; cases h2
theorem pr_aggeq2 {x y : Operand} {t u : TypeId} {xs ys : List Value} {bs : List Bool} (hx : ev F x = some (.agg xs.toArray)) (hy : ev F y = some (.agg ys.toArray)) (hb : isAggB P t = some true) (hg : P.eqGuardType P.depth t = false) (hn : freeB P 6 t = true) (h : eqM P t xs ys = some bs) : PR P n F C (.binOp .eql t x y u) (.bool (andL bs)) :=
  pr_eql_of hx hy (run_agg_guard hg .eql (.inl rfl)) rfl (fun w _ => run_agg_equal2 hb hn h w)
theorem pr_aggne2 {x y : Operand} {t u : TypeId} {xs ys : List Value} {bs : List Bool} (hx : ev F x = some (.agg xs.toArray)) (hy : ev F y = some (.agg ys.toArray)) (hb : isAggB P t = some true) (hg : P.eqGuardType P.depth t = false) (hn : freeB P 6 t = true) (h : eqM P t xs ys = some bs) : PR P n F C (.binOp .neq t x y u) (.bool (!andL bs)) :=
  pr_neq_of hx hy (run_agg_guard hg .neq (.inr rfl)) rfl (fun w _ => run_agg_equal2 hb hn h w)
end
end Go.J
namespace Go.J
open Go
/-- a region's end alone -/
def Fin (K : Act → World → Prop) : Exit → Act → World → Prop := fun e a w => e = .normal ∧ K a w
/-- a condition's value is known, and nothing else of the way to it -/
def JoinB (n : Nat) (w0 : World) (p : Prop) (t : Nat) (F0 : Fr) (m : Mem) (Rs : List Res) : Act → World → Prop := fun a w => ∃ b : Bool, (b = true ↔ p) ∧ HF n ((t, .bool b) :: F0) a ∧ HW w0 m Rs w
section
variable {P : Program} {n : Nat} {w0 : World} {F : Fr} {m : Mem} {Rs : List Res} {Q : Exit → Act → World → Prop} {K : Act → World → Prop}
theorem At.fin_n (h : At n w0 F m Rs K) : At n w0 F m Rs (Fin K .normal) := fun a w ha hw => ⟨rfl, h a w ha hw⟩
theorem At.cutp {id : Nat} {ops : Array Oper} {dr : Bool} {F0 : Fr} (p : Prop) [Decidable p] (t : Nat) (L : List Nat) (e0 : keepL L F = some F0)
    (hx : At n w0 F m Rs ((Code.region id ops dr).wp P (Fin (JoinB n w0 p t F0 m Rs))))
    (hy : At n w0 ((t, .bool (decide p)) :: F0) m Rs K) : At n w0 F m Rs ((Code.region id ops dr).wp P (Exit.then K Q)) := by
  have _ := e0
  refine fun a w ha hw => Code.wp_mono (fun e a' w' q => ?_) (hx a w ha hw)
  obtain ⟨rfl, b, hb, h1, h2⟩ := q
  have : b = decide p := by
    by_cases h : p
    · rw [decide_eq_true h]; exact hb.2 h
    · rw [decide_eq_false h]; cases b
      · rfl
      · exact absurd (hb.1 rfl) h
  subst this
  exact hy a' w' h1 h2
theorem At.endp {p : Prop} {t : Nat} {F0 : Fr} {m0 : Mem} {Rs0 : List Res} {b : Bool} (ht : look t F = some (.bool b)) (hs : Subs F0 F) (hm : m0.le m) (hR : Ent Rs Rs0) (hp : b = true ↔ p) : At n w0 F m Rs (JoinB n w0 p t F0 m0 Rs0) :=
  fun a w ha hw => ⟨b, hp, (ha.weaken (F' := (t, .bool b) :: F0) ⟨ht, hs⟩), (hw.ent hR).weak hm⟩
end
end Go.J
namespace Go.J
open Go
theorem zhcs : (∀ (p : Prop) [Decidable p], (decide p = true) = p) ∧ (∀ (p : Prop) [Decidable p], (decide p = false) = ¬ p) ∧ (∀ b : Bool, ((!b) = true) = (b = false)) ∧ (∀ b : Bool, ((!b) = false) = (b = true)) ∧
    (∀ a b : Bool, ((a && b) = true) = (a = true ∧ b = true)) ∧ (∀ a b : Bool, ((a || b) = true) = (a = true ∨ b = true)) ∧ (∀ a b : Bool, ((a && b) = false) = (a = false ∨ b = false)) ∧ (∀ a b : Bool, ((a || b) = false) = (a = false ∧ b = false)) ∧
    (∀ a b : Bool, ((a != b) = true) = (a ≠ b)) ∧ (∀ a b : Bool, ((a == b) = true) = (a = b)) ∧ (∀ a b : Bool, ((a == b) = false) = (a ≠ b)) ∧ (∀ a b : Bool, ((a != b) = false) = (a = b)) ∧
    ((!true) = false) ∧ ((!false) = true) ∧ (∀ p : Prop, (¬ ¬ p) = p) ∧ ((¬ True) = False) ∧ ((¬ False) = True) ∧ ((false = true) = False) ∧ ((true = false) = False) ∧
    ((none : Option Addr).isNone = true) ∧ (∀ x : Addr, (some x).isNone = false) ∧ (∀ b : Bool, (b && true) = b) ∧ (∀ p : Prop, (p ∧ True) = p) ∧ (∀ (a : Bool) (l : List Bool), andL (a :: l) = (a && andL l)) ∧ (andL [] = true) :=
  ⟨fun _ _ => decide_eq_true_eq, fun _ _ => by simp, by decide, by decide, by decide, by decide, by decide, by decide, by decide, by decide, by decide, by decide, rfl, rfl, fun p => by rw [Classical.not_not], by simp, by simp, by simp, by simp, rfl, fun _ => rfl, by decide, fun p => by simp, fun _ _ => andL_cons .., andL_nil⟩
theorem zrf {α : Type} {a b : α} (h : a = b := by first | rfl | fail) : a = b := h
theorem zom {p : Prop} (h : p := by first | omega | (simp only [lns] <;> omega) | fail) : p := h
theorem zlq {p : Prop} (h : p := by first | exact rfl | omega | (simp only [lns] <;> omega) | fail) : p := h
theorem ztk {A R Y : List Res} (h : Take A R Y := by (repeat' (first | exact Take.nil | ((with_reducible apply Take.cons); (focus ((repeat constructor); done)))))) : Take A R Y := h
theorem zkp {A R Y : List Res} (h : Keep A R Y := by (repeat' (first | exact Keep.nil | ((with_reducible apply Keep.cons); exact (by repeat constructor)) | (with_reducible apply Keep.skip)))) : Keep A R Y := h
theorem zlw {A R : List Res} (h : Low A R := by (repeat' (first | exact Low.base | ((with_reducible apply Low.cons); exact (by repeat constructor)) | (with_reducible apply Low.skip)))) : Low A R := h
theorem zlf {A R Y : List Res} (h : Left A R Y := by (repeat' (first | exact Left.base | ((with_reducible apply Left.cons); exact (by repeat constructor)) | (with_reducible apply Left.extra)))) : Left A R Y := h
theorem zml {m m' : Mem} (h : m.le m' := by first | exact Mem.le_refl _ | assumption | exact Mem.le_trans (by assumption) (by assumption) | (focus ((iterate 16 (first | done | assumption | refine Mem.le_trans ?_ (by assumption))); done)) | fail) : m.le m' := h
theorem zsubs {A B : Fr} (h : Subs A B := by first | exact trivial | (repeat' (first | exact trivial | refine ⟨rfl, ?_⟩ | refine ⟨look_int (by rfl) (by first | omega | (dsimp only; omega)), ?_⟩))) : Subs A B := h
theorem zente {A B : List Res} (h : Ent A B := by first | exact Ent.refl _ | (refine Low.ent ?_; exact zlw) | fail) : Ent A B := h
section
variable {α : Type} [Inhabited α] {f : α → List Value} {sz : Nat} {p : Option Addr} {c : Nat} {l : List α} {P : Program} {n : Nat} {F : Fr} {C : World → Prop} {op : Op} {v : Value} {m : Mem}
theorem zsla (h : Sl m f sz p c l := by first | assumption | exact Sl.mono (by assumption) (by assumption) | fail) : Sl m f sz p c l := h
theorem zrdb (h : Rdb C f sz p c l := by first | exact own_rdb inferInstance (by repeat constructor) | exact Sl.rdb zsla | fail) : Rdb C f sz p c l := h
theorem zpr0 (h : PR P n F C op v := by first | ((with_reducible first | apply pr_move | apply pr_assign | apply pr_extract | apply pr_nilCheck | apply pr_lss | apply pr_leq | apply pr_gtr | apply pr_geq | apply pr_eql | apply pr_neq | apply pr_not | apply pr_pick_t | apply pr_len_sl | apply pr_fieldAddr0 | apply pr_build | apply pr_field1 | apply pr_makeFunc | apply pr_and | apply pr_or | apply pr_xor | apply pr_andnot | apply pr_min | apply pr_max) <;> exact rfl) | ((with_reducible first | apply pr_pick_f | apply pr_beql | apply pr_bneq | apply pr_len_str | apply pr_fieldAddrL | apply pr_fieldN) <;> exact rfl) | ((with_reducible first | apply pr_peql | apply pr_pneq | apply pr_fieldAddr_at2) <;> exact rfl) | ((with_reducible first | apply pr_streq | apply pr_strne | apply pr_fieldAddr_at) <;> exact rfl) | ((with_reducible first | apply pr_add | apply pr_sub | apply pr_mul); exact rfl; exact rfl; (first | exact IntWalk.i64_in _ (by omega) | exact IntWalk.u64_in _ (by omega) | exact IntWalk.u8_in _ (by omega) | exact IntWalk.u32_in _ (by omega) | exact IntKind.wrap_u64 _ | exact IntKind.wrap_i64 _ | exact IntKind.wrap_u32 _ | exact IntKind.wrap_u8 _)) | ((with_reducible apply pr_quo); exact rfl; exact rfl; omega; (first | exact IntWalk.i64_quo _ _ (by omega) | exact IntWalk.u64_quo _ _ (by omega))) | ((with_reducible apply pr_rem); exact rfl; exact rfl; omega; exact IntWalk.rem_in _ _ (by omega)) | ((with_reducible apply pr_conv); exact ⟨_, rfl⟩; exact rfl; exact rfl; (first | exact IntWalk.i64_in _ (by omega) | exact IntWalk.u64_in _ (by omega) | exact IntWalk.u8_in _ (by omega) | exact IntWalk.u32_in _ (by omega) | exact IntKind.wrap_u64 _ | exact IntKind.wrap_i64 _ | exact IntKind.wrap_u32 _ | exact IntKind.wrap_u8 _)) | ((with_reducible apply pr_load_blk1); exact rfl; exact rfl; exact (by repeat constructor); exact rfl) | ((with_reducible apply pr_load_blkN); exact rfl; exact rfl; exact rfl; exact (by repeat constructor); exact rfl) | ((with_reducible first | apply pr_aggeq2 | apply pr_aggne2); exact rfl; exact rfl; exact rfl; kernel_rfl; kernel_rfl; exact rfl) | ((with_reducible first | apply pr_strindexn | apply pr_str_ln | apply pr_str_hn); exact rfl; exact rfl; exact rfl; (first | omega | (simp only [lns] <;> omega))) | ((with_reducible apply pr_str_lhn); exact rfl; exact rfl; exact rfl; exact rfl; (first | omega | (simp only [lns] <;> omega)); (first | omega | (simp only [lns] <;> omega))) | ((with_reducible first | apply pr_strindex | apply pr_str_l | apply pr_str_h); exact rfl; exact rfl; exact rfl; (first | omega | (simp only [lns] <;> omega)); (first | omega | (simp only [lns] <;> omega))) | ((with_reducible apply pr_str_lh); exact rfl; exact rfl; exact rfl; exact rfl; (first | omega | (simp only [lns] <;> omega)); (first | omega | (simp only [lns] <;> omega)); (first | omega | (simp only [lns] <;> omega))) | ((with_reducible apply pr_stradd); exact rfl; exact rfl; (first | omega | (simp only [lns] <;> omega))) | ((with_reducible apply pr_neg); exact rfl; (first | exact IntWalk.i64_in _ (by omega) | exact IntWalk.u64_in _ (by omega) | exact IntWalk.u8_in _ (by omega) | exact IntWalk.u32_in _ (by omega) | exact IntKind.wrap_u64 _ | exact IntKind.wrap_i64 _ | exact IntKind.wrap_u32 _ | exact IntKind.wrap_u8 _)) | ((with_reducible apply pr_shrv); exact rfl; exact rfl; (first | omega | (simp only [IntKind.bits] <;> omega)); (first | omega | (simp only [IntKind.bits] <;> omega)); ((try simp only [Int.reduceToNat, Int.reducePow, Nat.reducePow]); exact rfl)) | ((with_reducible apply pr_shlv); exact rfl; exact rfl; (first | omega | (simp only [IntKind.bits] <;> omega)); (first | omega | (simp only [IntKind.bits] <;> omega)); ((try simp only [Int.reduceToNat, Int.reducePow]); (first | exact IntWalk.i64_in _ (by omega) | exact IntWalk.u64_in _ (by omega) | exact IntWalk.u8_in _ (by omega) | exact IntWalk.u32_in _ (by omega) | exact IntKind.wrap_u64 _ | exact IntKind.wrap_i64 _ | exact IntKind.wrap_u32 _ | exact IntKind.wrap_u8 _))) | fail) : PR P n F C op v := h
theorem zprO (h : PR P n F C op v := by first | ((with_reducible first | apply pr_move | apply pr_assign | apply pr_extract | apply pr_nilCheck | apply pr_lss | apply pr_leq | apply pr_gtr | apply pr_geq | apply pr_eql | apply pr_neq | apply pr_not | apply pr_pick_t | apply pr_len_sl | apply pr_fieldAddr0 | apply pr_build | apply pr_field1 | apply pr_makeFunc | apply pr_and | apply pr_or | apply pr_xor | apply pr_andnot | apply pr_minI | apply pr_maxI) <;> exact rfl) | ((with_reducible first | apply pr_pick_f | apply pr_beql | apply pr_bneq | apply pr_len_str | apply pr_fieldAddrL | apply pr_fieldN) <;> exact rfl) | ((with_reducible first | apply pr_peql | apply pr_pneq | apply pr_fieldAddr_at2) <;> exact rfl) | ((with_reducible first | apply pr_streq | apply pr_strne | apply pr_fieldAddr_at) <;> exact rfl) | ((with_reducible first | apply pr_add | apply pr_sub | apply pr_mul); exact rfl; exact rfl; (first | exact IntWalk.i64_in _ (by omega) | exact IntWalk.u64_in _ (by omega) | exact IntWalk.u8_in _ (by omega) | exact IntWalk.u32_in _ (by omega) | exact IntKind.wrap_u64 _ | exact IntKind.wrap_i64 _ | exact IntKind.wrap_u32 _ | exact IntKind.wrap_u8 _)) | ((with_reducible apply pr_quo); exact rfl; exact rfl; omega; (first | exact IntWalk.i64_quo _ _ (by omega) | exact IntWalk.u64_quo _ _ (by omega))) | ((with_reducible apply pr_rem); exact rfl; exact rfl; omega; exact IntWalk.rem_in _ _ (by omega)) | ((with_reducible apply pr_conv); exact ⟨_, rfl⟩; exact rfl; exact rfl; (first | exact IntWalk.i64_in _ (by omega) | exact IntWalk.u64_in _ (by omega) | exact IntWalk.u8_in _ (by omega) | exact IntWalk.u32_in _ (by omega) | exact IntKind.wrap_u64 _ | exact IntKind.wrap_i64 _ | exact IntKind.wrap_u32 _ | exact IntKind.wrap_u8 _)) | ((with_reducible apply pr_load_blk1); exact rfl; exact rfl; exact (by repeat constructor); exact rfl) | ((with_reducible apply pr_load_blkN); exact rfl; exact rfl; exact rfl; exact (by repeat constructor); exact rfl) | exact pr_index_own zrf zrf (by repeat constructor) inferInstance zrf zrf zlq zom | exact pr_load_own1 zrf (by repeat constructor) inferInstance zom zrf zrf | exact pr_load_ownN zrf (by repeat constructor) inferInstance zom zrf zrf zrf | exact pr_load_ownf zrf (by repeat constructor) inferInstance zom zrf zrf zrf | exact pr_load_ownfN zrf (by repeat constructor) inferInstance zom zrf zrf zrf zrf | exact pr_index_owni zrf zrf (by repeat constructor) inferInstance zrf zrf zlq zom zom | exact pr_slice_gl zrf zrf (own_le (by repeat constructor)) zrf zrf zom | exact pr_slice_gh zrf zrf (own_le (by repeat constructor)) zrf zrf zom | exact pr_slice_glh zrf zrf zrf (own_le (by repeat constructor)) zrf zrf zom zom | exact pr_slice_gli zrf zrf (own_le (by repeat constructor)) zrf zrf zom zom | exact pr_slice_ghi zrf zrf (own_le (by repeat constructor)) zrf zrf zom zom | exact pr_slice_glhi zrf zrf zrf (own_le (by repeat constructor)) zrf zrf zom zom zom | ((with_reducible first | apply pr_aggeq2 | apply pr_aggne2); exact rfl; exact rfl; exact rfl; kernel_rfl; kernel_rfl; exact rfl) | ((with_reducible first | apply pr_strindexn | apply pr_str_ln | apply pr_str_hn); exact rfl; exact rfl; exact rfl; (first | omega | (simp only [lns] <;> omega))) | ((with_reducible apply pr_str_lhn); exact rfl; exact rfl; exact rfl; exact rfl; (first | omega | (simp only [lns] <;> omega)); (first | omega | (simp only [lns] <;> omega))) | ((with_reducible first | apply pr_strindex | apply pr_str_l | apply pr_str_h); exact rfl; exact rfl; exact rfl; (first | omega | (simp only [lns] <;> omega)); (first | omega | (simp only [lns] <;> omega))) | ((with_reducible apply pr_str_lh); exact rfl; exact rfl; exact rfl; exact rfl; (first | omega | (simp only [lns] <;> omega)); (first | omega | (simp only [lns] <;> omega)); (first | omega | (simp only [lns] <;> omega))) | ((with_reducible apply pr_stradd); exact rfl; exact rfl; (first | omega | (simp only [lns] <;> omega))) | ((with_reducible apply pr_neg); exact rfl; (first | exact IntWalk.i64_in _ (by omega) | exact IntWalk.u64_in _ (by omega) | exact IntWalk.u8_in _ (by omega) | exact IntWalk.u32_in _ (by omega) | exact IntKind.wrap_u64 _ | exact IntKind.wrap_i64 _ | exact IntKind.wrap_u32 _ | exact IntKind.wrap_u8 _)) | ((with_reducible apply pr_shrv); exact rfl; exact rfl; (first | omega | (simp only [IntKind.bits] <;> omega)); (first | omega | (simp only [IntKind.bits] <;> omega)); ((try simp only [Int.reduceToNat, Int.reducePow, Nat.reducePow]); exact rfl)) | ((with_reducible apply pr_shlv); exact rfl; exact rfl; (first | omega | (simp only [IntKind.bits] <;> omega)); (first | omega | (simp only [IntKind.bits] <;> omega)); ((try simp only [Int.reduceToNat, Int.reducePow]); (first | exact IntWalk.i64_in _ (by omega) | exact IntWalk.u64_in _ (by omega) | exact IntWalk.u8_in _ (by omega) | exact IntWalk.u32_in _ (by omega) | exact IntKind.wrap_u64 _ | exact IntKind.wrap_i64 _ | exact IntKind.wrap_u32 _ | exact IntKind.wrap_u8 _))) | exact pr_bytes_str zrf zrf zrf zrf zrdb zlq | fail) : PR P n F C op v := h
theorem zprM (h : PR P n F C op v := by first | ((with_reducible first | apply pr_move | apply pr_assign | apply pr_extract | apply pr_nilCheck | apply pr_lss | apply pr_leq | apply pr_gtr | apply pr_geq | apply pr_eql | apply pr_neq | apply pr_not | apply pr_pick_t | apply pr_len_sl | apply pr_fieldAddr0 | apply pr_build | apply pr_field1 | apply pr_makeFunc | apply pr_and | apply pr_or | apply pr_xor | apply pr_andnot | apply pr_minI | apply pr_maxI) <;> exact rfl) | ((with_reducible first | apply pr_pick_f | apply pr_beql | apply pr_bneq | apply pr_len_str | apply pr_fieldAddrL | apply pr_fieldN) <;> exact rfl) | ((with_reducible first | apply pr_peql | apply pr_pneq | apply pr_fieldAddr_at2) <;> exact rfl) | ((with_reducible first | apply pr_streq | apply pr_strne | apply pr_fieldAddr_at) <;> exact rfl) | ((with_reducible first | apply pr_add | apply pr_sub | apply pr_mul); exact rfl; exact rfl; (first | exact IntWalk.i64_in _ (by omega) | exact IntWalk.u64_in _ (by omega) | exact IntWalk.u8_in _ (by omega) | exact IntWalk.u32_in _ (by omega) | exact IntKind.wrap_u64 _ | exact IntKind.wrap_i64 _ | exact IntKind.wrap_u32 _ | exact IntKind.wrap_u8 _)) | ((with_reducible apply pr_quo); exact rfl; exact rfl; omega; (first | exact IntWalk.i64_quo _ _ (by omega) | exact IntWalk.u64_quo _ _ (by omega))) | ((with_reducible apply pr_rem); exact rfl; exact rfl; omega; exact IntWalk.rem_in _ _ (by omega)) | ((with_reducible apply pr_conv); exact ⟨_, rfl⟩; exact rfl; exact rfl; (first | exact IntWalk.i64_in _ (by omega) | exact IntWalk.u64_in _ (by omega) | exact IntWalk.u8_in _ (by omega) | exact IntWalk.u32_in _ (by omega) | exact IntKind.wrap_u64 _ | exact IntKind.wrap_i64 _ | exact IntKind.wrap_u32 _ | exact IntKind.wrap_u8 _)) | ((with_reducible apply pr_load_blk1); exact rfl; exact rfl; exact (by repeat constructor); exact rfl) | ((with_reducible apply pr_load_blkN); exact rfl; exact rfl; exact rfl; exact (by repeat constructor); exact rfl) | exact pr_index_mem zrf zrf zsla zrf zrf zlq zom | exact pr_index_memi zrf zrf zsla zrf zrf zlq zom zom | exact pr_load_meme1 zrf zsla zom zrf zrf | exact pr_load_memeN zrf zsla zom zrf zrf zrf | exact pr_load_memef zrf zsla zom zrf zrf zrf | exact pr_load_memefN zrf zsla zom zrf zrf zrf zrf | exact pr_slice_gl zrf zrf (mem_le zsla) zrf zrf zom | exact pr_slice_gh zrf zrf (mem_le zsla) zrf zrf zom | exact pr_slice_glh zrf zrf zrf (mem_le zsla) zrf zrf zom zom | exact pr_slice_gli zrf zrf (mem_le zsla) zrf zrf zom zom | exact pr_slice_ghi zrf zrf (mem_le zsla) zrf zrf zom zom | exact pr_slice_glhi zrf zrf zrf (mem_le zsla) zrf zrf zom zom zom | ((with_reducible first | apply pr_aggeq2 | apply pr_aggne2); exact rfl; exact rfl; exact rfl; kernel_rfl; kernel_rfl; exact rfl) | ((with_reducible first | apply pr_strindexn | apply pr_str_ln | apply pr_str_hn); exact rfl; exact rfl; exact rfl; (first | omega | (simp only [lns] <;> omega))) | ((with_reducible apply pr_str_lhn); exact rfl; exact rfl; exact rfl; exact rfl; (first | omega | (simp only [lns] <;> omega)); (first | omega | (simp only [lns] <;> omega))) | ((with_reducible first | apply pr_strindex | apply pr_str_l | apply pr_str_h); exact rfl; exact rfl; exact rfl; (first | omega | (simp only [lns] <;> omega)); (first | omega | (simp only [lns] <;> omega))) | ((with_reducible apply pr_str_lh); exact rfl; exact rfl; exact rfl; exact rfl; (first | omega | (simp only [lns] <;> omega)); (first | omega | (simp only [lns] <;> omega)); (first | omega | (simp only [lns] <;> omega))) | ((with_reducible apply pr_stradd); exact rfl; exact rfl; (first | omega | (simp only [lns] <;> omega))) | ((with_reducible apply pr_neg); exact rfl; (first | exact IntWalk.i64_in _ (by omega) | exact IntWalk.u64_in _ (by omega) | exact IntWalk.u8_in _ (by omega) | exact IntWalk.u32_in _ (by omega) | exact IntKind.wrap_u64 _ | exact IntKind.wrap_i64 _ | exact IntKind.wrap_u32 _ | exact IntKind.wrap_u8 _)) | ((with_reducible apply pr_shrv); exact rfl; exact rfl; (first | omega | (simp only [IntKind.bits] <;> omega)); (first | omega | (simp only [IntKind.bits] <;> omega)); ((try simp only [Int.reduceToNat, Int.reducePow, Nat.reducePow]); exact rfl)) | ((with_reducible apply pr_shlv); exact rfl; exact rfl; (first | omega | (simp only [IntKind.bits] <;> omega)); (first | omega | (simp only [IntKind.bits] <;> omega)); ((try simp only [Int.reduceToNat, Int.reducePow]); (first | exact IntWalk.i64_in _ (by omega) | exact IntWalk.u64_in _ (by omega) | exact IntWalk.u8_in _ (by omega) | exact IntWalk.u32_in _ (by omega) | exact IntKind.wrap_u64 _ | exact IntKind.wrap_i64 _ | exact IntKind.wrap_u32 _ | exact IntKind.wrap_u8 _))) | exact pr_bytes_str zrf zrf zrf zrf zrdb zlq | fail) : PR P n F C op v := h
theorem zprOM (h : PR P n F C op v := by first | ((with_reducible first | apply pr_move | apply pr_assign | apply pr_extract | apply pr_nilCheck | apply pr_lss | apply pr_leq | apply pr_gtr | apply pr_geq | apply pr_eql | apply pr_neq | apply pr_not | apply pr_pick_t | apply pr_len_sl | apply pr_fieldAddr0 | apply pr_build | apply pr_field1 | apply pr_makeFunc | apply pr_and | apply pr_or | apply pr_xor | apply pr_andnot | apply pr_minI | apply pr_maxI) <;> exact rfl) | ((with_reducible first | apply pr_pick_f | apply pr_beql | apply pr_bneq | apply pr_len_str | apply pr_fieldAddrL | apply pr_fieldN) <;> exact rfl) | ((with_reducible first | apply pr_peql | apply pr_pneq | apply pr_fieldAddr_at2) <;> exact rfl) | ((with_reducible first | apply pr_streq | apply pr_strne | apply pr_fieldAddr_at) <;> exact rfl) | ((with_reducible first | apply pr_add | apply pr_sub | apply pr_mul); exact rfl; exact rfl; (first | exact IntWalk.i64_in _ (by omega) | exact IntWalk.u64_in _ (by omega) | exact IntWalk.u8_in _ (by omega) | exact IntWalk.u32_in _ (by omega) | exact IntKind.wrap_u64 _ | exact IntKind.wrap_i64 _ | exact IntKind.wrap_u32 _ | exact IntKind.wrap_u8 _)) | ((with_reducible apply pr_quo); exact rfl; exact rfl; omega; (first | exact IntWalk.i64_quo _ _ (by omega) | exact IntWalk.u64_quo _ _ (by omega))) | ((with_reducible apply pr_rem); exact rfl; exact rfl; omega; exact IntWalk.rem_in _ _ (by omega)) | ((with_reducible apply pr_conv); exact ⟨_, rfl⟩; exact rfl; exact rfl; (first | exact IntWalk.i64_in _ (by omega) | exact IntWalk.u64_in _ (by omega) | exact IntWalk.u8_in _ (by omega) | exact IntWalk.u32_in _ (by omega) | exact IntKind.wrap_u64 _ | exact IntKind.wrap_i64 _ | exact IntKind.wrap_u32 _ | exact IntKind.wrap_u8 _)) | ((with_reducible apply pr_load_blk1); exact rfl; exact rfl; exact (by repeat constructor); exact rfl) | ((with_reducible apply pr_load_blkN); exact rfl; exact rfl; exact rfl; exact (by repeat constructor); exact rfl) | exact pr_index_own zrf zrf (by repeat constructor) inferInstance zrf zrf zlq zom | exact pr_load_own1 zrf (by repeat constructor) inferInstance zom zrf zrf | exact pr_load_ownN zrf (by repeat constructor) inferInstance zom zrf zrf zrf | exact pr_load_ownf zrf (by repeat constructor) inferInstance zom zrf zrf zrf | exact pr_load_ownfN zrf (by repeat constructor) inferInstance zom zrf zrf zrf zrf | exact pr_index_owni zrf zrf (by repeat constructor) inferInstance zrf zrf zlq zom zom | exact pr_slice_gl zrf zrf (own_le (by repeat constructor)) zrf zrf zom | exact pr_slice_gh zrf zrf (own_le (by repeat constructor)) zrf zrf zom | exact pr_slice_glh zrf zrf zrf (own_le (by repeat constructor)) zrf zrf zom zom | exact pr_slice_gli zrf zrf (own_le (by repeat constructor)) zrf zrf zom zom | exact pr_slice_ghi zrf zrf (own_le (by repeat constructor)) zrf zrf zom zom | exact pr_slice_glhi zrf zrf zrf (own_le (by repeat constructor)) zrf zrf zom zom zom | exact pr_index_mem zrf zrf zsla zrf zrf zlq zom | exact pr_index_memi zrf zrf zsla zrf zrf zlq zom zom | exact pr_load_meme1 zrf zsla zom zrf zrf | exact pr_load_memeN zrf zsla zom zrf zrf zrf | exact pr_load_memef zrf zsla zom zrf zrf zrf | exact pr_load_memefN zrf zsla zom zrf zrf zrf zrf | exact pr_slice_gl zrf zrf (mem_le zsla) zrf zrf zom | exact pr_slice_gh zrf zrf (mem_le zsla) zrf zrf zom | exact pr_slice_glh zrf zrf zrf (mem_le zsla) zrf zrf zom zom | exact pr_slice_gli zrf zrf (mem_le zsla) zrf zrf zom zom | exact pr_slice_ghi zrf zrf (mem_le zsla) zrf zrf zom zom | exact pr_slice_glhi zrf zrf zrf (mem_le zsla) zrf zrf zom zom zom | ((with_reducible first | apply pr_aggeq2 | apply pr_aggne2); exact rfl; exact rfl; exact rfl; kernel_rfl; kernel_rfl; exact rfl) | ((with_reducible first | apply pr_strindexn | apply pr_str_ln | apply pr_str_hn); exact rfl; exact rfl; exact rfl; (first | omega | (simp only [lns] <;> omega))) | ((with_reducible apply pr_str_lhn); exact rfl; exact rfl; exact rfl; exact rfl; (first | omega | (simp only [lns] <;> omega)); (first | omega | (simp only [lns] <;> omega))) | ((with_reducible first | apply pr_strindex | apply pr_str_l | apply pr_str_h); exact rfl; exact rfl; exact rfl; (first | omega | (simp only [lns] <;> omega)); (first | omega | (simp only [lns] <;> omega))) | ((with_reducible apply pr_str_lh); exact rfl; exact rfl; exact rfl; exact rfl; (first | omega | (simp only [lns] <;> omega)); (first | omega | (simp only [lns] <;> omega)); (first | omega | (simp only [lns] <;> omega))) | ((with_reducible apply pr_stradd); exact rfl; exact rfl; (first | omega | (simp only [lns] <;> omega))) | ((with_reducible apply pr_neg); exact rfl; (first | exact IntWalk.i64_in _ (by omega) | exact IntWalk.u64_in _ (by omega) | exact IntWalk.u8_in _ (by omega) | exact IntWalk.u32_in _ (by omega) | exact IntKind.wrap_u64 _ | exact IntKind.wrap_i64 _ | exact IntKind.wrap_u32 _ | exact IntKind.wrap_u8 _)) | ((with_reducible apply pr_shrv); exact rfl; exact rfl; (first | omega | (simp only [IntKind.bits] <;> omega)); (first | omega | (simp only [IntKind.bits] <;> omega)); ((try simp only [Int.reduceToNat, Int.reducePow, Nat.reducePow]); exact rfl)) | ((with_reducible apply pr_shlv); exact rfl; exact rfl; (first | omega | (simp only [IntKind.bits] <;> omega)); (first | omega | (simp only [IntKind.bits] <;> omega)); ((try simp only [Int.reduceToNat, Int.reducePow]); (first | exact IntWalk.i64_in _ (by omega) | exact IntWalk.u64_in _ (by omega) | exact IntWalk.u8_in _ (by omega) | exact IntWalk.u32_in _ (by omega) | exact IntKind.wrap_u64 _ | exact IntKind.wrap_i64 _ | exact IntKind.wrap_u32 _ | exact IntKind.wrap_u8 _))) | exact pr_bytes_str zrf zrf zrf zrf zrdb zlq | fail) : PR P n F C op v := h
theorem zprA (h : PR P n F C op v := by first | exact pr_indexArr1 zrf zrf zrf zrf zom | exact pr_indexArr1i zrf zrf zrf zrf zom zom | exact pr_loadA zrf (by repeat constructor) zrf zrf zlq | exact pr_load_arr zrf (by repeat constructor) zrf zom | ((with_reducible first | apply pr_aggeq2 | apply pr_aggne2); exact rfl; exact rfl; exact rfl; kernel_rfl; kernel_rfl; exact rfl) | fail) : PR P n F C op v := h
end
/-- what is left, so that nothing takes it for a fact -/
structure Wr (G : Prop) : Prop where
  out : G
section
variable {G G' G1 G2 : Prop}
theorem zss (k : G') (h : Wr G' → G := by intro k; first | ((with_reducible first | apply At.seq | apply At.nil | apply At.then_n | apply At.then_e | apply At.then_r | apply At.inb_n | apply At.inb_r | apply At.inb_here | apply At.block | apply At.skip | apply At.exit | apply At.ret | apply At.scope | apply At.label | apply At.nog_n | apply At.nog_r | apply At.nog_e | apply At.fin_n | apply AtQ.nil | apply At.app0 | apply At.app1 | apply At.app2 | apply At.app3 | apply At.app4 | apply At.app5 | apply At.app6 | apply At.app7); exact k.1) | ((with_reducible first | apply At.inb_past | apply At.regionf); exact rfl; exact k.1) | ((with_reducible apply At.quiet); exact rfl; kernel_rfl; kernel_rfl; exact k.1) | ((with_reducible apply At.storeB); exact rfl; exact rfl; exact rfl; exact rfl; exact rfl; exact rfl; exact (by repeat constructor); exact rfl; exact k.1) | ((with_reducible first | apply AtQ.guard_y | apply At.guard_y); exact rfl; exact rfl; exact rfl; exact k.1) | ((with_reducible first | apply AtQ.guard_nt | apply At.guard_nt); exact rfl; exact rfl; exact rfl; exact k.1) | ((with_reducible first | apply AtQ.guard_nf | apply At.guard_nf); exact rfl; exact rfl; exact rfl; exact k.1) | ((with_reducible first | apply AtQ.guard_nu | apply At.guard_nu); exact rfl; exact rfl; exact rfl; exact k.1) | ((with_reducible first | apply At.cond_t | apply At.cond_f); exact rfl; exact k.1) | ((with_reducible apply At.cond_f); exact rfl; exact k.1) | fail) : G := h ⟨k⟩
theorem zsx (k : G') (h : Wr G' → G := by intro k; first | ((with_reducible apply At.back); exact zlf; exact zml; exact k.1) | ((with_reducible apply At.backX); exact k.1) | ((with_reducible first | apply AtM.qo | apply AtM.done); exact rfl; exact k.1) | ((with_reducible apply AtM.done); exact rfl; exact k.1) | ((with_reducible first | apply AtM.xo | apply AtM.lo); exact rfl; exact rfl; exact k.1) | ((with_reducible first | apply AtQ.guard_y | apply At.guard_y | apply AtM1.guard_y); exact rfl; exact rfl; exact rfl; exact k.1) | ((with_reducible first | apply AtQ.guard_nt | apply At.guard_nt | apply AtM1.guard_nt); exact rfl; exact rfl; exact rfl; exact k.1) | ((with_reducible first | apply AtQ.guard_nf | apply At.guard_nf | apply AtM1.guard_nf); exact rfl; exact rfl; exact rfl; exact k.1) | ((with_reducible first | apply AtQ.guard_nu | apply At.guard_nu | apply AtM1.guard_nu); exact rfl; exact rfl; exact rfl; exact k.1) | fail) : G := h ⟨k⟩
theorem zs0 (k : G') (h : Wr G' → G := by intro k; ((with_reducible first | apply At.val | apply AtQ.val); exact zpr0; exact rfl; exact k.1)) : G := h ⟨k⟩
theorem zsO (k : G') (h : Wr G' → G := by intro k; ((with_reducible first | apply At.val | apply AtQ.val); exact zprO; exact rfl; exact k.1)) : G := h ⟨k⟩
theorem zsM (k : G') (h : Wr G' → G := by intro k; ((with_reducible first | apply At.val | apply AtQ.val); exact zprM; exact rfl; exact k.1)) : G := h ⟨k⟩
theorem zsOM (k : G') (h : Wr G' → G := by intro k; ((with_reducible first | apply At.val | apply AtQ.val); exact zprOM; exact rfl; exact k.1)) : G := h ⟨k⟩
theorem zx0 (k : G') (h : Wr G' → G := by intro k; first | ((with_reducible first | apply AtM1.valz | apply AtM1.val); exact rfl; exact zpr0; exact rfl; exact k.1) | ((with_reducible apply AtM1.val); exact rfl; exact zpr0; exact rfl; exact k.1) | fail) : G := h ⟨k⟩
theorem zxO (k : G') (h : Wr G' → G := by intro k; first | ((with_reducible first | apply AtM1.valz | apply AtM1.val); exact rfl; exact zprO; exact rfl; exact k.1) | ((with_reducible apply AtM1.val); exact rfl; exact zprO; exact rfl; exact k.1) | fail) : G := h ⟨k⟩
theorem zxM (k : G') (h : Wr G' → G := by intro k; first | ((with_reducible first | apply AtM1.valz | apply AtM1.val); exact rfl; exact zprM; exact rfl; exact k.1) | ((with_reducible apply AtM1.val); exact rfl; exact zprM; exact rfl; exact k.1) | fail) : G := h ⟨k⟩
theorem zxOM (k : G') (h : Wr G' → G := by intro k; first | ((with_reducible first | apply AtM1.valz | apply AtM1.val); exact rfl; exact zprOM; exact rfl; exact k.1) | ((with_reducible apply AtM1.val); exact rfl; exact zprOM; exact rfl; exact k.1) | fail) : G := h ⟨k⟩
theorem zsp (k1 : G1) (k2 : G2) (h : G1 → G2 → G := by intro k1 k2; first | ((with_reducible apply At.cond); exact rfl; exact k1; exact k2) | ((with_reducible first | apply At.guard_s | apply AtQ.guard_s | apply AtM1.guard_s); exact rfl; exact rfl; exact k1; exact k2) | fail) : G := h k1 k2
end
section
variable {P : Program} {n : Nat} {w0 : World} {F : Fr} {m : Mem} {Rs : List Res} {Q : Exit → Act → World → Prop} {K : Act → World → Prop}
theorem At.c1 {d : Nat} {ops : Array Oper} {rest : List Oper} {g : FuncId} {xs : List Operand} {ts : Array TypeId} {ty : TypeId} {pos : String} {aft : Array Edge} {vs : List Value} {A Rest : List Res} {R : Value → Mem → List Res → Prop}
    (hx : evs F xs = some vs) (hd : Nat.blt d n = true) (hc : Ct P g vs.toArray m A R) (hA : Take A Rs Rest) (hg : goFn P g = true)
    (h : ∀ v m' B, m.le m' → R v m' B → At n w0 ((d, v) :: F) m' (B ++ Rest) (wpList P ops Q rest)) :
    At n w0 F m Rs (wpList P ops Q (⟨some d, .call ⟨.value (.func g), xs.toArray, ts⟩, ty, pos, aft, none⟩ :: rest)) := At.callt1 hg hx hd hc hA h
theorem At.c0 {ops : Array Oper} {rest : List Oper} {g : FuncId} {xs : List Operand} {ts : Array TypeId} {ty : TypeId} {pos : String} {aft : Array Edge} {vs : List Value} {A Rest : List Res} {R : Value → Mem → List Res → Prop}
    (hx : evs F xs = some vs) (hd : n = n) (hc : Ct P g vs.toArray m A R) (hA : Take A Rs Rest) (hg : goFn P g = true)
    (h : ∀ v m' B, m.le m' → R v m' B → At n w0 F m' (B ++ Rest) (wpList P ops Q rest)) :
    At n w0 F m Rs (wpList P ops Q (⟨none, .call ⟨.value (.func g), xs.toArray, ts⟩, ty, pos, aft, none⟩ :: rest)) := At.callt0 hg hx hc hA h
theorem At.cr {ops : Array Oper} {rest : List Oper} {d : Nat} {g : FuncId} {xs : List Operand} {ts : Array TypeId} {ty : TypeId} {pos : String} {aft : Array Edge} {vs : List Value} {V : Value} {A Y : List Res}
    (hx : evs F xs = some vs) (hd : Nat.blt d n = true) (hc : ∀ m', m.le m' → Rd P g vs.toArray m' A V) (hA : Take A Rs Y) (hg : goFn P g = true)
    (h : At n w0 ((d, V) :: F) m Rs (wpList P ops Q rest)) : At n w0 F m Rs (wpList P ops Q (⟨some d, .call ⟨.value (.func g), xs.toArray, ts⟩, ty, pos, aft, none⟩ :: rest)) := At.callr hg hx hd hc hA h
theorem AtQ.cr {ops : Array Oper} {rest : List Oper} {Qq : Act → Prop} {d : Nat} {g : FuncId} {xs : List Operand} {ts : Array TypeId} {ty : TypeId} {pos : String} {aft : Array Edge} {vs : List Value} {V : Value} {A Y : List Res}
    (hx : evs F xs = some vs) (hd : Nat.blt d n = true) (hc : ∀ m', m.le m' → Rd P g vs.toArray m' A V) (hA : Take A Rs Y) (hg : goFn P g = true)
    (h : AtQ P n ((d, V) :: F) (HW w0 m Rs) ops Qq rest) : AtQ P n F (HW w0 m Rs) ops Qq (⟨some d, .call ⟨.value (.func g), xs.toArray, ts⟩, ty, pos, aft, none⟩ :: rest) := AtQ.callr hg hx hd hc hA h
theorem AtM1.cr {X : List Res} {l : List Oper} {f : Nat} {s : Array Bool} {p : Plan} {d : Nat} {g : FuncId} {xs : List Operand} {ts : Array TypeId} {ty : TypeId} {pos : String} {aft : Array Edge} {vs : List Value} {V : Value} {A Y : List Res}
    (hx : evs F xs = some vs) (hd : Nat.blt d n = true) (hc : ∀ m', m.le m' → Rd P g vs.toArray m' A V) (hA : Take A Rs Y) (hg : goFn P g = true)
    (h : AtM P n w0 ((d, V) :: F) m Rs X K l f s p) : AtM1 P n w0 F m Rs X K l f s p ⟨some d, .call ⟨.value (.func g), xs.toArray, ts⟩, ty, pos, aft, none⟩ := AtM1.callr hg hx hd hc hA h
theorem At.apW {α : Type} [Inhabited α] {f : α → List Value} {sz : Nat} {E : TypeId} {p : Option Addr} {c : Nat} {l : List α} {Rs' : List Res} {ops : Array Oper} {rest : List Oper} {d : Nat} {x y : Operand} {t tx e2 : TypeId} {ty : TypeId} {pos : String} {aft : Array Edge} {ln : Nat} {p2 : Option Addr} {ln2 c2 : Nat} {l2 : List α}
    (hx : ev F x = some (.slice p ln c)) (hy : ev F y = some (.slice p2 ln2 c2)) (hp : Pick Rs (.own f sz E p c l) Rs') (hf : Fl f sz) (h2 : Rdb (HW w0 m Rs) f sz p2 c2 l2 ∧ ln2 = l2.length) (ht : P.underlying t = some (.slice E)) (ht2 : P.underlying tx = some (.slice e2)) (he : elemB P E sz = true)
    (hln : ln = l.length) (hsm : l.length + l2.length ≤ 34359738368) (hd : Nat.blt d n = true)
    (h : ∀ p' c', At n w0 ((d, .slice p' (l ++ l2).length c') :: F) m (.own f sz E p' c' (l ++ l2) :: Rs') (wpList P ops Q rest)) :
    At n w0 F m Rs (wpList P ops Q (⟨some d, .call ⟨.builtin .append, #[x, y], #[t, tx]⟩, ty, pos, aft, none⟩ :: rest)) := At.appendW hx hy hp hf h2.1 h2.2 ht ht2 he hln hsm hd h
theorem zrdl {α : Type} [Inhabited α] {f : α → List Value} {sz : Nat} {C : World → Prop} {p2 : Option Addr} {c2 ln2 : Nat} {l2 : List α} (h : Rdb C f sz p2 c2 l2 ∧ ln2 = l2.length := by first | exact ⟨own_rdb inferInstance (by repeat constructor), zlq⟩ | exact ⟨Sl.rdb zsla, zlq⟩ | exact ⟨Rdb.sub (own_rdb inferInstance (by repeat constructor)) _ _ zom zom, zlq⟩ | exact ⟨Rdb.sub (Sl.rdb zsla) _ _ zom zom, zlq⟩ | exact ⟨Rdb.subl (own_rdb inferInstance (by repeat constructor)) _ zom, zlq⟩ | exact ⟨Rdb.subl (Sl.rdb zsla) _ zom, zlq⟩ | exact ⟨Rdb.subh (own_rdb inferInstance (by repeat constructor)) _ zom, zlq⟩ | exact ⟨Rdb.subh (Sl.rdb zsla) _ zom, zlq⟩ | fail) : Rdb C f sz p2 c2 l2 ∧ ln2 = l2.length := h
end
end Go.J
set_option maxHeartbeats 4000000
namespace Go.Proofs.YtkoijdmlehkhbaaGreatDoor
open Go Go.J
attribute [local irreducible] At AtQ AtM AtM1 PR Ct Pu Rd Res.blk Res.own Res.ex RVs RV
namespace Wide
abbrev wd (x : Nat) : List Value := [.int .u64 ((x / 18446744073709551616 : Nat) : Int), .int .u64 ((x % 18446744073709551616 : Nat) : Int)]
abbrev wv (x : Nat) : Value := .agg (wd x).toArray
instance : Fl wd 2 := ⟨fun _ => rfl, fun x v h => by simp at h; rcases h with rfl | rfl <;> rfl, by decide⟩
def sV (x : Nat) : Nat := if x < 340282366920938463463374607431768211456 then x else 0
def sE (x : Nat) : Int := if x < 340282366920938463463374607431768211456 then 0 else 1
theorem wd_mk {x : Nat} {h l : Int} (hh : h = ((x / 18446744073709551616 : Nat) : Int)) (hl : l = ((x % 18446744073709551616 : Nat) : Int)) : Value.agg #[.int .u64 h, .int .u64 l] = wv x := by subst hh hl; rfl
theorem add64 {n : Nat} {F : Fr} {C : World → Prop} {x y z : Operand} {ts : Array TypeId} {a b c : Int} (hx : ev F x = some (.int .u64 a)) (hy : ev F y = some (.int .u64 b)) (hz : ev F z = some (.int .u64 c)) (h0 : 0 ≤ a) (h1 : 0 ≤ b) (h2 : 0 ≤ c) (h3 : c ≤ 1) :
    PR Tryz.prog n F C (.call ⟨.value (.func 142), #[x, y, z], ts⟩) (.tuple #[.int .u64 ((a + b + c) % 18446744073709551616), .int .u64 ((a + b + c) / 18446744073709551616)]) :=
  pr_extern (xs := [x, y, z]) (vs := [.int .u64 a, .int .u64 b, .int .u64 c]) (e := add64Entry) Tryz.func142 (by kernel_rfl) (by kernel_rfl) (by kernel_rfl) (by kernel_rfl) (by simp [evs, hx, hy, hz]) fun w => run_add64 a b c h0 h1 h2 h3 w
theorem of_ (x : Nat) (h : x < 18446744073709551616) : Pu Tryz.prog 75 #[.int .u64 (x : Int)] (wv x) := Pu.intro fun m => by
  refine Ct.enterV (by rfl) Tryz.func75 rfl Tryz.ntmps75 rfl (fun w0 Rest => ?_)
  (repeat' (first | refine zss ?_ | ((first | (with_reducible first | apply At.val | apply AtQ.val)); (exact zprA); exact rfl) | refine zs0 ?_ | ((with_reducible apply At.alloc (d := 2)); exact rfl; exact rfl; intro b2) | (refine zsp ?_ ?_ <;> (intro hc; (try simp only [zhcs, reduceCtorEq] at hc); (try (exfalso; first | contradiction | omega | exact absurd rfl hc | exact absurd (by decide) hc))))))
  all_goals ((with_reducible apply At.retV (B := [])); exact rfl; (repeat' (first | exact RVs.nil | (with_reducible apply RVs.cons) | exact rv_tmp (by rfl) | exact rv_cellN (by rfl) (by repeat constructor) (by rfl) (by rfl) (by rfl) | exact rv_cell1 (by rfl) (by repeat constructor) (by rfl) (by rfl) | exact rv_cellA (by rfl) (by repeat constructor) (by rfl) (by rfl) zlq)); exact zml; exact zkp; exact ⟨wd_mk (by omega) (by omega), rfl, rfl⟩)
theorem ofI (x : Int) (h0 : 0 ≤ x) (h : x < 18446744073709551616) : Pu Tryz.prog 75 #[.int .u64 x] (wv x.toNat) := by
  have := of_ x.toNat (by omega)
  rwa [Int.toNat_of_nonneg h0] at this
theorem sure0 (a b o : Int) (ho : o = 0) : Pu Tryz.prog 143 #[.agg #[.int .u64 a, .int .u64 b], .int .u64 o] (.tuple #[.agg #[.int .u64 a, .int .u64 b], .int .i64 0]) := Pu.intro fun m => by
  refine Ct.enterV (by rfl) Tryz.func143 rfl Tryz.ntmps143 rfl (fun w0 Rest => ?_)
  (repeat' (first | refine zss ?_ | ((first | (with_reducible first | apply At.val | apply AtQ.val)); (exact zprA); exact rfl) | refine zs0 ?_ | ((with_reducible apply At.box (d := 2)); exact rfl; exact rfl; exact rfl; intro b2) | ((with_reducible apply At.alloc (d := 4)); exact rfl; exact rfl; intro b4) | (refine zsp ?_ ?_ <;> (intro hc; (try simp only [zhcs, reduceCtorEq] at hc); (try (exfalso; first | omega | contradiction | omega | exact absurd rfl hc | exact absurd (by decide) hc))))))
  all_goals ((with_reducible apply At.retV (B := [])); exact rfl; (repeat' (first | exact RVs.nil | (with_reducible apply RVs.cons) | exact rv_tmp (by rfl) | exact rv_cellN (by rfl) (by repeat constructor) (by rfl) (by rfl) (by rfl) | exact rv_cell1 (by rfl) (by repeat constructor) (by rfl) (by rfl) | exact rv_cellA (by rfl) (by repeat constructor) (by rfl) (by rfl) zlq)); exact zml; exact zkp; exact ⟨rfl, rfl, rfl⟩)
theorem sure1 (a b o : Int) (ho : o ≠ 0) : Pu Tryz.prog 143 #[.agg #[.int .u64 a, .int .u64 b], .int .u64 o] (.tuple #[wv 0, .int .i64 1]) := Pu.intro fun m => by
  refine Ct.enterV (by rfl) Tryz.func143 rfl Tryz.ntmps143 rfl (fun w0 Rest => ?_)
  (repeat' (first | refine zss ?_ | ((first | (with_reducible first | apply At.val | apply AtQ.val)); (exact zprA); exact rfl) | refine zs0 ?_ | ((with_reducible apply At.box (d := 2)); exact rfl; exact rfl; exact rfl; intro b2) | ((with_reducible apply At.alloc (d := 4)); exact rfl; exact rfl; intro b4) | (refine zsp ?_ ?_ <;> (intro hc; (try simp only [zhcs, reduceCtorEq] at hc); (try (exfalso; first | omega | contradiction | omega | exact absurd rfl hc | exact absurd (by decide) hc))))))
  all_goals ((with_reducible apply At.retV (B := [])); exact rfl; (repeat' (first | exact RVs.nil | (with_reducible apply RVs.cons) | exact rv_tmp (by rfl) | exact rv_cellN (by rfl) (by repeat constructor) (by rfl) (by rfl) (by rfl) | exact rv_cell1 (by rfl) (by repeat constructor) (by rfl) (by rfl) | exact rv_cellA (by rfl) (by repeat constructor) (by rfl) (by rfl) zlq)); exact zml; exact zkp; exact ⟨rfl, rfl, rfl⟩)
theorem add (x y : Nat) (hx : x < 340282366920938463463374607431768211456) (hy : y < 340282366920938463463374607431768211456) : Pu Tryz.prog 197 #[wv x, wv y] (.tuple #[wv (sV (x + y)), .int .i64 (sE (x + y))]) := Pu.intro fun m => by
  by_cases h : x + y < 340282366920938463463374607431768211456
  · have e1 : sV (x + y) = x + y := if_pos h
    have e2 : sE (x + y) = 0 := if_pos h
    rw [e1, e2]
    refine Ct.enterV (by rfl) Tryz.func197 rfl Tryz.ntmps197 rfl (fun w0 Rest => ?_)
    (repeat' (first | refine zss ?_ | ((first | (with_reducible first | apply At.val | apply AtQ.val)); (first | exact add64 (by rfl) (by rfl) (by rfl) (by omega) (by omega) (by omega) (by omega) | exact zprA); exact rfl) | refine zs0 ?_ | ((with_reducible first | apply AtM1.callp | apply AtQ.callp | apply At.callp); kernel_rfl; exact rfl; exact rfl; exact sure0 _ _ _ (by omega)) | ((with_reducible apply At.box (d := 2)); exact rfl; exact rfl; exact rfl; intro b2) | ((with_reducible apply At.box (d := 3)); exact rfl; exact rfl; exact rfl; intro b3) | ((with_reducible apply At.alloc (d := 4)); exact rfl; exact rfl; intro b4) | (refine zsp ?_ ?_ <;> (intro hc; (try simp only [zhcs, reduceCtorEq] at hc); (try (exfalso; first | contradiction | omega | exact absurd rfl hc | exact absurd (by decide) hc))))))
    all_goals ((with_reducible apply At.retV (B := [])); exact rfl; (repeat' (first | exact RVs.nil | (with_reducible apply RVs.cons) | exact rv_tmp (by rfl) | exact rv_cellN (by rfl) (by repeat constructor) (by rfl) (by rfl) (by rfl) | exact rv_cell1 (by rfl) (by repeat constructor) (by rfl) (by rfl) | exact rv_cellA (by rfl) (by repeat constructor) (by rfl) (by rfl) zlq)); exact zml; exact zkp; exact ⟨congrArg (fun v => Value.tuple #[v, .int .i64 0]) (wd_mk (by omega) (by omega)), rfl, rfl⟩)
  · have e1 : sV (x + y) = 0 := if_neg h
    have e2 : sE (x + y) = 1 := if_neg h
    rw [e1, e2]
    refine Ct.enterV (by rfl) Tryz.func197 rfl Tryz.ntmps197 rfl (fun w0 Rest => ?_)
    (repeat' (first | refine zss ?_ | ((first | (with_reducible first | apply At.val | apply AtQ.val)); (first | exact add64 (by rfl) (by rfl) (by rfl) (by omega) (by omega) (by omega) (by omega) | exact zprA); exact rfl) | refine zs0 ?_ | ((with_reducible first | apply AtM1.callp | apply AtQ.callp | apply At.callp); kernel_rfl; exact rfl; exact rfl; exact sure1 _ _ _ (by omega)) | ((with_reducible apply At.box (d := 2)); exact rfl; exact rfl; exact rfl; intro b2) | ((with_reducible apply At.box (d := 3)); exact rfl; exact rfl; exact rfl; intro b3) | ((with_reducible apply At.alloc (d := 4)); exact rfl; exact rfl; intro b4) | (refine zsp ?_ ?_ <;> (intro hc; (try simp only [zhcs, reduceCtorEq] at hc); (try (exfalso; first | contradiction | omega | exact absurd rfl hc | exact absurd (by decide) hc))))))
    all_goals ((with_reducible apply At.retV (B := [])); exact rfl; (repeat' (first | exact RVs.nil | (with_reducible apply RVs.cons) | exact rv_tmp (by rfl) | exact rv_cellN (by rfl) (by repeat constructor) (by rfl) (by rfl) (by rfl) | exact rv_cell1 (by rfl) (by repeat constructor) (by rfl) (by rfl) | exact rv_cellA (by rfl) (by repeat constructor) (by rfl) (by rfl) zlq)); exact zml; exact zkp; exact ⟨rfl, rfl, rfl⟩)
theorem less (x y : Nat) : Pu Tryz.prog 44 #[wv x, wv y] (.bool (decide (x < y))) := Pu.intro fun m => by
  by_cases h : x < y
  · rw [decide_eq_true h]
    refine Ct.enterV (by rfl) Tryz.func44 rfl Tryz.ntmps44 rfl (fun w0 Rest => ?_)
    (repeat' (first | refine zss ?_ | ((first | (with_reducible first | apply At.val | apply AtQ.val)); (exact zprA); exact rfl) | refine zs0 ?_ | ((with_reducible apply At.box (d := 2)); exact rfl; exact rfl; exact rfl; intro b2) | ((with_reducible apply At.box (d := 3)); exact rfl; exact rfl; exact rfl; intro b3) | (refine zsp ?_ ?_ <;> (intro hc; (try simp only [zhcs, reduceCtorEq] at hc); (try (exfalso; first | omega | contradiction | omega | exact absurd rfl hc | exact absurd (by decide) hc))))))
    all_goals ((with_reducible apply At.retB1 (B := [])); exact rfl; exact rfl; exact zml; exact zkp; exact ⟨by first | rfl | exact congrArg Value.bool (decide_eq_true (by omega)) | exact congrArg Value.bool (decide_eq_false (by omega)), rfl, rfl⟩)
  · rw [decide_eq_false h]
    refine Ct.enterV (by rfl) Tryz.func44 rfl Tryz.ntmps44 rfl (fun w0 Rest => ?_)
    (repeat' (first | refine zss ?_ | ((first | (with_reducible first | apply At.val | apply AtQ.val)); (exact zprA); exact rfl) | refine zs0 ?_ | ((with_reducible apply At.box (d := 2)); exact rfl; exact rfl; exact rfl; intro b2) | ((with_reducible apply At.box (d := 3)); exact rfl; exact rfl; exact rfl; intro b3) | (refine zsp ?_ ?_ <;> (intro hc; (try simp only [zhcs, reduceCtorEq] at hc); (try (exfalso; first | omega | contradiction | omega | exact absurd rfl hc | exact absurd (by decide) hc))))))
    all_goals ((with_reducible apply At.retB1 (B := [])); exact rfl; exact rfl; exact zml; exact zkp; exact ⟨by first | rfl | exact congrArg Value.bool (decide_eq_true (by omega)) | exact congrArg Value.bool (decide_eq_false (by omega)), rfl, rfl⟩)
theorem mul64 (x y : Int) (hx0 : 0 ≤ x) (hx : x < 18446744073709551616) (hy0 : 0 ≤ y) (hy : y < 18446744073709551616) : Pu Tryz.prog 88 #[.int .u64 x, .int .u64 y] (.tuple #[.int .u64 (x * y / 18446744073709551616), .int .u64 (x * y % 18446744073709551616)]) := Pu.intro fun m => by
  have key := mul64_arith x y hx0 hx hy0 hy
  refine Ct.enterV (by rfl) Tryz.func88 rfl Tryz.ntmps88 rfl (fun w0 Rest => ?_)
  (repeat' (first | refine zss ?_ | ((first | (with_reducible first | apply At.val | apply AtQ.val)); (first | exact pr_and (by rfl) (by rfl) (and_low32 _ (by omega) (by omega)) | exact pr_mul (by rfl) (by rfl) (IntKind.wrap_u64 _) | exact pr_add (by rfl) (by rfl) (IntKind.wrap_u64 _) | exact zprA); exact rfl) | refine zs0 ?_ | (refine zsp ?_ ?_ <;> (intro hc; (try simp only [zhcs, reduceCtorEq] at hc); (try (exfalso; first | contradiction | omega | exact absurd rfl hc | exact absurd (by decide) hc))))))
  all_goals ((with_reducible apply At.retB2 (B := [])); (iterate 3 exact rfl); exact zml; exact zkp; exact ⟨by rw [← key], rfl, rfl⟩)
theorem or_zero {a b : Int} (ha : a = 0) (hb : b = 0) : bits .or .u64 a b = 0 := by subst ha hb; rfl
theorem or_ne {a b : Int} (ha : 0 ≤ a ∧ a < 18446744073709551616) (hb : 0 ≤ b ∧ b < 18446744073709551616) (h : a ≠ 0 ∨ b ≠ 0) : bits .or .u64 a b ≠ 0 := by
  rw [u64_or a b ha.1 ha.2 hb.1 hb.2]
  intro e
  have e0 : a.toNat ||| b.toNat = 0 := by omega
  have e1 : a.toNat = 0 := by
    have := Nat.left_le_or (n := a.toNat) (m := b.toNat)
    omega
  have e2 : b.toNat = 0 := by
    have := Nat.right_le_or (n := a.toNat) (m := b.toNat)
    omega
  omega
theorem times (x k : Nat) (hx : x < 340282366920938463463374607431768211456) (hk : k < 18446744073709551616) : Pu Tryz.prog 90 #[wv x, .int .u64 (k : Int)] (.tuple #[wv (sV (x * k)), .int .i64 (sE (x * k))]) := Pu.intro fun m => by
  obtain ⟨p, hp⟩ : ∃ p : Nat, p = x % 18446744073709551616 * k := ⟨_, rfl⟩
  obtain ⟨q, hq⟩ : ∃ q : Nat, q = x / 18446744073709551616 * k := ⟨_, rfl⟩
  have hxk : x * k = q * 18446744073709551616 + p := by
    rw [hp, hq, Nat.mul_right_comm, ← Nat.add_mul, Nat.mul_comm (x / 18446744073709551616), Nat.div_add_mod]
  have m1 := mul64 ((x % 18446744073709551616 : Nat) : Int) (k : Int) (by omega) (by omega) (by omega) (by omega)
  have m2 := mul64 ((x / 18446744073709551616 : Nat) : Int) (k : Int) (by omega) (by omega) (by omega) (by omega)
  rw [← Int.natCast_mul, ← hp] at m1
  rw [← Int.natCast_mul, ← hq] at m2
  have hpb : p ≤ 18446744073709551615 * 18446744073709551615 := by rw [hp]; exact Nat.mul_le_mul (by omega) (by omega)
  have hqb : q ≤ 18446744073709551615 * 18446744073709551615 := by rw [hq]; exact Nat.mul_le_mul (by omega) (by omega)
  rw [hxk]
  clear hp hq hxk
  by_cases h : q * 18446744073709551616 + p < 340282366920938463463374607431768211456
  · have e1 : sV (q * 18446744073709551616 + p) = q * 18446744073709551616 + p := if_pos h
    have e2 : sE (q * 18446744073709551616 + p) = 0 := if_pos h
    rw [e1, e2]
    refine Ct.enterV (by rfl) Tryz.func90 rfl Tryz.ntmps90 rfl (fun w0 Rest => ?_)
    (repeat' (first | refine zss ?_ | ((first | (with_reducible first | apply At.val | apply AtQ.val)); (first | exact add64 (by rfl) (by rfl) (by rfl) (by omega) (by omega) (by omega) (by omega) | exact pr_or (by rfl) (by rfl) (or_zero (by omega) (by omega)) | exact zprA); exact rfl) | refine zs0 ?_ | ((with_reducible first | apply AtM1.callp | apply AtQ.callp | apply At.callp); kernel_rfl; exact rfl; exact rfl; exact m1) | ((with_reducible first | apply AtM1.callp | apply AtQ.callp | apply At.callp); kernel_rfl; exact rfl; exact rfl; exact m2) | ((with_reducible first | apply AtM1.callp | apply AtQ.callp | apply At.callp); kernel_rfl; exact rfl; exact rfl; exact sure0 _ _ _ (by omega)) | ((with_reducible apply At.box (d := 2)); exact rfl; exact rfl; exact rfl; intro b2) | ((with_reducible apply At.alloc (d := 4)); exact rfl; exact rfl; intro b4) | (refine zsp ?_ ?_ <;> (intro hc; (try simp only [zhcs, reduceCtorEq] at hc); (try (exfalso; first | contradiction | omega | exact absurd rfl hc | exact absurd (by decide) hc))))))
    all_goals ((with_reducible apply At.retV (B := [])); exact rfl; (repeat' (first | exact RVs.nil | (with_reducible apply RVs.cons) | exact rv_tmp (by rfl) | exact rv_cellN (by rfl) (by repeat constructor) (by rfl) (by rfl) (by rfl) | exact rv_cell1 (by rfl) (by repeat constructor) (by rfl) (by rfl) | exact rv_cellA (by rfl) (by repeat constructor) (by rfl) (by rfl) zlq)); exact zml; exact zkp; exact ⟨congrArg (fun v => Value.tuple #[v, .int .i64 0]) (wd_mk (by omega) (by omega)), rfl, rfl⟩)
  · have e1 : sV (q * 18446744073709551616 + p) = 0 := if_neg h
    have e2 : sE (q * 18446744073709551616 + p) = 1 := if_neg h
    rw [e1, e2]
    refine Ct.enterV (by rfl) Tryz.func90 rfl Tryz.ntmps90 rfl (fun w0 Rest => ?_)
    (repeat' (first | refine zss ?_ | ((first | (with_reducible first | apply At.val | apply AtQ.val)); (first | exact add64 (by rfl) (by rfl) (by rfl) (by omega) (by omega) (by omega) (by omega) | exact zprA); exact rfl) | refine zs0 ?_ | ((with_reducible first | apply AtM1.callp | apply AtQ.callp | apply At.callp); kernel_rfl; exact rfl; exact rfl; exact m1) | ((with_reducible first | apply AtM1.callp | apply AtQ.callp | apply At.callp); kernel_rfl; exact rfl; exact rfl; exact m2) | ((with_reducible first | apply AtM1.callp | apply AtQ.callp | apply At.callp); kernel_rfl; exact rfl; exact rfl; exact sure1 _ _ _ (or_ne (by omega) (by omega) (by omega))) | ((with_reducible apply At.box (d := 2)); exact rfl; exact rfl; exact rfl; intro b2) | ((with_reducible apply At.alloc (d := 4)); exact rfl; exact rfl; intro b4) | (refine zsp ?_ ?_ <;> (intro hc; (try simp only [zhcs, reduceCtorEq] at hc); (try (exfalso; first | contradiction | omega | exact absurd rfl hc | exact absurd (by decide) hc))))))
    all_goals ((with_reducible apply At.retV (B := [])); exact rfl; (repeat' (first | exact RVs.nil | (with_reducible apply RVs.cons) | exact rv_tmp (by rfl) | exact rv_cellN (by rfl) (by repeat constructor) (by rfl) (by rfl) (by rfl) | exact rv_cell1 (by rfl) (by repeat constructor) (by rfl) (by rfl) | exact rv_cellA (by rfl) (by repeat constructor) (by rfl) (by rfl) zlq)); exact zml; exact zkp; exact ⟨rfl, rfl, rfl⟩)
structure SS where
  i : Nat
  a : Nat
theorem sum_take {l : List Nat} {i : Nat} (h : i < l.length) : (l.take (i + 1)).sum = (l.take i).sum + l[i]! := by
  have e : l.take (i + 1) = l.take i ++ [l[i]!] := by rw [List.take_add_one, getElem!_pos l i h]; simp [h]
  rw [e, List.sum_append]; simp
theorem sum_le {l : List Nat} (i : Nat) : (l.take i).sum ≤ l.sum := by
  have := congrArg List.sum (List.take_append_drop i l)
  rw [List.sum_append] at this
  omega
theorem sum_ {m : Mem} (p : Option Addr) (c : Nat) (l : List Nat) (hl : l.length ≤ 1000000) (hb : ∀ x ∈ l, x < 340282366920938463463374607431768211456) (sl0 : Sl m wd 2 p c l) :
    Ct Tryz.prog 154 #[.slice p l.length c] m [] (fun v m' B => v = .tuple #[wv (sV l.sum), .int .i64 (sE l.sum)] ∧ m = m' ∧ B = []) := by
  refine Ct.enterV (by rfl) Tryz.func154 rfl Tryz.ntmps154 rfl (fun w0 Rest => ?_)
  (repeat' (first | refine zss ?_ | ((first | (with_reducible first | apply At.val | apply AtQ.val)); (exact zprA); exact rfl) | refine zsM ?_ | ((with_reducible apply At.alloc (d := 2)); exact rfl; exact rfl; intro b2) | ((with_reducible apply At.alloc (d := 4)); exact rfl; exact rfl; intro b4) | ((with_reducible apply At.alloc (d := 6)); exact rfl; exact rfl; intro b6) | ((with_reducible apply At.alloc (d := 7)); exact rfl; exact rfl; intro b7) | (refine zsp ?_ ?_ <;> (intro hc; (try simp only [zhcs, reduceCtorEq] at hc); (try (exfalso; first | contradiction | omega | exact absurd rfl hc | exact absurd (by decide) hc))))))
  (refine At.loopk (σ := SS) [2, 4, 9, 10] (fun s F0 => (11, .int .i64 (s.i : Int)) :: F0) (fun s => m) (fun s => .blk b4 41 (wd s.a) :: .blk b2 41 (wd 0) :: Rest) (fun s => s.i ≤ l.length ∧ s.a = (l.take s.i).sum ∧ s.a < 340282366920938463463374607431768211456) (fun s => l.length - s.i) ⟨0, 0⟩ (by rfl) ?_ zsubs zml zente ?_)
  · exact ⟨Nat.zero_le _, rfl, by decide⟩
  intro s ⟨hi, ha, hlt⟩
  by_cases h : s.i < l.length
  · have hx := hb (l[s.i]!) (by rw [getElem!_pos l s.i h]; exact List.getElem_mem h)
    have hst := sum_take h
    have hle := sum_le (l := l) (s.i + 1)
    by_cases ho : s.a + l[s.i]! < 340282366920938463463374607431768211456
    · have ad := add s.a (l[s.i]!) hlt hx
      rw [show sV (s.a + l[s.i]!) = s.a + l[s.i]! from if_pos ho, show sE (s.a + l[s.i]!) = 0 from if_pos ho] at ad
      (repeat' (first | refine zss ?_ | ((first | (with_reducible first | apply At.val | apply AtQ.val)); (exact zprA); exact rfl) | refine zsM ?_ | ((with_reducible first | apply AtM1.callp | apply AtQ.callp | apply At.callp); kernel_rfl; exact rfl; exact rfl; exact ad) | ((with_reducible apply At.alloc (d := 2)); exact rfl; exact rfl; intro b2) | ((with_reducible apply At.alloc (d := 4)); exact rfl; exact rfl; intro b4) | ((with_reducible apply At.alloc (d := 6)); exact rfl; exact rfl; intro b6) | ((with_reducible apply At.alloc (d := 7)); exact rfl; exact rfl; intro b7) | (refine zsp ?_ ?_ <;> (intro hc; (try simp only [zhcs, reduceCtorEq] at hc); (try (exfalso; first | omega | contradiction | omega | exact absurd rfl hc | exact absurd (by decide) hc))))))
      all_goals ((with_reducible refine At.reachk (⟨s.i + 1, s.a + l[s.i]!⟩) ?_ ?_ ?_ ?_); exact zsubs; exact zml; exact zente; exact ⟨⟨h, by show _ = (l.take (s.i + 1)).sum; rw [hst, ha], ho⟩, by show l.length - (s.i + 1) < l.length - s.i; omega⟩)
    · have ad := add s.a (l[s.i]!) hlt hx
      rw [show sV (s.a + l[s.i]!) = 0 from if_neg ho, show sE (s.a + l[s.i]!) = 1 from if_neg ho] at ad
      rw [show sV l.sum = 0 from if_neg (by omega), show sE l.sum = 1 from if_neg (by omega)]
      (repeat' (first | refine zss ?_ | ((first | (with_reducible first | apply At.val | apply AtQ.val)); (exact zprA); exact rfl) | refine zsM ?_ | ((with_reducible first | apply AtM1.callp | apply AtQ.callp | apply At.callp); kernel_rfl; exact rfl; exact rfl; exact ad) | ((with_reducible apply At.alloc (d := 2)); exact rfl; exact rfl; intro b2) | ((with_reducible apply At.alloc (d := 4)); exact rfl; exact rfl; intro b4) | ((with_reducible apply At.alloc (d := 6)); exact rfl; exact rfl; intro b6) | ((with_reducible apply At.alloc (d := 7)); exact rfl; exact rfl; intro b7) | (refine zsp ?_ ?_ <;> (intro hc; (try simp only [zhcs, reduceCtorEq] at hc); (try (exfalso; first | omega | contradiction | omega | exact absurd rfl hc | exact absurd (by decide) hc))))))
      all_goals ((with_reducible apply At.retV (B := [])); exact rfl; (repeat' (first | exact RVs.nil | (with_reducible apply RVs.cons) | exact rv_tmp (by rfl) | exact rv_cellN (by rfl) (by repeat constructor) (by rfl) (by rfl) (by rfl) | exact rv_cell1 (by rfl) (by repeat constructor) (by rfl) (by rfl) | exact rv_cellA (by rfl) (by repeat constructor) (by rfl) (by rfl) zlq)); exact zml; exact zkp; exact ⟨rfl, rfl, rfl⟩)
  · have hall : s.a = l.sum := by rw [ha, List.take_of_length_le (by omega)]
    rw [show sV l.sum = s.a by rw [← hall]; exact if_pos hlt, show sE l.sum = 0 by rw [← hall]; exact if_pos hlt]
    (repeat' (first | refine zss ?_ | ((first | (with_reducible first | apply At.val | apply AtQ.val)); (exact zprA); exact rfl) | refine zsM ?_ | ((with_reducible apply At.alloc (d := 2)); exact rfl; exact rfl; intro b2) | ((with_reducible apply At.alloc (d := 4)); exact rfl; exact rfl; intro b4) | ((with_reducible apply At.alloc (d := 6)); exact rfl; exact rfl; intro b6) | ((with_reducible apply At.alloc (d := 7)); exact rfl; exact rfl; intro b7) | (refine zsp ?_ ?_ <;> (intro hc; (try simp only [zhcs, reduceCtorEq] at hc); (try (exfalso; first | omega | contradiction | omega | exact absurd rfl hc | exact absurd (by decide) hc))))))
    all_goals ((with_reducible apply At.retV (B := [])); exact rfl; (repeat' (first | exact RVs.nil | (with_reducible apply RVs.cons) | exact rv_tmp (by rfl) | exact rv_cellN (by rfl) (by repeat constructor) (by rfl) (by rfl) (by rfl) | exact rv_cell1 (by rfl) (by repeat constructor) (by rfl) (by rfl) | exact rv_cellA (by rfl) (by repeat constructor) (by rfl) (by rfl) zlq)); exact zml; exact zkp; exact ⟨rfl, rfl, rfl⟩)
end Wide
end Go.Proofs.YtkoijdmlehkhbaaGreatDoor
namespace Go.Proofs.YtkoijdmlehkhbaaGreatDoor
open Go Go.J
attribute [local irreducible] At AtQ AtM AtM1 PR Ct Pu Rd Res.blk Res.own Res.ex RVs RV
namespace Wide
structure AS where
  (i : Nat) (c : Nat)
end Wide
end Go.Proofs.YtkoijdmlehkhbaaGreatDoor
namespace Go.Proofs.YtkoijdmlehkhbaaGreatDoor
open Go Go.J
attribute [local irreducible] At AtQ AtM AtM1 PR Ct Pu Rd Res.blk Res.own Res.ex RVs RV
structure Ev where
  (T : Int) (V : Nat) (C : Int) (S : Bool)
namespace Ev
open Wide
abbrev cells (e : Ev) : List Value := [.int .i64 e.T, .int .u64 (e.V : Int), .int .i64 e.C, .bool e.S]
abbrev v (e : Ev) : Value := .agg (cells e).toArray
instance : Fl cells 4 := ⟨fun _ => rfl, fun x v h => by simp at h; rcases h with rfl | rfl | rfl | rfl <;> rfl, by decide⟩
def ok (e : Ev) : Prop := 0 ≤ e.T ∧ e.T < 35184372088832 ∧ 0 ≤ e.C ∧ e.C ≤ e.T ∧ (e.S = true → e.V = 0 ∧ e.C = 0)
instance (e : Ev) : Decidable e.ok := by unfold ok; infer_instance
abbrev z : Ev := ⟨0, 0, 0, false⟩
instance : Inhabited Ev := ⟨z⟩
def chk (e : Ev) : Int := if e.ok then 0 else 2
theorem ok_t {e : Ev} (hS : e.S = true) : e.ok ↔ (0 ≤ e.T ∧ e.T < 35184372088832 ∧ e.V = 0 ∧ e.C = 0) := by
  unfold ok; rw [hS]; simp only [true_implies]; omega
theorem ok_f {e : Ev} (hS : e.S = false) : e.ok ↔ (0 ≤ e.T ∧ e.T < 35184372088832 ∧ 0 ≤ e.C ∧ e.C ≤ e.T) := by
  unfold ok; rw [hS]; simp
theorem check (e : Ev) : Pu Tryz.prog 52 #[e.v] (.int .i64 e.chk) := Pu.intro fun m => by
  unfold chk
  cases hS : e.S
  all_goals split
  all_goals rename_i h
  all_goals first | rw [ok_t hS] at h | rw [ok_f hS] at h
  all_goals refine Ct.enterV (by rfl) Tryz.func52 rfl Tryz.ntmps52 rfl (fun w0 Rest => ?_)
  all_goals (repeat' (first | refine zss ?_ | ((first | (with_reducible first | apply At.val | apply AtQ.val)); (exact zprA); exact rfl) | refine zs0 ?_ | ((with_reducible apply At.box (d := 1)); exact rfl; exact rfl; exact rfl; intro b1) | (refine zsp ?_ ?_ <;> (intro hc; (try simp only [zhcs, reduceCtorEq] at hc); (try (exfalso; first | (first | omega | exact absurd (hS.symm.trans hc) (by decide) | (simp [hS] at hc; omega)) | contradiction | omega | exact absurd rfl hc | exact absurd (by decide) hc))))))
  all_goals ((with_reducible apply At.retB1 (B := [])); exact rfl; exact rfl; exact zml; exact zkp; exact ⟨rfl, rfl, rfl⟩)
theorem right {m : Mem} (p : Option Addr) (c : Nat) (l : List Ev) (hl : l.length ≤ 1000000) (sl0 : Sl m cells 4 p c l) :
    Rd Tryz.prog 195 #[.slice p l.length c] m [] (.bool (decide (∀ i, i < l.length → (l[i]!).ok))) := by
  unfold Rd
  refine Ct.enterV (by rfl) Tryz.func195 rfl Tryz.ntmps195 rfl (fun w0 Rest => ?_)
  (repeat' (first | refine zss ?_ | ((first | (with_reducible first | apply At.val | apply AtQ.val)); (exact zprA); exact rfl) | refine zsM ?_ | ((with_reducible apply At.alloc (d := 4)); exact rfl; exact rfl; intro b4) | (refine zsp ?_ ?_ <;> (intro hc; (try simp only [zhcs, reduceCtorEq] at hc); (try (exfalso; first | contradiction | omega | exact absurd rfl hc | exact absurd (by decide) hc))))))
  (refine At.loopk (σ := Nat) [5, 6] (fun s F0 => (7, .int .i64 (s : Int)) :: F0) (fun s => m) (fun s => Rest) (fun s => s ≤ l.length ∧ ∀ i, i < s → (l[i]!).ok) (fun s => l.length - s) 0 (by rfl) ?_ zsubs zml zente ?_)
  · exact ⟨Nat.zero_le _, fun i h => absurd h (Nat.not_lt_zero i)⟩
  rintro s ⟨hs, ha⟩
  by_cases h : s < l.length
  · by_cases ho : (l[s]!).ok
    · have hk := check (l[s]!)
      rw [show (l[s]!).chk = 0 from if_pos ho] at hk
      have hn : ∀ i, i < s + 1 → (l[i]!).ok := fun i hi => by
        by_cases e : i = s
        · subst e; exact ho
        · exact ha i (by omega)
      (repeat' (first | refine zss ?_ | ((first | (with_reducible first | apply At.val | apply AtQ.val)); (exact zprA); exact rfl) | refine zsM ?_ | ((with_reducible first | apply AtM1.callp | apply AtQ.callp | apply At.callp); kernel_rfl; exact rfl; exact rfl; exact hk) | ((with_reducible apply At.alloc (d := 4)); exact rfl; exact rfl; intro b4) | (refine zsp ?_ ?_ <;> (intro hc; (try simp only [zhcs, reduceCtorEq] at hc); (try (exfalso; first | omega | contradiction | omega | exact absurd rfl hc | exact absurd (by decide) hc))))))
      all_goals ((with_reducible refine At.reachk ((s + 1)) ?_ ?_ ?_ ?_); exact zsubs; exact zml; exact zente; exact ⟨⟨h, hn⟩, by omega⟩)
    · have hk := check (l[s]!)
      rw [show (l[s]!).chk = 2 from if_neg ho] at hk
      rw [show decide (∀ i, i < l.length → (l[i]!).ok) = false from decide_eq_false fun hh => ho (hh s h)]
      (repeat' (first | refine zss ?_ | ((first | (with_reducible first | apply At.val | apply AtQ.val)); (exact zprA); exact rfl) | refine zsM ?_ | ((with_reducible first | apply AtM1.callp | apply AtQ.callp | apply At.callp); kernel_rfl; exact rfl; exact rfl; exact hk) | ((with_reducible apply At.alloc (d := 4)); exact rfl; exact rfl; intro b4) | (refine zsp ?_ ?_ <;> (intro hc; (try simp only [zhcs, reduceCtorEq] at hc); (try (exfalso; first | omega | contradiction | omega | exact absurd rfl hc | exact absurd (by decide) hc))))))
      all_goals ((with_reducible apply At.retB1 (B := [])); exact rfl; exact rfl; exact zml; exact zkp; exact ⟨rfl, rfl, rfl⟩)
  · rw [show decide (∀ i, i < l.length → (l[i]!).ok) = true from decide_eq_true fun i hi => ha i (by omega)]
    (repeat' (first | refine zss ?_ | ((first | (with_reducible first | apply At.val | apply AtQ.val)); (exact zprA); exact rfl) | refine zsM ?_ | ((with_reducible apply At.alloc (d := 4)); exact rfl; exact rfl; intro b4) | (refine zsp ?_ ?_ <;> (intro hc; (try simp only [zhcs, reduceCtorEq] at hc); (try (exfalso; first | omega | contradiction | omega | exact absurd rfl hc | exact absurd (by decide) hc))))))
    all_goals ((with_reducible apply At.retB1 (B := [])); exact rfl; exact rfl; exact zml; exact zkp; exact ⟨rfl, rfl, rfl⟩)
def two (p c : Ev) : Prop := p.ok ∧ c.ok
instance (p c : Ev) : Decidable (two p c) := by unfold two; infer_instance
theorem right2 {m : Mem} (a b : Ev) (p : Option Addr) (c : Nat) (sl0 : Sl m cells 4 p c [a, b]) (k : Nat) (hk : k = 2) :
    Rd Tryz.prog 195 #[.slice p k c] m [] (.bool (decide (two a b))) := by
  subst hk
  have := right p c [a, b] (by show 2 ≤ _; decide) sl0
  have e : (∀ i, i < [a, b].length → ([a, b][i]!).ok) ↔ two a b := by
    constructor
    · intro h; exact ⟨h 0 (by show 0 < 2; decide), h 1 (by show 1 < 2; decide)⟩
    · rintro ⟨h1, h2⟩ i hi
      rcases i with _ | _ | i
      · exact h1
      · exact h2
      · have : i + 1 + 1 < 2 := hi; omega
  rw [show decide (∀ i, i < [a, b].length → ([a, b][i]!).ok) = decide (two a b) by rw [decide_eq_decide]; exact e] at this
  exact this
def fol (p c : Ev) : Bool := decide (two p c) && decide (p.T < c.T)
theorem follow (p c : Ev) : Pu Tryz.prog 169 #[p.v, c.v] (.bool (fol p c)) := Pu.of_le fun m => by
  by_cases h : two p c
  · refine Ct.enterV (by rfl) Tryz.func169 rfl Tryz.ntmps169 rfl (fun w0 Rest => ?_)
    rw [show fol p c = decide (p.T < c.T) by unfold fol; rw [decide_eq_true h, Bool.true_and]]
    (repeat' (first | refine zss ?_ | ((first | (with_reducible first | apply At.val | apply AtQ.val)); (first | exact pr_move (by rw [decide_eq_true h]; rfl) | exact zprA); exact rfl) | refine zsM ?_ | ((with_reducible apply At.lit cells [p, c]); exact inferInstance; (iterate 7 exact rfl); intro _) | (refine At.own_freeze inferInstance (by repeat constructor) fun m' hm' sl0 => ?_; skip) | ((with_reducible first | apply AtM1.cr | apply AtQ.cr | apply At.cr); exact rfl; exact rfl; exact fun _ hmm => right2 p c _ _ (Sl.mono sl0 hmm) 2 rfl; exact ztk; kernel_rfl) | ((with_reducible apply At.box (d := 2)); exact rfl; exact rfl; exact rfl; intro b2) | ((with_reducible apply At.box (d := 3)); exact rfl; exact rfl; exact rfl; intro b3) | (refine zsp ?_ ?_ <;> (intro hc; (try simp only [zhcs, reduceCtorEq] at hc); (try (exfalso; first | contradiction | omega | exact absurd rfl hc | exact absurd (by decide) hc))))))
    all_goals ((with_reducible apply At.retB1 (B := [])); exact rfl; exact rfl; exact zml; exact zkp; exact ⟨rfl, by assumption, rfl⟩)
  · refine Ct.enterV (by rfl) Tryz.func169 rfl Tryz.ntmps169 rfl (fun w0 Rest => ?_)
    rw [show fol p c = false by unfold fol; rw [decide_eq_false h, Bool.false_and]]
    (repeat' (first | refine zss ?_ | ((first | (with_reducible first | apply At.val | apply AtQ.val)); (first | exact pr_move (by rw [decide_eq_false h]; rfl) | exact zprA); exact rfl) | refine zsM ?_ | ((with_reducible apply At.lit cells [p, c]); exact inferInstance; (iterate 7 exact rfl); intro _) | (refine At.own_freeze inferInstance (by repeat constructor) fun m' hm' sl0 => ?_; skip) | ((with_reducible first | apply AtM1.cr | apply AtQ.cr | apply At.cr); exact rfl; exact rfl; exact fun _ hmm => right2 p c _ _ (Sl.mono sl0 hmm) 2 rfl; exact ztk; kernel_rfl) | ((with_reducible apply At.box (d := 2)); exact rfl; exact rfl; exact rfl; intro b2) | ((with_reducible apply At.box (d := 3)); exact rfl; exact rfl; exact rfl; intro b3) | (refine zsp ?_ ?_ <;> (intro hc; (try simp only [zhcs, reduceCtorEq] at hc); (try (exfalso; first | contradiction | omega | exact absurd rfl hc | exact absurd (by decide) hc))))))
    all_goals ((with_reducible apply At.retB1 (B := [])); exact rfl; exact rfl; exact zml; exact zkp; exact ⟨rfl, by assumption, rfl⟩)
end Ev
structure Cell where
  (n : Int) (F : Ev) (L : Ev) (I : Nat) (R : Int) (G : Int) (X : Int)
namespace Cell
open Wide
abbrev cells (c : Cell) : List Value := [.int .i64 c.n, .int .i64 c.F.T, .int .u64 (c.F.V : Int), .int .i64 c.F.C, .bool c.F.S, .int .i64 c.L.T, .int .u64 (c.L.V : Int), .int .i64 c.L.C, .bool c.L.S,
  .int .u64 ((c.I / 18446744073709551616 : Nat) : Int), .int .u64 ((c.I % 18446744073709551616 : Nat) : Int), .int .i64 c.R, .int .i64 c.G, .int .i64 c.X]
abbrev v (c : Cell) : Value := .agg (cells c).toArray
instance : Fl cells 14 := ⟨fun _ => rfl, fun x v h => by simp at h; rcases h with rfl | rfl | rfl | rfl | rfl | rfl | rfl | rfl | rfl | rfl | rfl | rfl | rfl | rfl <;> rfl, by decide⟩
abbrev mk' (I : Nat) (R G X : Int) : Cell := ⟨0, Ev.z, Ev.z, I, R, G, X⟩
abbrev z : Cell := mk' 0 0 0 0
end Cell
namespace Ev
def btw (p c : Ev) : Cell × Int :=
  if ¬ two p c then (Cell.z, 2) else if c.T ≤ p.T then (Cell.z, 9) else if c.S = true then (Cell.z, 0) else if p.T < c.C then (Cell.mk' c.V 1 0 (c.T - c.C), 0)
  else if p.S = true then (Cell.mk' 0 0 1 0, 0) else if c.V < p.V then (Cell.mk' c.V 1 0 (c.T - p.T), 0) else (Cell.mk' (c.V - p.V) 0 0 (c.T - p.T), 0)
theorem anew (c : Ev) (x : Int) (hV : c.V < 18446744073709551616) : Pu Tryz.prog 196 #[c.v, .int .i64 x] (Cell.mk' c.V 1 0 x).v := Pu.intro fun m => by
  refine Ct.enterV (by rfl) Tryz.func196 rfl Tryz.ntmps196 rfl (fun w0 Rest => ?_)
  (repeat' (first | refine zss ?_ | ((first | (with_reducible first | apply At.val | apply AtQ.val)); (exact zprA); exact rfl) | refine zs0 ?_ | ((with_reducible first | apply AtM1.callp | apply AtQ.callp | apply At.callp); kernel_rfl; exact rfl; exact rfl; exact Wide.of_ c.V hV) | ((with_reducible apply At.box (d := 2)); exact rfl; exact rfl; exact rfl; intro b2) | ((with_reducible apply At.alloc (d := 4)); exact rfl; exact rfl; intro b4) | (refine zsp ?_ ?_ <;> (intro hc; (try simp only [zhcs, reduceCtorEq] at hc); (try (exfalso; first | contradiction | omega | exact absurd rfl hc | exact absurd (by decide) hc))))))
  all_goals ((with_reducible apply At.retV (B := [])); exact rfl; (repeat' (first | exact RVs.nil | (with_reducible apply RVs.cons) | exact rv_tmp (by rfl) | exact rv_cellN (by rfl) (by repeat constructor) (by rfl) (by rfl) (by rfl) | exact rv_cell1 (by rfl) (by repeat constructor) (by rfl) (by rfl) | exact rv_cellA (by rfl) (by repeat constructor) (by rfl) (by rfl) zlq)); exact zml; exact zkp; exact ⟨rfl, rfl, rfl⟩)
theorem between (p c : Ev) (hp : p.V < 18446744073709551616) (hc : c.V < 18446744073709551616) : Pu Tryz.prog 153 #[p.v, c.v] (.tuple #[(btw p c).1.v, .int .i64 (btw p c).2]) := Pu.of_le fun m => by
  have hV := hc
  clear hc
  rcases hb : btw p c with ⟨x, w⟩
  unfold btw at hb
  refine Ct.enterV (by rfl) Tryz.func153 rfl Tryz.ntmps153 rfl (fun w0 Rest => ?_)
  by_cases h : two p c
  · rw [if_neg (not_not_intro h)] at hb
    have ⟨h1, h2⟩ := h
    unfold ok at h1 h2
    obtain ⟨h11, h12, h13, h14, h15⟩ := h1
    obtain ⟨h21, h22, h23, h24, h25⟩ := h2
    repeat' split at hb
    all_goals cases hb
    all_goals (repeat' (first | ((with_reducible apply At.mixed (id := 13) 14 (.q 0 (.q 1 (.q 2 (.q 3 (.q 4 (.q 5 (.q 6 (.q 7 (.q 8 (.q 9 (.q 10 (.q 11 (.x 12 (.q 13 .done))))))))))))))); exact rfl; kernel_rfl; kernel_rfl; kernel_rfl) | refine zsx ?_ | refine zss ?_ | ((with_reducible apply AtM.bo); exact rfl; exact rfl; exact rfl) | ((first | (with_reducible first | apply At.val | apply AtQ.val) | ((with_reducible first | apply AtM1.valz | apply AtM1.val); exact rfl) | ((with_reducible apply AtM1.val); exact rfl)); (first | exact pr_not (by rw [decide_eq_true h]; rfl) | exact zprA); exact rfl) | refine zsM ?_ | refine zxM ?_ | ((with_reducible apply At.lit cells [p, c]); exact inferInstance; (iterate 7 exact rfl); intro _) | (refine At.own_freeze inferInstance (by repeat constructor) fun m' hm' sl0 => ?_; skip) | ((with_reducible first | apply AtM1.cr | apply AtQ.cr | apply At.cr); exact rfl; exact rfl; exact fun _ hmm => right2 p c _ _ (Sl.mono sl0 hmm) 2 rfl; exact ztk; kernel_rfl) | ((with_reducible first | apply AtM1.callp | apply AtQ.callp | apply At.callp); kernel_rfl; exact rfl; exact rfl; exact anew c _ hV) | ((with_reducible first | apply AtM1.callp | apply AtQ.callp | apply At.callp); kernel_rfl; exact rfl; exact rfl; exact Wide.of_ (c.V - p.V) (by omega)) | ((with_reducible first | apply AtM1.callp | apply AtQ.callp | apply At.callp); kernel_rfl; exact rfl; exact rfl; exact Wide.ofI _ (by omega) (by omega)) | ((with_reducible apply At.box (d := 2)); exact rfl; exact rfl; exact rfl; intro b2) | ((with_reducible apply At.box (d := 3)); exact rfl; exact rfl; exact rfl; intro b3) | ((with_reducible apply At.alloc (d := 4)); exact rfl; exact rfl; intro b4) | (refine zsp ?_ ?_ <;> (intro hc; (try simp only [zhcs, reduceCtorEq] at hc); (try (exfalso; first | (first | omega | (exact absurd hc (by assumption)) | (simp_all; done)) | contradiction | omega | exact absurd rfl hc | exact absurd (by decide) hc))))))
    all_goals ((with_reducible apply At.retV (B := [])); exact rfl; (repeat' (first | exact RVs.nil | (with_reducible apply RVs.cons) | exact rv_tmp (by rfl) | exact rv_cellN (by rfl) (by repeat constructor) (by rfl) (by rfl) (by rfl) | exact rv_cell1 (by rfl) (by repeat constructor) (by rfl) (by rfl) | exact rv_cellA (by rfl) (by repeat constructor) (by rfl) (by rfl) zlq)); exact zml; exact zkp; exact ⟨by first | rfl | (rw [Int.toNat_sub]; rfl), by assumption, rfl⟩)
  · rw [if_pos h] at hb
    cases hb
    (repeat' (first | refine zss ?_ | ((first | (with_reducible first | apply At.val | apply AtQ.val)); (first | exact pr_not (by rw [decide_eq_false h]; rfl) | exact zprA); exact rfl) | refine zsM ?_ | ((with_reducible apply At.lit cells [p, c]); exact inferInstance; (iterate 7 exact rfl); intro _) | (refine At.own_freeze inferInstance (by repeat constructor) fun m' hm' sl0 => ?_; skip) | ((with_reducible first | apply AtM1.cr | apply AtQ.cr | apply At.cr); exact rfl; exact rfl; exact fun _ hmm => right2 p c _ _ (Sl.mono sl0 hmm) 2 rfl; exact ztk; kernel_rfl) | ((with_reducible apply At.box (d := 2)); exact rfl; exact rfl; exact rfl; intro b2) | ((with_reducible apply At.box (d := 3)); exact rfl; exact rfl; exact rfl; intro b3) | ((with_reducible apply At.alloc (d := 4)); exact rfl; exact rfl; intro b4) | (refine zsp ?_ ?_ <;> (intro hc; (try simp only [zhcs, reduceCtorEq] at hc); (try (exfalso; first | contradiction | omega | exact absurd rfl hc | exact absurd (by decide) hc))))))
    all_goals ((with_reducible apply At.retV (B := [])); exact rfl; (repeat' (first | exact RVs.nil | (with_reducible apply RVs.cons) | exact rv_tmp (by rfl) | exact rv_cellN (by rfl) (by repeat constructor) (by rfl) (by rfl) (by rfl) | exact rv_cell1 (by rfl) (by repeat constructor) (by rfl) (by rfl) | exact rv_cellA (by rfl) (by repeat constructor) (by rfl) (by rfl) zlq)); exact zml; exact zkp; exact ⟨rfl, by assumption, rfl⟩)
end Ev
end Go.Proofs.YtkoijdmlehkhbaaGreatDoor
namespace Go.Proofs.YtkoijdmlehkhbaaGreatDoor
open Go Go.J
attribute [local irreducible] At AtQ AtM AtM1 PR Ct Pu Rd Res.blk Res.own Res.ex RVs RV
namespace Mrg
open Ev
def aok (l : List Ev) : Prop := ∀ i, i < l.length → (l[i]!).ok
def asc (l : List Ev) : Prop := ∀ i, i < l.length - 1 → (l[i]!).T < (l[i + 1]!).T
instance (l : List Ev) : Decidable (aok l) := by unfold aok; infer_instance
instance (l : List Ev) : Decidable (asc l) := by unfold asc; infer_instance
def chk (l : List Ev) : Int := if aok l then (if asc l then 0 else 9) else 2
theorem ev_ext {a b : Ev} (h1 : a.T = b.T) (h2 : a.V = b.V) (h3 : a.C = b.C) (h4 : a.S = b.S) : a = b := by
  cases a; cases b; cases h1; cases h2; cases h3; cases h4; rfl
instance : DecidableEq Ev := fun a b => decidable_of_iff (a.T = b.T ∧ a.V = b.V ∧ a.C = b.C ∧ a.S = b.S) ⟨fun h => ev_ext h.1 h.2.1 h.2.2.1 h.2.2.2, fun h => h ▸ ⟨rfl, rfl, rfl, rfl⟩⟩
theorem and_ev (a b : Ev) : andL [decide (a.T = b.T), decide ((a.V : Int) = (b.V : Int)), decide (a.C = b.C), a.S == b.S] = decide (a = b) := by
  by_cases h : a = b
  · subst h; simp [andL_cons, andL_nil]
  · rw [decide_eq_false h]
    cases hb : andL [decide (a.T = b.T), decide ((a.V : Int) = (b.V : Int)), decide (a.C = b.C), a.S == b.S] with
    | false => rfl
    | true =>
      simp only [andL_cons, andL_nil, Bool.and_eq_true, decide_eq_true_eq, beq_iff_eq] at hb
      exact absurd (ev_ext hb.1 (by omega) hb.2.2.1 hb.2.2.2.1) h
theorem pr_evne {n : Nat} {F : Fr} {C : World → Prop} {x y : Operand} {u : TypeId} {a b : Ev} (hx : ev F x = some a.v) (hy : ev F y = some b.v) : PR Tryz.prog n F C (.binOp .neq 57 x y u) (.bool (!decide (a = b))) := by
  rw [← and_ev]
  exact pr_aggne2 hx hy (by rfl) (by kernel_rfl) (by kernel_rfl) (by rfl)
theorem pr_eveq {n : Nat} {F : Fr} {C : World → Prop} {x y : Operand} {u : TypeId} {a b : Ev} (hx : ev F x = some a.v) (hy : ev F y = some b.v) : PR Tryz.prog n F C (.binOp .eql 57 x y u) (.bool (decide (a = b))) := by
  rw [← and_ev]
  exact pr_aggeq2 hx hy (by rfl) (by kernel_rfl) (by kernel_rfl) (by rfl)
abbrev Asc (l : List Ev) : Prop := l.Pairwise (fun x y => x.T < y.T)
theorem asc_of : ∀ {l : List Ev}, asc l → Asc l
  | [], _ => .nil
  | [x], _ => List.pairwise_singleton _ _
  | x :: y :: l, h => by
    have h1 : x.T < y.T := h 0 (by simp)
    have h2 : Asc (y :: l) := asc_of fun i hi => h (i + 1) (by simp at hi ⊢; omega)
    refine List.Pairwise.cons (fun z hz => ?_) h2
    rcases List.mem_cons.1 hz with rfl | hz
    · exact h1
    · exact Int.lt_trans h1 ((List.pairwise_cons.1 h2).1 z hz)
theorem asc_to {l : List Ev} (h : Asc l) : asc l := fun i hi => by
  rw [getElem!_pos l i (by omega), getElem!_pos l (i + 1) (by omega)]
  exact List.pairwise_iff_getElem.1 h i (i + 1) (by omega) (by omega) (by omega)
theorem aok_iff {l : List Ev} : aok l ↔ ∀ e ∈ l, e.ok := by
  constructor
  · intro h e he
    obtain ⟨i, hi, rfl⟩ := List.mem_iff_getElem.1 he
    have := h i hi
    rwa [getElem!_pos l i hi] at this
  · intro h i hi
    rw [getElem!_pos l i hi]
    exact h _ (List.getElem_mem hi)
theorem chk_zero {l : List Ev} : chk l = 0 ↔ (∀ e ∈ l, e.ok) ∧ Asc l := by
  unfold chk
  rw [← aok_iff]
  by_cases h1 : aok l
  · rw [if_pos h1]
    by_cases h2 : asc l
    · rw [if_pos h2]; exact ⟨fun _ => ⟨h1, asc_of h2⟩, fun _ => rfl⟩
    · rw [if_neg h2]; exact ⟨fun h => absurd h (by decide), fun h => absurd (asc_to h.2) h2⟩
  · rw [if_neg h1]; exact ⟨fun h => absurd h (by decide), fun h => absurd h.1 h1⟩
theorem asc_inj {l : List Ev} (h : Asc l) {x y : Ev} (hx : x ∈ l) (hy : y ∈ l) (e : x.T = y.T) : x = y := by
  induction l with
  | nil => cases hx
  | cons z l ih =>
    obtain ⟨h1, h2⟩ := List.pairwise_cons.1 h
    rcases List.mem_cons.1 hx with ex | hx1 <;> rcases List.mem_cons.1 hy with ey | hy1
    · rw [ex, ey]
    · have := h1 y hy1; subst ex; omega
    · have := h1 x hx1; subst ey; omega
    · exact ih h2 hx1 hy1
theorem asc_ext : ∀ {l l' : List Ev}, Asc l → Asc l' → (∀ e, e ∈ l ↔ e ∈ l') → l = l'
  | [], [], _, _, _ => rfl
  | [], y :: l', _, _, h => absurd ((h y).2 (List.mem_cons_self ..)) (by simp)
  | x :: l, [], _, _, h => absurd ((h x).1 (List.mem_cons_self ..)) (by simp)
  | x :: l, y :: l', h1, h2, h => by
    obtain ⟨a1, a2⟩ := List.pairwise_cons.1 h1
    obtain ⟨b1, b2⟩ := List.pairwise_cons.1 h2
    have e : x = y := by
      rcases List.mem_cons.1 ((h x).1 (List.mem_cons_self ..)) with hx | hx
      · exact hx
      · rcases List.mem_cons.1 ((h y).2 (List.mem_cons_self ..)) with hy | hy
        · exact hy.symm
        · have := b1 x hx; have := a1 y hy; omega
    subst e
    congr 1
    refine asc_ext a2 b2 fun e => ⟨fun he => ?_, fun he => ?_⟩
    · rcases List.mem_cons.1 ((h e).1 (List.mem_cons_of_mem _ he)) with rfl | h3
      · have := a1 e he; omega
      · exact h3
    · rcases List.mem_cons.1 ((h e).2 (List.mem_cons_of_mem _ he)) with rfl | h3
      · have := b1 e he; omega
      · exact h3
/-- SameList -/
theorem same {m : Mem} (p : Option Addr) (c : Nat) (a : List Ev) (q : Option Addr) (d : Nat) (b : List Ev) (hl : a.length ≤ 1000000) (hlb : b.length ≤ 1000000) (sl0 : Sl m cells 4 p c a) (sl1 : Sl m cells 4 q d b) :
    Rd Tryz.prog 25 #[.slice p a.length c, .slice q b.length d] m [] (.bool (decide (a = b))) := by
  unfold Rd
  by_cases hlen : a.length = b.length
  · refine Ct.enterV (by rfl) Tryz.func25 rfl Tryz.ntmps25 rfl (fun w0 Rest => ?_)
    (repeat' (first | refine zss ?_ | ((first | (with_reducible first | apply At.val | apply AtQ.val)); (exact zprA); exact rfl) | refine zsM ?_ | (refine zsp ?_ ?_ <;> (intro hc; (try simp only [zhcs, reduceCtorEq] at hc); (try (exfalso; first | omega | contradiction | omega | exact absurd rfl hc | exact absurd (by decide) hc))))))
    (refine At.loopk (σ := Nat) [0, 1, 12] (fun s F0 => (13, .int .i64 (s : Int)) :: F0) (fun s => m) (fun s => Rest) (fun s => s ≤ a.length ∧ ∀ i, i < s → a[i]! = b[i]!) (fun s => a.length - s) 0 (by rfl) ?_ zsubs zml zente ?_)
    · exact ⟨Nat.zero_le _, fun i h => absurd h (Nat.not_lt_zero i)⟩
    rintro s ⟨hs, hn⟩
    by_cases h : s < a.length
    · by_cases e : a[s]! = b[s]!
      · have hnn : ∀ i, i < s + 1 → a[i]! = b[i]! := fun i hi => by
          by_cases e1 : i = s
          · subst e1; exact e
          · exact hn i (by omega)
        (repeat' (first | refine zss ?_ | ((first | (with_reducible first | apply At.val | apply AtQ.val)); (first | exact pr_evne (by rfl) (by rfl) | exact zprA); exact rfl) | refine zsM ?_ | (refine zsp ?_ ?_ <;> (intro hc; (try simp only [zhcs, reduceCtorEq] at hc); (try (exfalso; first | (first | omega | exact absurd e hc) | contradiction | omega | exact absurd rfl hc | exact absurd (by decide) hc))))))
        all_goals ((with_reducible refine At.reachk ((s + 1)) ?_ ?_ ?_ ?_); exact zsubs; exact zml; exact zente; exact ⟨⟨h, hnn⟩, by omega⟩)
      · rw [decide_eq_false (show ¬ a = b from fun h => e (by rw [h]))]
        (repeat' (first | refine zss ?_ | ((first | (with_reducible first | apply At.val | apply AtQ.val)); (first | exact pr_evne (by rfl) (by rfl) | exact zprA); exact rfl) | refine zsM ?_ | (refine zsp ?_ ?_ <;> (intro hc; (try simp only [zhcs, reduceCtorEq] at hc); (try (exfalso; first | (first | omega | exact absurd hc e) | contradiction | omega | exact absurd rfl hc | exact absurd (by decide) hc))))))
        all_goals ((with_reducible apply At.retB1 (B := [])); exact rfl; exact rfl; exact zml; exact zkp; exact ⟨rfl, rfl, rfl⟩)
    · rw [decide_eq_true (show a = b from List.ext_getElem hlen fun i h1 h2 => by have := hn i (by omega); rwa [getElem!_pos a i h1, getElem!_pos b i h2] at this)]
      (repeat' (first | refine zss ?_ | ((first | (with_reducible first | apply At.val | apply AtQ.val)); (exact zprA); exact rfl) | refine zsM ?_ | (refine zsp ?_ ?_ <;> (intro hc; (try simp only [zhcs, reduceCtorEq] at hc); (try (exfalso; first | omega | contradiction | omega | exact absurd rfl hc | exact absurd (by decide) hc))))))
      all_goals ((with_reducible apply At.retB1 (B := [])); exact rfl; exact rfl; exact zml; exact zkp; exact ⟨rfl, rfl, rfl⟩)
  · rw [decide_eq_false (show ¬ a = b from fun h => hlen (by rw [h]))]
    refine Ct.enterV (by rfl) Tryz.func25 rfl Tryz.ntmps25 rfl (fun w0 Rest => ?_)
    (repeat' (first | refine zss ?_ | ((first | (with_reducible first | apply At.val | apply AtQ.val)); (exact zprA); exact rfl) | refine zsM ?_ | (refine zsp ?_ ?_ <;> (intro hc; (try simp only [zhcs, reduceCtorEq] at hc); (try (exfalso; first | omega | contradiction | omega | exact absurd rfl hc | exact absurd (by decide) hc))))))
    all_goals ((with_reducible apply At.retB1 (B := [])); exact rfl; exact rfl; exact zml; exact zkp; exact ⟨rfl, rfl, rfl⟩)
end Mrg
end Go.Proofs.YtkoijdmlehkhbaaGreatDoor
