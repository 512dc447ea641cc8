/- What a function hands back, where it stands in a variable of its own. -/
import Derived.Test.YtjncahmbllmllaaJ9
set_option linter.unusedSimpArgs false
set_option linter.unusedVariables false
set_option linter.unusedSectionVars false
set_option maxRecDepth 20000
namespace Go.J
open Go

def rvSem (r : ResultVar) (tmps : Array Value) : Sem Value := match r with
  | .tmp t => pure (tmps.getD t undef)
  | .cell a t => do loadVar t (← asAddr (tmps.getD a undef))
def RV (P : Program) (n : Nat) (F : Fr) (C : World → Prop) (r : ResultVar) (v : Value) : Prop := ∀ a w, HF n F a → C w → (rvSem r a.tmps).run P w = .ok v w
def RVs (P : Program) (n : Nat) (F : Fr) (C : World → Prop) : List ResultVar → List Value → Prop
  | [], [] => True
  | r :: rs, v :: vs => RV P n F C r v ∧ RVs P n F C rs vs
  | _, _ => False
def retv : List Value → Value
  | [v] => v
  | vs => .tuple vs.toArray

section
variable {P : Program} {n : Nat} {w0 : World} {F : Fr} {m : Mem} {Rs : List Res} {C : World → Prop}
theorem rv_tmp {t : Nat} {v : Value} (ht : look t F = some v) : RV P n F C (.tmp t) v := fun a w ha _ => by
  show (Pure.pure (a.tmps.getD t undef) : Sem Value).run P w = _
  rw [ha.val t v ht]; rfl
theorem rv_cellN {x b k : Nat} {t E : TypeId} {cs vs : List Value} {Rs' : List Res} (hx : look x F = some (.pointer (some ⟨b, 0, none⟩))) (hp : Pick Rs (.blk b E cs) Rs') (ht : isAggB P t = some true) (hs : sizeB P t = some k) (hv : subl cs 0 k = some vs) : RV P n F (HW w0 m Rs) (.cell x t) (.agg vs.toArray) := fun a w ha hC => by
  have hl := subl_length cs 0 k vs hv
  show ((do loadVar t (← asAddr (a.tmps.getD x undef))) : Sem Value).run P w = _
  rw [ha.val x _ hx]
  have e0 : (asAddr (.pointer (some ⟨b, 0, none⟩)) : Sem Addr).run P w = .ok ⟨b, 0, none⟩ w := rfl
  simp only [Sem.run_bind, e0, Result.andThen]
  exact run_loadVarN ht (by rw [hl]; exact hs) (fun j hj => by
    rw [World.cell_of (hC.blk hp), ← subl_get cs 0 k vs hv j (by omega)]
    simp)
theorem rv_cell1 {x b : Nat} {t E : TypeId} {cs : List Value} {v : Value} {Rs' : List Res} (hx : look x F = some (.pointer (some ⟨b, 0, none⟩))) (hp : Pick Rs (.blk b E cs) Rs') (ht : isAggB P t = some false) (hv : nthl cs 0 = some v) : RV P n F (HW w0 m Rs) (.cell x t) v := fun a w ha hC => by
  show ((do loadVar t (← asAddr (a.tmps.getD x undef))) : Sem Value).run P w = _
  rw [ha.val x _ hx]
  have e0 : (asAddr (.pointer (some ⟨b, 0, none⟩)) : Sem Addr).run P w = .ok ⟨b, 0, none⟩ w := rfl
  simp only [Sem.run_bind, e0, Result.andThen]
  exact run_loadVar1 ht (by rw [World.cell_of (hC.blk hp)]; rw [nthl_eq] at hv; simpa using hv)

theorem RVs.nil : RVs P n F C [] [] := trivial
theorem RVs.cons {r : ResultVar} {v : Value} {rs : List ResultVar} {vs : List Value} (h : RV P n F C r v) (h' : RVs P n F C rs vs) : RVs P n F C (r :: rs) (v :: vs) := ⟨h, h'⟩
theorem run_rvs {a : Act} {w : World} (ha : HF n F a) (hC : C w) : ∀ (rs : List ResultVar) (vs : List Value), RVs P n F C rs vs → (rs.mapM fun r => rvSem r a.tmps).run P w = .ok vs w
  | [], [], _ => rfl
  | r :: rs, v :: vs, ⟨h1, h2⟩ => by
    simp [List.mapM_cons, h1 a w ha hC, run_rvs ha hC rs vs h2]
  | [], _ :: _, h => h.elim
  | _ :: _, [], h => h.elim

theorem At.retV {fn : Func} {R : Value → Mem → List Res → Prop} {m0 : Mem} {Rest B : List Res} {rs : List ResultVar} {vs : List Value} (hr : fn.results = rs.toArray) (hrs : RVs P n F (HW w0 m Rs) rs vs) (hm : m0.le m) (hB : Keep B Rs Rest) (hR : R (retv vs) m B) :
    At n w0 F m Rs (bodyPost P fn (fun e w' => ∃ v m' B, e = .returned v ∧ m0.le m' ∧ R v m' B ∧ HW w0 m' (B ++ Rest) w') .ret) := fun a w ha hw => by
  refine ⟨ha.dfr, retv vs, ?_, _, m, B, rfl, hm, hR, hw.ent hB.ent⟩
  have h := run_rvs ha hw rs vs hrs
  have e : results fn a.tmps = (do let vs ← rs.toArray.mapM fun r => rvSem r a.tmps; Pure.pure (if h : vs.size = 1 then vs[0] else .tuple vs)) := by
    unfold results
    rw [hr]
    rfl
  rw [e]
  have h2 : (rs.toArray.mapM fun r => rvSem r a.tmps).run P w = .ok vs.toArray w := by
    rw [Array.mapM_eq_mapM_toList]
    simp [h]
  simp only [Sem.run_bind, h2, Result.andThen]
  cases vs with
  | nil => rfl
  | cons v vs => cases vs with
    | nil => rfl
    | cons v2 vs => simp [retv]
end
end Go.J
