/- Regions that draw their order and leave what is known of the world as it is: one walk in the text's order. -/
import Derived.Test.YtjncahmbllmllaaJ3
set_option linter.unusedSimpArgs false
set_option linter.unusedVariables false
set_option linter.unusedSectionVars false
set_option maxRecDepth 20000
namespace Go.J
open Go

section
variable {P : Program} {n : Nat} {w0 : World} {F : Fr} {m : Mem} {Rs : List Res} {Q : Exit → Act → World → Prop} {K : Act → World → Prop} {C : World → Prop}

theorem At.regionf {id : Nat} {l0 l : List Oper} (e : flat l0 = some l) (h : At n w0 F m Rs (wpList P l.toArray Q l)) : At n w0 F m Rs ((Code.region id l0.toArray false).wp P Q) := by
  have := flat_eq l0 l e; subst this; exact At.region h

def AtQ (P : Program) (n : Nat) (F : Fr) (C : World → Prop) (ops : Array Oper) (Qq : Act → Prop) (rest : List Oper) : Prop := ∀ a, HF n F a → wpQuiet P ops C Qq rest a

theorem At.quiet {id : Nat} {l0 l : List Oper} (e : flat l0 = some l) (hm : P.follows .mixedOrders = true) (hB : Region.lexB .any l.toArray = true)
    (h : AtQ P n F (HW w0 m Rs) l.toArray (fun a' => ∀ w', HW w0 m Rs w' → Q .normal a' w') l) : At n w0 F m Rs ((Code.region id l0.toArray true).wp P Q) := fun a w ha hw => by
  have := flat_eq l0 l e; subst this
  exact wp_region_quiet (C := HW w0 m Rs) hm hB (hw.drawn _) (by simpa using h a ha)

variable {ops : Array Oper} {rest : List Oper} {Qq : Act → Prop}
theorem AtQ.nil (h : At n w0 F m Rs (Q .normal)) : AtQ P n F (HW w0 m Rs) ops (fun a' => ∀ w', HW w0 m Rs w' → Q .normal a' w') [] := fun a ha => wpQuiet_nil fun w' hw' => h a w' ha hw'

theorem AtQ.val {d : Nat} {op : Op} {ty : TypeId} {pos : String} {aft : Array Edge} {v : Value} (hp : PR P n F C op v) (hd : Nat.blt d n = true)
    (h : AtQ P n ((d, v) :: F) C ops Qq rest) : AtQ P n F C ops Qq (⟨some d, op, ty, pos, aft, none⟩ :: rest) := fun a ha => by
  unfold wpQuiet
  rw [if_pos (by simp [Region.wanted])]
  refine ⟨v, fun w hw => ?_, h _ (ha.put hd)⟩
  unfold Oper.quietAt
  rw [hp _ _ _ _ _ a w ha hw]
  exact ⟨rfl, rfl⟩

theorem AtQ.callp {d : Nat} {f : FuncId} {xs : List Operand} {ts : Array TypeId} {ty : TypeId} {pos : String} {aft : Array Edge} {vs : List Value} {V : Value}
    (hg : goFn P f = true) (hx : evs F xs = some vs) (hd : Nat.blt d n = true) (hc : Pu P f vs.toArray V)
    (h : AtQ P n ((d, V) :: F) (HW w0 m Rs) ops Qq rest) : AtQ P n F (HW w0 m Rs) ops Qq (⟨some d, .call ⟨.value (.func f), xs.toArray, ts⟩, ty, pos, aft, none⟩ :: rest) := fun a ha => by
  unfold wpQuiet
  rw [if_pos (by simp [Region.wanted])]
  refine ⟨V, fun w hw => ?_, h _ (ha.put hd)⟩
  unfold Oper.quietAt
  have : (execOp a.eval ⟨some d, .call ⟨.value (.func f), xs.toArray, ts⟩, ty, pos, aft, none⟩).run P w = .ok (.enter f vs.toArray) w := by
    rw [execOp_call_go]
    have : (#[] ++ xs.toArray.map a.eval ++ #[] : Array Value) = vs.toArray := by simp [evs_map ha xs vs hx]
    rw [this, run_callFunc hg]
  rw [this]
  exact ⟨rfl, hc.calls hw⟩

theorem yielded_of {a : Act} (ha : HF n F a) {j t : Nat} {b : Bool} (hj : (ops[j]?).bind (·.dst) = some t) (ht : look t F = some (.bool b)) (htn : Nat.blt t n = true) : yielded ops a.tmps j = some b := by
  have hv := ha.val t _ ht
  have hlt : t < a.tmps.size := by rw [ha.siz]; exact Nat.le_of_ble_eq_true htn
  unfold yielded
  rw [hj]
  simp only [Option.bind_some]
  rw [Array.getElem?_eq_getElem hlt]
  simp only [Array.getD_eq_getD_getElem?, Array.getElem?_eq_getElem hlt, Option.getD_some] at hv
  rw [hv]
theorem yielded_ne {a : Act} (ha : HF n F a) {j t : Nat} {v : Value} {want : Bool} (hj : (ops[j]?).bind (·.dst) = some t) (ht : look t F = some v) (hv : v ≠ .bool want) : ¬ (yielded ops a.tmps j == some want) = true := by
  have hx := ha.val t _ ht
  unfold yielded
  rw [hj]
  simp only [Option.bind_some]
  rcases Nat.lt_or_ge t a.tmps.size with hlt | hge
  · rw [Array.getElem?_eq_getElem hlt]
    simp only [Array.getD_eq_getD_getElem?, Array.getElem?_eq_getElem hlt, Option.getD_some] at hx
    rw [hx]
    cases v with
    | bool b => simp; intro e; subst e; exact hv rfl
    | _ => simp
  · rw [Array.getElem?_eq_none hge]; simp

theorem AtQ.guard_y {d : Option Tmp} {op : Op} {ty : TypeId} {pos : String} {aft : Array Edge} {j : Nat} {want : Bool} {t : Nat}
    (hj : (ops[j]?).bind (·.dst) = some t) (ht : look t F = some (.bool want)) (htn : Nat.blt t n = true) (h : AtQ P n F C ops Qq (⟨d, op, ty, pos, aft, none⟩ :: rest)) :
    AtQ P n F C ops Qq (⟨d, op, ty, pos, aft, some (j, want)⟩ :: rest) := fun a ha => by
  have h' := h a ha
  unfold wpQuiet at h' ⊢
  rw [if_pos (by simp [Region.wanted])] at h'
  rw [if_pos (by simp [Region.wanted, yielded_of ha hj ht htn])]
  exact h'
theorem AtQ.guard_n {d : Nat} {op : Op} {ty : TypeId} {pos : String} {aft : Array Edge} {j : Nat} {want : Bool} {t : Nat} {v : Value}
    (hj : (ops[j]?).bind (·.dst) = some t) (ht : look t F = some v) (hv : v ≠ .bool want) (hd : Nat.blt d n = true) (h : AtQ P n ((d, undef) :: F) C ops Qq rest) :
    AtQ P n F C ops Qq (⟨some d, op, ty, pos, aft, some (j, want)⟩ :: rest) := fun a ha => by
  have h' := h _ (ha.put hd)
  unfold wpQuiet
  rw [if_neg (by simpa [Region.wanted] using yielded_ne ha hj ht hv)]
  exact h'
theorem AtQ.guard_nt {d : Nat} {op : Op} {ty : TypeId} {pos : String} {aft : Array Edge} {j : Nat} {t : Nat}
    (hj : (ops[j]?).bind (·.dst) = some t) (ht : look t F = some (.bool false)) (hd : Nat.blt d n = true) (h : AtQ P n ((d, undef) :: F) C ops Qq rest) :
    AtQ P n F C ops Qq (⟨some d, op, ty, pos, aft, some (j, true)⟩ :: rest) := AtQ.guard_n hj ht (by simp) hd h
theorem AtQ.guard_nf {d : Nat} {op : Op} {ty : TypeId} {pos : String} {aft : Array Edge} {j : Nat} {t : Nat}
    (hj : (ops[j]?).bind (·.dst) = some t) (ht : look t F = some (.bool true)) (hd : Nat.blt d n = true) (h : AtQ P n ((d, undef) :: F) C ops Qq rest) :
    AtQ P n F C ops Qq (⟨some d, op, ty, pos, aft, some (j, false)⟩ :: rest) := AtQ.guard_n hj ht (by simp) hd h
theorem AtQ.guard_nu {d : Nat} {op : Op} {ty : TypeId} {pos : String} {aft : Array Edge} {j : Nat} {want : Bool} {t : Nat}
    (hj : (ops[j]?).bind (·.dst) = some t) (ht : look t F = some undef) (hd : Nat.blt d n = true) (h : AtQ P n ((d, undef) :: F) C ops Qq rest) :
    AtQ P n F C ops Qq (⟨some d, op, ty, pos, aft, some (j, want)⟩ :: rest) := AtQ.guard_n hj ht (by simp [undef]) hd h
theorem AtQ.note {t : Nat} {v v' : Value} {l : List Oper} (ht : look t F = some v) (e : v = v') (h : AtQ P n ((t, v') :: F) C ops Qq l) : AtQ P n F C ops Qq l := fun a ha => h a (ha.note ht e)
theorem AtQ.guard_s {d : Option Nat} {op : Op} {ty : TypeId} {pos : String} {aft : Array Edge} {j : Nat} {want : Bool} {t : Nat} {b : Bool}
    (hj : (ops[j]?).bind (·.dst) = some t) (ht : look t F = some (.bool b))
    (h1 : b = true → AtQ P n ((t, .bool true) :: F) C ops Qq (⟨d, op, ty, pos, aft, some (j, want)⟩ :: rest))
    (h2 : b = false → AtQ P n ((t, .bool false) :: F) C ops Qq (⟨d, op, ty, pos, aft, some (j, want)⟩ :: rest)) :
    AtQ P n F C ops Qq (⟨d, op, ty, pos, aft, some (j, want)⟩ :: rest) := by
  have _ := hj
  cases b
  · exact AtQ.note ht rfl (h2 rfl)
  · exact AtQ.note ht rfl (h1 rfl)
end
end Go.J
