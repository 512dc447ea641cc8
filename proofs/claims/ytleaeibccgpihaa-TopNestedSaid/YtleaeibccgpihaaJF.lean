/- An element of an array's value. -/
import Derived.Test.YtleaeibccgpihaaJC
set_option linter.unusedSimpArgs false
set_option linter.unusedVariables false
set_option linter.unusedSectionVars false
set_option maxRecDepth 20000
namespace Go.J
open Go
theorem pr_index_agg {P : Program} {n : Nat} {F : Fr} {C : World → Prop} {x y : Operand} {t e : TypeId} {len k : Nat} {ki : IntKind} {cs : List Value} {v : Value} (hx : ev F x = some (.agg cs.toArray)) (hy : ev F y = some (.int ki (k : Int)))
    (ht : P.underlying t = some (.array len e)) (hs : sizeB P e = some 1) (hg : isAggB P e = some false) (hk : Nat.blt k len = true) (hv : nthl cs k = some v) : PR P n F C (.index t x y) v := fun _ _ _ _ _ a w ha _ => by
  have hk' : k < len := Nat.le_of_ble_eq_true hk
  have hr : ∀ w, (underlying t).run P w = .ok (.array len e) w := fun w => by simp only [underlying, program, bind, Sem.bind, Sem.run, ht]; rfl
  have hv' : cs[k]? = some v := by rw [nthl_eq] at hv; exact hv
  have : (Instr.index t (.agg cs.toArray) (.int ki (k : Int))).run P w = .ok v w := by
    unfold Instr.index
    have hb : (0 : Int) ≤ (k : Int) ∧ (k : Int) < (len : Int) := ⟨by omega, by omega⟩
    simp only [asIntOf, pure, Sem.run_bind, Sem.run, Result.andThen, hr, hb, and_self, if_true, run_sizeOf hs, Int.toNat_natCast, Nat.mul_one]
    unfold part
    simp only [Sem.run_bind, run_isAgg hg, Result.andThen]
    simp [hv', pure, Sem.run]
  simp only [execOp, ha.ev hx, ha.ev hy, Sem.run_bind]
  rw [this]
  rfl
def buildAL (P : Program) (t : TypeId) (ps : List (Nat × Value)) : Option (List Value) := match P.underlying t with
  | some (.array _ e) => match zeroL P t with
    | some z => match P.info? e with
      | some ie => match fillL (fun i => some (i * ie.size, ie.size)) z ps with
        | some r => flat r
        | none => none
      | none => none
    | none => none
  | _ => none
theorem buildAL_eq {P : Program} {t : TypeId} {ps : List (Nat × Value)} {r : List Value} (h : buildAL P t ps = some r) : P.built t ps = some r.toArray := by
  unfold buildAL at h
  unfold Program.built
  cases hu : P.underlying t with
  | none => rw [hu] at h; cases h
  | some d =>
    rw [hu] at h
    cases d <;> simp at h
    rename_i n e
    cases hz : zeroL P t with
    | none => rw [hz] at h; simp at h
    | some zs =>
      obtain ⟨i, z, hi, hzz, hzc⟩ := zeroL_spec hz
      rw [hz] at h
      simp only at h
      cases hie : P.info? e with
      | none => rw [hie] at h; simp at h
      | some ie =>
        rw [hie] at h
        simp only at h
        cases hf : fillL (fun i => some (i * ie.size, ie.size)) zs ps with
        | none => rw [hf] at h; cases h
        | some r' =>
          rw [hf] at h
          have := flat_eq _ _ h
          subst this
          simp only [hi, hzz, hie, hzc]
          exact fillL_eq _ _ _ _ hf
theorem pr_buildArr {P : Program} {n : Nat} {F : Fr} {C : World → Prop} {t : TypeId} {xs : List (Nat × Operand)} {ps : List (Nat × Value)} {r : List Value} (hx : evps F xs = some ps) (hb : buildAL P t ps = some r) : PR P n F C (.build t xs.toArray) (.agg r.toArray) := fun _ _ _ _ _ a w ha _ => by
  have e : (xs.toArray.map fun (i, x) => (i, a.eval x)) = ps.toArray := by simp [evps_map ha xs ps hx]
  simp only [execOp, e, Sem.run_bind]
  rw [run_build w t ps.toArray r.toArray (by simpa using buildAL_eq hb)]
  rfl
theorem nine {L : List Int} (h : L.length = 9) : ∃ r a b d x y w c g, L = [r, a, b, d, x, y, w, c, g] := by
  match L, h with
  | [r, a, b, d, x, y, w, c, g], _ => exact ⟨r, a, b, d, x, y, w, c, g, rfl⟩
end Go.J
