/- Values and slices that are written out. -/
import Derived.Test.YtjncahmbllmllaaJ6
import Derived.Laws.Tables
import Derived.Great.BuildSlice
set_option linter.unusedSimpArgs false
set_option linter.unusedVariables false
set_option linter.unusedSectionVars false
set_option maxRecDepth 20000
namespace Go.J
open Go

theorem putl_step {v : Value} {vs : List Value} : ∀ (k : Nat) (cs r : List Value), putl cs k (v :: vs) = some r → k < cs.length ∧ putl (cs.set k v) (k + 1) vs = some r := by
  intro k
  induction k with
  | zero =>
    intro cs r hp
    cases cs with
    | nil => simp [putl] at hp
    | cons c cs =>
      simp only [putl] at hp
      cases hh : putl cs 0 vs with
      | none => rw [hh] at hp; cases hp
      | some r' => rw [hh] at hp; cases hp; exact ⟨by simp, by simp [putl, hh]⟩
  | succ k ih =>
    intro cs r hp
    cases cs with
    | nil => simp [putl] at hp
    | cons c cs =>
      simp only [putl] at hp
      cases hh : putl cs k (v :: vs) with
      | none => rw [hh] at hp; cases hp
      | some r' =>
        rw [hh] at hp; cases hp
        have := ih cs r' hh
        exact ⟨by simp; omega, by simp [putl, this.2]⟩

theorem foldl_putl (off : Nat) : ∀ (vs : List Value) (k : Nat) (cs r : List Value), putl cs (off + k) vs = some r → ((vs.zipIdx k).foldl (fun (a : Array Value) (x : Value × Nat) => a.setIfInBounds (off + x.2) x.1) cs.toArray) = r.toArray
  | [], k, cs, r, h => by
    have : r = cs := by
      have := putl_get _ _ _ _ h
      apply List.ext_getElem?
      intro i
      rw [this.2.2 i, if_neg (by simp)]
    subst this
    rfl
  | v :: vs, k, cs, r, h => by
    obtain ⟨h1, h2⟩ := putl_step _ _ _ h
    rw [List.zipIdx_cons, List.foldl_cons]
    have e : (cs.toArray.setIfInBounds (off + k) v) = (cs.set (off + k) v).toArray := by simp
    rw [e]
    exact foldl_putl off vs (k + 1) _ r (by rw [← Nat.add_assoc]; exact h2)

def fillL (place : Nat → Option (Nat × Nat)) : List Value → List (Nat × Value) → Option (List Value)
  | cs, [] => some cs
  | cs, (i, v) :: rest => match place i with
    | some (off, size) => match cellsB v with
      | some vs => match Nat.beq vs.length size with
        | true => match putl cs off vs with
          | some r => fillL place r rest
          | none => none
        | false => none
      | none => none
    | none => none
theorem fillL_eq (place : Nat → Option (Nat × Nat)) : ∀ (ps : List (Nat × Value)) (cs r : List Value), fillL place cs ps = some r → Instr.fill place cs.toArray ps = some r.toArray
  | [], cs, r, h => by cases h; rfl
  | (i, v) :: rest, cs, r, h => by
    simp only [fillL] at h
    unfold Instr.fill
    cases hp : place i with
    | none => rw [hp] at h; cases h
    | some q =>
      obtain ⟨off, size⟩ := q
      rw [hp] at h
      simp only at h ⊢
      cases hv : cellsB v with
      | none => rw [hv] at h; cases h
      | some vs =>
        rw [hv] at h
        simp only at h
        have hvc := cellsB_eq hv
        cases hb : Nat.beq vs.length size with
        | false => rw [hb] at h; cases h
        | true =>
          rw [hb] at h
          simp only at h
          cases hq : putl cs off vs with
          | none => rw [hq] at h; cases h
          | some r' =>
            rw [hq] at h
            simp only at h
            have hlen := Nat.eq_of_beq_eq_true hb
            have hg := putl_get _ _ _ _ hq
            have hz : v.cells.size = vs.length := by rw [hvc]; simp
            rw [if_neg (by have := hg.1; simp [hz, hlen]; omega)]
            have hf := foldl_putl off vs 0 cs r' (by simpa using hq)
            have : v.cells.zipIdx.foldl (fun (a : Array Value) (x : Value × Nat) => a.setIfInBounds (off + x.2) x.1) cs.toArray = r'.toArray := by
              rw [hvc, ← hf, ← Array.foldl_toList]
              simp
            rw [show (v.cells.zipIdx.foldl (fun cs (c, j) => cs.setIfInBounds (off + j) c) cs.toArray) = r'.toArray from this]
            exact fillL_eq place rest r' r h

def placesL (P : Program) : List Field → Option (List (Nat × Nat))
  | [] => some []
  | f :: fs => match P.info? f.type with
    | some i => match placesL P fs with
      | some r => some ((f.offset, i.size) :: r)
      | none => none
    | none => none
theorem placesL_eq {P : Program} : ∀ (fs : List Field) (r : List (Nat × Nat)), placesL P fs = some r → fs.mapM (fun f => (P.info? f.type).map fun i => (f.offset, i.size)) = some r
  | [], r, h => by cases h; rfl
  | f :: fs, r, h => by
    simp only [placesL] at h
    cases hi : P.info? f.type with
    | none => rw [hi] at h; cases h
    | some i =>
      rw [hi] at h
      simp only at h
      cases hr : placesL P fs with
      | none => rw [hr] at h; cases h
      | some r' =>
        rw [hr] at h
        cases h
        simp [List.mapM_cons, hi, placesL_eq fs r' hr]
def nthP : List (Nat × Nat) → Nat → Option (Nat × Nat)
  | [], _ => none
  | c :: _, 0 => some c
  | _ :: cs, o + 1 => nthP cs o
theorem nthP_eq : ∀ (cs : List (Nat × Nat)) (o : Nat), nthP cs o = cs[o]?
  | [], _ => by simp [nthP]
  | _ :: _, 0 => rfl
  | _ :: cs, o + 1 => by rw [nthP, nthP_eq cs o]; rfl

/-- the parts of a written value, by their operands -/
def evps (F : Fr) : List (Nat × Operand) → Option (List (Nat × Value))
  | [] => some []
  | (i, x) :: xs => match ev F x with
    | some v => match evps F xs with
      | some vs => some ((i, v) :: vs)
      | none => none
    | none => none
theorem evps_map {n : Nat} {F : Fr} {a : Act} (ha : HF n F a) : ∀ (xs : List (Nat × Operand)) (vs : List (Nat × Value)), evps F xs = some vs → xs.map (fun (i, x) => (i, a.eval x)) = vs
  | [], vs, h => by cases h; rfl
  | (i, x) :: xs, vs, h => by
    simp only [evps] at h
    cases hx : ev F x with
    | none => rw [hx] at h; cases h
    | some v =>
      rw [hx] at h
      simp only at h
      cases hxs : evps F xs with
      | none => rw [hxs] at h; cases h
      | some us =>
        rw [hxs] at h; cases h
        simp only [List.map_cons, ha.ev hx]
        rw [evps_map ha xs us hxs]

def zeroL (P : Program) (t : TypeId) : Option (List Value) := match P.info? t with
  | some i => match i.zero with
    | some z => cellsB z
    | none => none
  | none => none
def buildL (P : Program) (t : TypeId) (ps : List (Nat × Value)) : Option (List Value) :=
  match P.underlying t with
  | some (.struct fields) => match zeroL P t with
    | some z => match placesL P fields.toList with
      | some places => match fillL (nthP places) z ps with
        | some r => flat r
        | none => none
      | none => none
    | none => none
  | _ => none

section
variable {P : Program} {n : Nat} {w0 : World} {F : Fr} {m : Mem} {Rs : List Res} {Q : Exit → Act → World → Prop} {K : Act → World → Prop} {C : World → Prop}

theorem zeroL_spec {t : TypeId} {zs : List Value} (h : zeroL P t = some zs) : ∃ i z, P.info? t = some i ∧ i.zero = some z ∧ z.cells = zs.toArray := by
  unfold zeroL at h
  cases hi : P.info? t with
  | none => rw [hi] at h; cases h
  | some i =>
    rw [hi] at h
    simp only at h
    cases hz : i.zero with
    | none => rw [hz] at h; cases h
    | some z => rw [hz] at h; exact ⟨i, z, rfl, hz, cellsB_eq h⟩

theorem buildL_eq {t : TypeId} {ps : List (Nat × Value)} {r : List Value} (h : buildL P t ps = some r) : P.built t ps = some r.toArray := by
  unfold buildL at h
  unfold Program.built
  cases hu : P.underlying t with
  | none => rw [hu] at h; cases h
  | some d =>
    rw [hu] at h
    cases d <;> simp at h
    rename_i fields
    cases hz : zeroL P t with
    | none => rw [hz] at h; simp at h
    | some zs =>
      obtain ⟨i, z, hi, hzz, hzc⟩ := zeroL_spec hz
      rw [hz] at h
      simp only at h
      cases hp : placesL P fields.toList with
      | none => rw [hp] at h; simp at h
      | some places =>
        rw [hp] at h
        simp only at h
        cases hf : fillL (nthP places) zs ps with
        | none => rw [hf] at h; cases h
        | some r' =>
          rw [hf] at h
          have := flat_eq _ _ h
          subst this
          simp only [hi, hzz, placesL_eq _ _ hp, hzc]
          have e : (fun (x : Nat) => places.toArray[x]?) = nthP places := by funext x; rw [nthP_eq]; simp
          rw [e]
          exact fillL_eq _ _ _ _ hf

theorem pr_build {t : TypeId} {xs : List (Nat × Operand)} {ps : List (Nat × Value)} {r : List Value} (hx : evps F xs = some ps) (hb : buildL P t ps = some r) : PR P n F C (.build t xs.toArray) (.agg r.toArray) := fun _ _ _ _ _ a w ha _ => by
  have e : (xs.toArray.map fun (i, x) => (i, a.eval x)) = ps.toArray := by simp [evps_map ha xs ps hx]
  simp only [execOp, e, Sem.run_bind]
  rw [run_build w t ps.toArray r.toArray (by simpa using buildL_eq hb)]
  rfl

def copies : Nat → List Value → List Value
  | 0, _ => []
  | k + 1, zs => zs ++ copies k zs
theorem copies_eq (zs : List Value) : ∀ k, copies k zs = (List.replicate k ()).flatMap (fun _ => zs)
  | 0 => rfl
  | k + 1 => by rw [copies, copies_eq zs k]; rfl
theorem copies_arr (z : Array Value) (zs : List Value) (hz : z = zs.toArray) (k : Nat) : ((Array.range (k * zs.length)).map (z[· % z.size]!)) = (copies k zs).toArray := by
  subst hz
  rw [copies_eq]
  have hl := flatMap_length (f := fun _ : Unit => zs) (sz := zs.length) (fun _ => rfl) (List.replicate k ())
  rw [List.length_replicate] at hl
  apply Array.ext_getElem?
  intro i
  by_cases hi : i < k * zs.length
  · have hpos : 0 < zs.length := by
      rcases Nat.eq_zero_or_pos zs.length with h | h
      · rw [h] at hi; simp at hi
      · exact h
    have hd : i / zs.length < k := Nat.div_lt_of_lt_mul (by rw [Nat.mul_comm]; exact hi)
    have hm : i % zs.length < zs.length := Nat.mod_lt _ hpos
    have hg := flatMap_get (f := fun _ : Unit => zs) (sz := zs.length) (fun _ => rfl) (List.replicate k ()) (i / zs.length) (i % zs.length) (by simpa using hd) hm
    rw [Nat.mul_comm, Nat.div_add_mod] at hg
    simp only [Array.getElem?_map, List.getElem?_toArray, hg]
    simp [hi, hm]
  · rw [Array.getElem?_eq_none (by simp; omega), Array.getElem?_eq_none (by simp only [List.size_toArray, hl]; omega)]

def litL (P : Program) (E : TypeId) (sz len : Nat) (ps : List (Nat × Value)) : Option (List Value) := match zeroL P E with
  | some zs => match fillL (fun i => some (i * sz, sz)) (copies len zs) ps with
    | some r => flat r
    | none => none
  | none => none

theorem At.lit {α : Type} [Inhabited α] {ops : Array Oper} {rest : List Oper} {d : Nat} {t E : TypeId} {len : Nat} {xs : List (Nat × Operand)} {ps : List (Nat × Value)} {ty : TypeId} {pos : String} {aft : Array Edge} {sz : Nat}
    (f : α → List Value) (l : List α) (hf : Fl f sz) (ht : P.underlying t = some (.slice E)) (he : elemB P E sz = true) (hx : evps F xs = some ps) (hsm : Nat.ble (len * sz) 16777216 = true) (hl : l.length = len)
    (hb : litL P E sz len ps = flat (l.flatMap f)) (hd : Nat.blt d n = true)
    (h : ∀ b, At n w0 ((d, .slice (some ⟨b, 0, none⟩) len len) :: F) m (.own f sz E (some ⟨b, 0, none⟩) len l :: Rs) (wpList P ops Q rest)) :
    At n w0 F m Rs (wpList P ops Q (⟨some d, .buildSlice t len xs.toArray, ty, pos, aft, none⟩ :: rest)) := fun a w ha hw =>
  wpList_plain rfl fun K hK => by
    obtain ⟨i, z, hi, hz, hsz, _, hzs⟩ := elemB_spec he
    have hll := flatMap_length hf.len l
    have hb' : litL P E sz len ps = some (l.flatMap f) := by rw [hb, flat_self]
    unfold litL at hb'
    cases hzl : zeroL P E with
    | none => rw [hzl] at hb'; cases hb'
    | some zs =>
      obtain ⟨i', z', hi', hz', hzc⟩ := zeroL_spec hzl
      rw [hi] at hi'; cases hi'
      rw [hz] at hz'; cases hz'
      rw [hzl] at hb'
      simp only at hb'
      cases hfl : fillL (fun i => some (i * sz, sz)) (copies len zs) ps with
      | none => rw [hfl] at hb'; cases hb'
      | some r =>
        rw [hfl] at hb'
        have hr := flat_eq _ _ hb'
        subst hr
        have hfill := fillL_eq _ _ _ _ hfl
        have hzl' : zs.length = sz := by rw [← hzs, hzc]; simp
        have hsm' := Nat.le_of_ble_eq_true hsm
        have e : (xs.toArray.map fun (i, x) => (i, a.eval x)) = ps.toArray := by simp [evps_map ha xs ps hx]
        have hrun : (Instr.buildSlice t len ps.toArray).run P w = .ok (.slice (some ⟨w.heap.size, 0, none⟩) len len) (w.alloc (.cells (l.flatMap f).toArray E)) := by
          have h0 : ¬ (len * i.size > 2 ^ 24) := by rw [hsz]; omega
          have hcp := copies_arr z.cells zs hzc len
          rw [hzl'] at hcp
          subst hsz
          by_cases hlz : len * i.size = 0
          · have hlen0 : len = 0 := by
              have := hf.pos
              rcases Nat.eq_zero_or_pos len with h | h
              · exact h
              · have := Nat.mul_pos h this; omega
            subst hlen0
            simp only [copies] at hfill
            have he0 : (Array.map (fun _ => (default : Value)) (Array.range 0)) = #[] := by simp [Array.range]
            simp [Instr.buildSlice, run_underlying ht, sizeOf, typeInfo, hi, he0, hfill, newRow]
          · exact run_buildSlice w t E len ps.toArray _ i z ht hi hz h0 hlz (by rw [hcp]; exact hfill)
        unfold Oper.wp
        have hex : (execOp a.eval ⟨some d, .buildSlice t len xs.toArray, ty, pos, aft, none⟩).run P w = .ok (.value (.slice (some ⟨w.heap.size, 0, none⟩) len len)) (w.alloc (.cells (l.flatMap f).toArray E)) := by
          simp only [execOp, e, Sem.run_bind, hrun]
          rfl
        rw [hex]
        refine hK _ _ (h _ _ _ (ha.put hd) (hw.add rfl rfl rfl (by simp) (fun k hk => heap_alloc_old w _ hk) ⟨fun k => k = w.heap.size, .inr ⟨w.heap.size, 0, _, rfl, heap_alloc_new w _, by omega, ?_, ?_, fun j hj => ?_, fun _ => Iff.rfl⟩, fun k hk => by omega⟩))
        · have hpos := hf.pos
          have : len * 1 ≤ len * sz := Nat.mul_le_mul_left _ hpos
          simp only [maxLen]; omega
        · rw [List.size_toArray, hll, hl]; omega
        · rw [Nat.zero_add]; simp
end
end Go.J
