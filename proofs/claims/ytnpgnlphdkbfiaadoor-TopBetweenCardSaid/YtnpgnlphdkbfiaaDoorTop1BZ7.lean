/- Part 7 of what the law's proof needs: rules of the walk, contracts of functions, plain laws. No condition. -/
import Derived.Test.YtnpgnlphdkbfiaaDoorTop1BZ6
import Derived.Lib.LaidTab
import Derived.ProofKit
import Derived.OpenShut
import Derived.Below
import Derived.Carry
import Derived.Deep.Slices
import Derived.WideShapes
import Derived.Test.YtnpgnlphdkbfiaaDoorTie
import Derived.Test.YtnpgnlphdkbfiaaDoorCards
import Derived.LaidMore
import Derived.LaidSub
import Derived.MakeChecks
import Derived.Stop.Joined
import Derived.SevenTiedAt
import Derived.Lib.SliceRun
import Derived.Test.YtnpgnlphdkbfiaaDoorRows
/- What one owns may be made to stay: for a call's argument, and for what comes back. -/
set_option linter.unusedSimpArgs false
set_option linter.unusedVariables false
set_option linter.unusedSectionVars false
set_option maxRecDepth 20000
namespace Go.J
open Go
section
variable {P : Program} {m : Mem} {Rs : List Res} {α : Type} [Inhabited α] {f : α → List Value} {sz : Nat}
theorem HW.freeze {w0 w : World} {E : TypeId} {p : Option Addr} {c : Nat} {l : List α} (hf : Fl f sz) (hw : HW w0 m (.own f sz E p c l :: Rs) w) : ∃ m', m.le m' ∧ Sl m' f sz p c l ∧ HW w0 m' Rs w := by
  have k := At.own_freeze (n := 0) (w0 := w0) (F := []) (m := m) (Rs := .own f sz E p c l :: Rs) (K := fun _ w => ∃ m', m.le m' ∧ Sl m' f sz p c l ∧ HW w0 m' Rs w) hf pk0
    (fun m' hm' sl => by
      unfold At
      intro a w1 _ hw1
      exact ⟨m', hm', sl, hw1⟩)
  unfold At at k
  exact k ⟨#[], []⟩ w ⟨rfl, rfl, fun _ _ h => by cases h⟩ hw
theorem Ct.freezeG {g : FuncId} {args : Array Value} {E : TypeId} {p : Option Addr} {c : Nat} {l : List α} {R : Value → Mem → List Res → Prop} (hf : Fl f sz) (h : ∀ m', m.le m' → Sl m' f sz p c l → Ct P g args m' Rs R) :
    Ct P g args m (.own f sz E p c l :: Rs) R := by
  unfold Ct at h ⊢
  intro w0 Rest w hw
  obtain ⟨m', hm', sl, hw'⟩ := HW.freeze hf hw
  exact (h m' hm' sl w0 Rest w hw').mono fun _ _ ⟨v, m2, B, h1, h2, h3, h4⟩ => ⟨v, m2, B, h1, Mem.le_trans hm' h2, h3, h4⟩
theorem Ct.slice {g : FuncId} {args : Array Value} {A B0 : List Res} {E : TypeId} {l : List α} {R : Value → Option Addr → Nat → Prop} (hf : Fl f sz) (h : Ct P g args m A (fun v m' B => ∃ p c, R v p c ∧ B = .own f sz E p c l :: B0)) :
    Ct P g args m A (fun v m' B => B = B0 ∧ ∃ p c, R v p c ∧ Sl m' f sz p c l) := by
  unfold Ct at h ⊢
  intro w0 Rest w hw
  refine (h w0 Rest w hw).mono fun _ _ ⟨v, m2, B, h1, h2, ⟨p, c, h3, hB⟩, h4⟩ => ?_
  subst hB
  obtain ⟨m3, hm3, sl, hw3⟩ := HW.freeze hf h4
  exact ⟨v, m3, B0, h1, Mem.le_trans h2 hm3, ⟨rfl, p, c, h3, sl⟩, hw3⟩
/-- a slice's literal, that stays -/
theorem At.litF {n : Nat} {w0 : World} {F : Fr} {Q : Exit → Act → World → Prop} {ops : Array Oper} {rest : List Oper} {d : Nat} {t E : TypeId} {len : Nat} {xs : List (Nat × Operand)} {ps : List (Nat × Value)} {ty : TypeId} {pos : String} {aft : Array Edge}
    (f : α → List Value) (l : List α) (hf : Fl f sz) (ht : P.underlying t = some (.slice E)) (he : elemB P E sz = true) (hx : evps F xs = some ps) (hsm : Nat.ble (len * sz) 16777216 = true) (hl : l.length = len)
    (hb : litL P E sz len ps = flat (l.flatMap f)) (hd : Nat.blt d n = true)
    (h : ∀ b m', m.le m' → Sl m' f sz (some ⟨b, 0, none⟩) len l → At n w0 ((d, .slice (some ⟨b, 0, none⟩) len len) :: F) m' Rs (wpList P ops Q rest)) :
    At n w0 F m Rs (wpList P ops Q (⟨some d, .buildSlice t len xs.toArray, ty, pos, aft, none⟩ :: rest)) :=
  At.lit f l hf ht he hx hsm hl hb hd (fun b => At.own_freeze hf pk0 fun m' hm' sl => h b m' hm' sl)
end
end Go.J
/- A number's text, as both say it. -/
set_option linter.unusedSimpArgs false
set_option linter.unusedVariables false
set_option linter.unusedSectionVars false
set_option maxRecDepth 20000
set_option maxHeartbeats 4000000
namespace Go.Proofs.YtnpgnlphdkbfiaaDoor
open Go Go.J
attribute [local irreducible] At AtQ AtM AtM1 PR Ct Pu Rd Res.blk Res.own Res.ex RVs RV
namespace Wide
/-- the library's table lies in what stays -/
def Tab (m : Mem) : Prop := ∀ w : World, (∀ k o, m k = some o → w.heap[k]? = some o) → Lib.TabIs Tryd.prog w (Tryd.prog.globals[2]!).name .u64 Lib.pow10Tab
theorem Tab.mono {m m' : Mem} (h : Tab m) (hm : m.le m') : Tab m' := fun w hw => h w fun k o hk => hw k o (hm k o hk)
theorem flat_byt (l : List UInt8) : (l.map bI).flatMap fb = Lib.byteCells l := by
  unfold Lib.byteCells
  rw [List.flatMap_map]
  induction l with
  | nil => rfl
  | cons a l ih => simp only [List.flatMap_cons, List.map_cons, ih]; rfl
theorem append_i {m : Mem} (ht : Tab m) (u : Nat) (hu : u < 18446744073709551616) :
    Ct Tryd.prog 26 #[.slice none 0 0, .int .u64 (u : Int), .int .i64 10] m [] (fun v m' B => B = [] ∧ ∃ p c, v = .slice p ((dd u).map bI).length c ∧ Sl m' fb 1 p c ((dd u).map bI)) := by
  have h : Ct Tryd.prog 26 #[.slice none 0 0, .int .u64 (u : Int), .int .i64 10] m [] (fun v m' B => ∃ p c, v = .slice p ((dd u).map bI).length c ∧ m = m' ∧ B = [.own fb 1 5 p c ((dd u).map bI)]) :=
    Ct.of_row inferInstance fun w hw => (Any.internal_strconv_AppendUint_10 laysmn288 w.heap.size 0 u hu (.slice none 0 0) [] w (World.ownsRow_nil _ _ _ _) (Nat.le_refl _) (by decide) (ht w hw)).mono fun e w' ⟨v', he, hown, hb, _⟩ => ⟨v', he, by
      rw [Nat.zero_add, List.nil_append] at hown
      rw [flat_byt, List.length_map]
      exact hown, hb⟩
  exact Ct.slice inferInstance (h.mono fun v m' B _ ⟨p, c, h1, _, h3⟩ => ⟨p, c, h1, h3⟩)
theorem append_u {m : Mem} (ht : Tab m) (u : Nat) (hu : u < 18446744073709551616) :
    Ct Tryd.prog 18 #[.slice none 0 0, .int .u64 (u : Int), .int .i64 10] m [] (fun v m' B => B = [] ∧ ∃ p c, v = .slice p ((dd u).map bI).length c ∧ Sl m' fb 1 p c ((dd u).map bI)) := by
  refine Ct.enterV (by rfl) Tryd.func18 rfl Tryd.ntmps18 rfl (fun w0 Rest => ?_)
  (repeat' (first | refine zss ?_ | ((first | (with_reducible first | apply At.val | apply AtQ.val)); (exact zprA); exact rfl) | refine zsM ?_ | ((with_reducible first | apply At.c1 | apply At.c0); exact rfl; exact rfl; exact append_i ht u hu; exact ztk; kernel_rfl; rintro v' m' B' hm' ⟨rfl, p2, c2, rfl, sl1⟩; (try replace sl1 := sl1.mono hm'); (try (have hq0 : hm' = Mem.le_refl _ := rfl; clear hq0 hm'))) | (refine zsp ?_ ?_ <;> (intro hc; (try simp only [zhcs, reduceCtorEq] at hc); (try (exfalso; first | contradiction | omega | exact absurd rfl hc | exact absurd (by decide) hc))))))
  all_goals ((with_reducible apply At.retB1 (B := [])); exact rfl; exact rfl; exact zml; exact zkp; exact ⟨rfl, p2, c2, rfl, sl1⟩)
theorem text_ (x : Nat) : x < 340282366920938463463374607431768211456 → ∀ {m : Mem}, Tab m → Rd Tryd.prog 9 #[wv x] m [] (.string (str (dd x))) := by
  induction x using Nat.strongRecOn with
  | _ x ih =>
    intro hx m ht
    have hdl : ∀ u, u < 340282366920938463463374607431768211456 → (dd u).length ≤ 39 := fun u hu => dd_len_le 39 u (by decide) (Nat.lt_trans hu (by decide))
    unfold Rd
    by_cases h : x < 18446744073709551616
    · have k := append_u ht x h
      have hw : wv x = .agg #[.int .u64 0, .int .u64 (x : Int)] := (wd_small h).symm
      rw [hw]
      refine Ct.forget (R := fun v m' B => v = .string (str (dd x)) ∧ B = []) ?_ (fun v m' B hm hr => ⟨hr.1, rfl, hr.2⟩)
      refine Ct.enterV (by rfl) Tryd.func9 rfl Tryd.ntmps9 rfl (fun w0 Rest => ?_)
      (repeat' (first | refine zss ?_ | ((first | (with_reducible first | apply At.val | apply AtQ.val)); (exact zprA); exact rfl) | refine zsM ?_ | ((with_reducible first | apply At.c1 | apply At.c0); exact rfl; exact rfl; exact k; exact ztk; kernel_rfl; rintro v' m' B' hm' ⟨rfl, p2, c2, rfl, sl1⟩; (try replace sl1 := sl1.mono hm'); (try (have hq0 : hm' = Mem.le_refl _ := rfl; clear hq0 hm'))) | ((with_reducible apply At.box (d := 1)); exact rfl; exact rfl; exact rfl; intro b1) | ((with_reducible apply At.alloc (d := 3)); exact rfl; exact rfl; intro b3) | (refine zsp ?_ ?_ <;> (intro hc; (try simp only [zhcs, reduceCtorEq] at hc); (try (exfalso; first | omega | contradiction | omega | exact absurd rfl hc | exact absurd (by decide) hc))))))
      all_goals ((with_reducible apply At.retB1 (B := [])); exact rfl; exact rfl; exact zml; exact zkp; exact ⟨by rw [u8_map], rfl⟩)
    · obtain ⟨e, hl⟩ := dd_text x (by omega)
      have kd : Pu Tryd.prog 11 #[wv x, .int .u64 1000000000000000000] (.tuple #[wv (x / 1000000000000000000), .int .u64 ((x % 1000000000000000000 : Nat) : Int), .int .i64 0]) := div x 1000000000000000000 hx (by decide) (by decide)
      have hf : x / 1000000000000000000 < x := by omega
      have hfb : x / 1000000000000000000 < 340282366920938463463374607431768211456 := by omega
      have i := fun {m' : Mem} (hm : m.le m') => ih _ hf hfb (ht.mono hm)
      have hfl := hdl _ hfb
      obtain ⟨r, hr⟩ : ∃ r, r = x % 1000000000000000000 := ⟨_, rfl⟩
      have hrl : r < 1000000000000000000 := by omega
      have ha : IntKind.wrap .u64 (1000000000000000000 + (r : Int)) = ((1000000000000000000 + r : Nat) : Int) := by rw [IntKind.wrap_u64]; omega
      rw [← hr] at e hl kd
      have k := fun {m' : Mem} (hm : m.le m') => append_u (ht.mono hm) (1000000000000000000 + r) (by omega)
      rw [hl, show 19 - 18 = 1 from rfl] at e
      have hL : ((dd (1000000000000000000 + r)).map bI).length = 19 := by rw [List.length_map, hl]
      have hu : (((dd (1000000000000000000 + r)).map bI).drop 1).map u8 = (dd (1000000000000000000 + r)).drop 1 := by rw [← List.map_drop, u8_map]
      rw [← hu] at e
      rw [e]
      generalize (dd (1000000000000000000 + r)).map bI = L at k hL e
      generalize x / 1000000000000000000 = q at *
      have hs : IntKind.wrap .i64 (((L.length : Nat) : Int) - 18) = ((1 : Nat) : Int) := by rw [hL]; rfl
      have hadd : (dd q).length + ((L.drop 1).map u8).length ≤ 9223372036854775807 := by rw [List.length_map, List.length_drop]; omega
      refine Ct.forget (R := fun v m' B => v = .string (str (dd q ++ (L.drop 1).map u8)) ∧ B = []) ?_ (fun v m' B hm hr => ⟨hr.1, rfl, hr.2⟩)
      clear e hr hf hfb hrl hu hdl ih
      refine Ct.enterV (by rfl) Tryd.func9 rfl Tryd.ntmps9 rfl (fun w0 Rest => ?_)
      (repeat' (first | refine zss ?_ | ((first | (with_reducible first | apply At.val | apply AtQ.val)); (first | exact pr_add (by rfl) (by rfl) ha | exact pr_sub (by rfl) (by rfl) hs | exact pr_stradd (by rfl) (by rfl) hadd | exact pr_bytes_str (l := L.drop 1) (by rfl) (by rfl) (by rfl) (by rfl) (Rdb.subl (Sl.rdb sl1) 1 (by omega)) (by rw [List.length_drop]) | exact zprA); exact rfl) | refine zsM ?_ | ((with_reducible first | apply AtM1.callp | apply AtQ.callp | apply At.callp); kernel_rfl; exact rfl; exact rfl; exact kd) | ((with_reducible first | apply At.c1 | apply At.c0); exact rfl; exact rfl; exact k zml; exact ztk; kernel_rfl; rintro v' m' B' hm' ⟨rfl, p2, c2, rfl, sl1⟩; (try replace sl1 := sl1.mono hm'); (try (have hq0 : hm' = Mem.le_refl _ := rfl; clear hq0 hm'))) | ((with_reducible first | apply AtM1.cr | apply AtQ.cr | apply At.cr); exact rfl; exact rfl; exact fun _ hmm => i zml; exact ztk; kernel_rfl) | fail | ((with_reducible apply At.box (d := 1)); exact rfl; exact rfl; exact rfl; intro b1) | ((with_reducible apply At.alloc (d := 3)); exact rfl; exact rfl; intro b3) | (refine zsp ?_ ?_ <;> (intro hc; (try simp only [zhcs, reduceCtorEq] at hc); (try (exfalso; first | omega | contradiction | omega | exact absurd rfl hc | exact absurd (by decide) hc))))))
      all_goals ((with_reducible apply At.retB1 (B := [])); exact rfl; exact rfl; exact zml; exact zkp; exact ⟨rfl, rfl⟩)
end Wide
end Go.Proofs.YtnpgnlphdkbfiaaDoor
/- Ratios: Text. -/
set_option linter.unusedSimpArgs false
set_option linter.unusedVariables false
set_option linter.unusedSectionVars false
set_option maxRecDepth 20000
set_option maxHeartbeats 4000000
namespace Go.Proofs.YtnpgnlphdkbfiaaDoor
open Go Go.J
attribute [local irreducible] At AtQ AtM AtM1 PR Ct Pu Rd Res.blk Res.own Res.ex RVs RV
namespace Ra
open Wide
end Ra
end Go.Proofs.YtnpgnlphdkbfiaaDoor
/- From a contract to a law's row: what a law's call leaves of memory. -/
set_option linter.unusedSimpArgs false
set_option linter.unusedVariables false
set_option linter.unusedSectionVars false
set_option maxRecDepth 20000
namespace Go.J
open Go Go.ChangeShapes Go.WideShapes Go.ChangeAt Go.RowKit

def memOf (W : World) : Mem := fun k => W.heap[k]?

theorem HW.init (W : World) : HW W (memOf W) [] W :=
  ⟨rfl, rfl, rfl, Nat.le_refl _, fun _ _ h => h, fun _ => False, fun _ h => h, fun _ h => h.elim⟩

theorem HW.below {W w' : World} {m' : Mem} {Rs : List Res} (h : HW W m' Rs w') (hm : (memOf W).le m') : Below W.heap.size W w' :=
  ⟨h.os, h.tape, h.output, h.size, fun k hk => by
    have hk' : W.heap[k]? = some W.heap[k] := Array.getElem?_eq_getElem hk
    rw [hk']
    exact h.mem k _ (hm k _ hk')⟩

theorem law_calls {P : Program} {f : FuncId} {args : Array Value} {W : World} (h : Ct P f args (memOf W) [] (fun v _ _ => v = .bool true)) :
    Calls P f args W fun e W' => e = .returned (.bool true) ∧ Below W.heap.size W W' :=
  (h W [] W (HW.init W)).mono fun _ _ ⟨_, _, _, he, hm, hv, hw⟩ => ⟨by rw [he, hv], hw.below hm⟩

theorem law_calls_pu {P : Program} {f : FuncId} {args : Array Value} {W : World} (h : Pu P f args (.bool true)) :
    Calls P f args W fun e W' => e = .returned (.bool true) ∧ Below W.heap.size W W' :=
  law_calls ((h (memOf W)).mono fun _ _ _ _ ⟨hv, _, _⟩ => hv)

/-- the arguments read as they did -/
theorem trodAll_below {H : Type} {enc : TypeId × Value → H} {P : Program} (hl : laidOutB P = true) {W W' : World} (hb : Below W.heap.size W W') :
    ∀ (ts : List TypeId) (vs : List Value) (ds : List (DataW H)) (ps : List MemPlace), (ts.all fun t => P.readableRec t && decide (t < P.types.size)) = true →
      DataW.TrodAll enc P W 0 (fun _ => true) true ts vs ds ps → (∀ x ∈ ps, x.block < W.heap.size) → DataW.TrodAll enc P W' 0 (fun b => decide (b < W.heap.size)) true ts vs ds ps
  | [], vs, ds, ps, _, h, _ => by
    obtain ⟨rfl, rfl, rfl⟩ := trodAll_nil h
    exact trodAll_mk0
  | t :: ts, vs, ds, ps, hr, h, hlt => by
    obtain ⟨v, vs', d, ds', p, q, rfl, rfl, rfl, h0, h1⟩ := trodAll_cons h
    simp only [List.all_cons, Bool.and_eq_true, decide_eq_true_eq] at hr
    exact trodAll_cons_mk (Below.trod hl hr.1.1 hr.1.2 h0 hb (fun x hx => hlt x (by simp [hx]))) (trodAll_below hl hb ts vs' ds' q hr.2 h1 (fun x hx => hlt x (by simp [hx])))

end Go.J
/- A law's slices: opened into lists. -/
set_option linter.unusedSimpArgs false
set_option linter.unusedVariables false
set_option linter.unusedSectionVars false
set_option maxRecDepth 20000
namespace Go.J
open Go Go.ChangeShapes Go.WideShapes Go.ChangeAt Go.RowKit

theorem cell_cells {w : World} {a : Addr} {v : Value} (h : w.cell? a = some v) : a.spot = none ∧ ∃ E cs fz, w.heap[a.block]? = some (.cells cs E fz) ∧ cs[a.off]? = some v := by
  unfold World.cell? at h
  cases hb : w.heap[a.block]? with
  | none => rw [hb] at h; cases h
  | some o =>
    rw [hb] at h
    cases o <;> simp at h
    rename_i cs E fz
    exact ⟨by
      cases hs : a.spot with
      | none => rfl
      | some x => rw [hs] at h; simp at h, E, cs, fz, rfl, h.2⟩

theorem open_sl {α : Type} [Inhabited α] {f : α → List Value} {sz : Nat} (hf : Fl f sz) (φ : α → Prop) {H : Type} {enc : TypeId × Value → H} {P : Program} {W : World} {t e : TypeId} {fuel : Nat} {cs : List Value} {x : DataW H × List MemPlace}
    (ht : P.underlying t = some (.slice e)) (hc : P.cellsOf e = sz)
    (hdec : ∀ n cs' y, cs'.length = sz → DataW.trod enc P W 0 (fun _ => true) true n e cs' = some y → ∃ a, cs' = f a ∧ φ a)
    (h : DataW.trod enc P W 0 (fun _ => true) true fuel t cs = some x) : ∃ p c l, cs = [.slice p l.length c] ∧ Sl (memOf W) f sz p c l ∧ ∀ a ∈ l, φ a := by
  rcases Go.Deep.open_slice ht h with ⟨rfl, _⟩ | ⟨a, len, cap, m, n, D, Pl, rfl, _, hl, hm, hmm, _, hx⟩
  · exact ⟨none, 0, [], rfl, Sl.empty _ hf, fun a ha => by cases ha⟩
  · simp only [if_true] at hmm
    subst hmm
    obtain ⟨A, hA⟩ := Go.Deep.choose_lt (α := α) (n := m) (p := fun i y => W.cells? 0 (a.add (i * sz)) sz = some (f y) ∧ φ y) (fun i hi => by
      obtain ⟨cs', h1, h2⟩ := hx i hi
      rw [hc] at h1
      obtain ⟨_, hlen, _⟩ := World.cells?_some h1
      obtain ⟨y, rfl, hy⟩ := hdec n cs' _ hlen h2
      exact ⟨y, h1, hy⟩)
    have hll : ((List.range len).map A).length = len := by simp
    refine ⟨some a, m, (List.range len).map A, by rw [hll], ⟨hf, by rw [hll]; exact hl, hm, (fun e => by cases e), fun a' ha' hpos => ?_⟩, fun y hy => ?_⟩
    · cases ha'
      have hsz := hf.pos
      have hcell : ∀ i j, i < m → j < sz → W.cell? ((a.add (i * sz)).add j) = (f (A i))[j]? := fun i j hi hj => (World.cells?_some (hA i hi).1).2.2 j hj
      have hlen : ∀ i j, j < sz → ∃ v, (f (A i))[j]? = some v := fun i j hj => ⟨(f (A i))[j]'(by rw [hf.len]; exact hj), List.getElem?_eq_getElem _⟩
      obtain ⟨v0, hv0⟩ := hlen 0 0 hsz
      have h00 := hcell 0 0 hpos hsz
      rw [hv0] at h00
      have e0 : (a.add (0 * sz)).add 0 = a := by simp [Addr.add]
      rw [e0] at h00
      obtain ⟨hspot, E, cs, fz, hb, _⟩ := cell_cells h00
      have ea : ∀ k, a.add k = ⟨a.block, a.off + k, none⟩ := fun k => by cases a; simp only at hspot; subst hspot; exact Addr.add_eq _ _ _
      have hcell' : ∀ i j, i < m → j < sz → cs[a.off + (i * sz + j)]? = (f (A i))[j]? := fun i j hi hj => by
        have := hcell i j hi hj
        rw [ea, Addr.add_eq, World.cell_of hb] at this
        rw [← this, Nat.add_assoc]
      refine ⟨hspot, E, cs, fz, hb, ?_, fun i j hi hj => ?_⟩
      · obtain ⟨v, hv⟩ := hlen (m - 1) (sz - 1) (by omega)
        have h1 := hcell' (m - 1) (sz - 1) (by omega) (by omega)
        rw [hv] at h1
        have h2 := (Array.getElem?_eq_some_iff.1 h1).1
        have h3 : (m - 1) * sz + sz = m * sz := by
          have := Nat.succ_mul (m - 1) sz
          rw [show (m - 1).succ = m by omega] at this; omega
        omega
      · rw [hll] at hi
        rw [hcell' i j (by omega) hj]
        congr 2
        rw [List.getElem!_eq_getElem?_getD]; simp [hi]
    · obtain ⟨i, hi, rfl⟩ := List.mem_map.1 hy
      exact (hA i (by have := List.mem_range.1 hi; omega)).2

/-- a law's argument that is a slice -/
theorem open_sl_arg {α : Type} [Inhabited α] {f : α → List Value} {sz : Nat} (hf : Fl f sz) (φ : α → Prop) {H : Type} {enc : TypeId × Value → H} {P : Program} {W : World} {t e : TypeId} {v : Value} {d : DataW H} {ps : List MemPlace}
    (ht : P.underlying t = some (.slice e)) (hc : P.cellsOf e = sz)
    (hdec : ∀ n cs' y, cs'.length = sz → DataW.trod enc P W 0 (fun _ => true) true n e cs' = some y → ∃ a, cs' = f a ∧ φ a)
    (hsl : ∃ p l c, v = .slice p l c) (h : DataW.Trod enc P W 0 (fun _ => true) true t v d ps) : ∃ p c l, v = .slice p l.length c ∧ Sl (memOf W) f sz p c l ∧ ∀ a ∈ l, φ a := by
  obtain ⟨fuel, hfl⟩ := h
  obtain ⟨p0, l0, c0, rfl⟩ := hsl
  obtain ⟨p, c, l, h1, h2⟩ := open_sl hf φ ht hc hdec hfl
  refine ⟨p, c, l, ?_, h2⟩
  simpa [Value.cells] using h1

theorem dec_int {H : Type} {enc : TypeId × Value → H} {P : Program} {W : World} {e : TypeId} {k : IntKind} (he : P.underlying e = some (.int k)) : ∀ n cs' y, cs'.length = 1 → DataW.trod enc P W 0 (fun _ => true) true n e cs' = some y → ∃ a : Int, cs' = [.int k a] ∧ (Lit.int k a).wf = true := fun n cs' y _ h => by
  obtain ⟨a, h1, _, h3⟩ := DataW.trod_int he h
  exact ⟨a, h1, h3⟩
end Go.J
/- A law's arguments of any plain make: structs of whole numbers, truth values, texts, and slices, opened into their cells. -/
set_option linter.unusedSimpArgs false
set_option linter.unusedVariables false
set_option linter.unusedSectionVars false
set_option maxRecDepth 20000
namespace Go.J
open Go Go.ChangeShapes Go.WideShapes Go.ChangeAt Go.RowKit

inductive LK
  | int (k : IntKind)
  | bool
  | str
  | sl (t : TypeId)

section
variable {H : Type} {enc : TypeId × Value → H} {P : Program} {W : World}

def Fit1 (enc : TypeId × Value → H) (P : Program) (W : World) : LK → Value → Prop
  | .int k, v => ∃ a, v = .int k a ∧ (Lit.int k a).wf = true
  | .bool, v => ∃ b, v = .bool b
  | .str, v => ∃ l, v = .string (str l) ∧ l.length ≤ maxLen
  | .sl t, v => ∃ n y, DataW.trod enc P W 0 (fun _ => true) true n t [v] = some y
def Fit (enc : TypeId × Value → H) (P : Program) (W : World) : List LK → List Value → Prop
  | [], [] => True
  | k :: ks, v :: vs => Fit1 enc P W k v ∧ Fit enc P W ks vs
  | _, _ => False
theorem Fit.append : ∀ {a b : List LK} {x y : List Value}, Fit enc P W a x → Fit enc P W b y → Fit enc P W (a ++ b) (x ++ y)
  | [], _, [], _, _, h => h
  | _ :: _, _, _ :: _, _, ⟨h1, h2⟩, h => ⟨h1, Fit.append h2 h⟩
  | [], _, _ :: _, _, h, _ => h.elim
  | _ :: _, _, [], _, h, _ => h.elim

theorem Fit.cons {k : LK} {ks : List LK} {cs : List Value} (h : Fit enc P W (k :: ks) cs) : ∃ v vs, cs = v :: vs ∧ Fit1 enc P W k v ∧ Fit enc P W ks vs := by
  cases cs with
  | nil => exact h.elim
  | cons v vs => exact ⟨v, vs, rfl, h.1, h.2⟩
theorem Fit.nil {cs : List Value} (h : Fit enc P W [] cs) : cs = [] := by
  cases cs with
  | nil => rfl
  | cons v vs => exact h.elim
theorem Fit1.int {k : IntKind} {v : Value} (h : Fit1 enc P W (.int k) v) : ∃ a, v = .int k a ∧ (Lit.int k a).wf = true := h
theorem Fit1.bool {v : Value} (h : Fit1 enc P W .bool v) : ∃ b, v = .bool b := h
theorem Fit1.str {v : Value} (h : Fit1 enc P W .str v) : ∃ l, v = .string (J.str l) ∧ l.length ≤ maxLen := h

def leavesF (P : Program) (rec : TypeId → Option (List LK)) (total : Nat) : Nat → List Field → Option (List LK)
  | off, [] => match Nat.beq off total with
    | true => some []
    | false => none
  | off, f :: fs => match Nat.beq f.offset off with
    | true => match rec f.type with
      | some a => match leavesF P rec total (off + P.cellsOf f.type) fs with
        | some b => some (a ++ b)
        | none => none
      | none => none
    | false => none
def leavesB (P : Program) : Nat → TypeId → Option (List LK)
  | 0, _ => none
  | d + 1, t => match P.underlying t with
    | some (.int k) => some [.int k]
    | some .bool => some [.bool]
    | some .string => some [.str]
    | some (.slice _) => some [.sl t]
    | some (.struct fs) => leavesF P (leavesB P d) (P.cellsOf t) 0 fs.toList
    | some (.array n e) => match leavesB P d e with
      | some a => match Nat.beq (P.cellsOf t) (n * P.cellsOf e) with
        | true => some (List.replicate n a).flatten
        | false => none
      | none => none
    | _ => none

theorem trod_bool' {t : TypeId} {n : Nat} {cs : List Value} {x : DataW H × List MemPlace} (ht : P.underlying t = some .bool) (h : DataW.trod enc P W 0 (fun _ => true) true n t cs = some x) : ∃ b, cs = [.bool b] := by
  cases n with
  | zero => simp [DataW.trod] at h
  | succ n =>
    unfold DataW.trod at h
    rw [ht] at h
    split at h <;> simp_all

theorem trod_fit : ∀ (d n : Nat) (t : TypeId) (cs : List Value) (x : DataW H × List MemPlace) (ks : List LK), leavesB P d t = some ks → DataW.trod enc P W 0 (fun _ => true) true n t cs = some x → Fit enc P W ks cs
  | 0, _, _, _, _, _, h, _ => by cases h
  | d + 1, n, t, cs, x, ks, h, hx => by
    have ih := trod_fit d
    unfold leavesB at h
    cases hu : P.underlying t with
    | none => rw [hu] at h; cases h
    | some u =>
      rw [hu] at h
      cases u <;> simp only at h <;> try (cases h; done)
      case int k =>
        cases h
        obtain ⟨a, rfl, _, h3⟩ := DataW.trod_int hu hx
        exact ⟨⟨a, rfl, h3⟩, trivial⟩
      case bool =>
        cases h
        obtain ⟨b, rfl⟩ := trod_bool' hu hx
        exact ⟨⟨b, rfl⟩, trivial⟩
      case string =>
        cases h
        obtain ⟨s, rfl, _, h3⟩ := DataW.trod_string hu hx
        obtain ⟨l, rfl⟩ := str_of s
        exact ⟨⟨l, rfl, by rw [str_size] at h3; exact h3⟩, trivial⟩
      case slice e =>
        cases h
        have : ∃ v, cs = [v] := by
          rcases DataW.trod_slice hu hx with ⟨rfl, _⟩ | ⟨a, len, cap, _, _, _, _, rfl, _⟩
          · exact ⟨_, rfl⟩
          · exact ⟨_, rfl⟩
        obtain ⟨v, rfl⟩ := this
        exact ⟨⟨n, x, hx⟩, trivial⟩
      case array k e =>
        cases h1 : leavesB P d e with
        | none => rw [h1] at h; cases h
        | some a =>
          rw [h1] at h
          simp only at h
          cases hb : Nat.beq (P.cellsOf t) (k * P.cellsOf e) with
          | false => rw [hb] at h; cases h
          | true =>
            rw [hb] at h
            cases h
            have hl0 := Nat.eq_of_beq_eq_true hb
            obtain ⟨xs, m, _, _, hlen, hxl, hf⟩ := DataW.trod_array hu hx
            have key : ∀ i, i ≤ k → Fit enc P W ((List.replicate i a).flatten) (cs.drop ((k - i) * P.cellsOf e)) := by
              intro i
              induction i with
              | zero =>
                intro _
                rw [List.drop_eq_nil_of_le (by rw [hlen, hl0, Nat.sub_zero]; exact Nat.le_refl _)]
                trivial
              | succ i ih2 =>
                intro hi
                have e1 := hf (k - (i + 1)) (by omega)
                have hj : k - (i + 1) < xs.length := by omega
                rw [List.getElem?_eq_getElem hj] at e1
                have g1 := ih m e _ _ a h1 e1
                have g2 := ih2 (by omega)
                have e2 : (k - (i + 1)) * P.cellsOf e + P.cellsOf e = (k - i) * P.cellsOf e := by rw [← Nat.succ_mul]; congr 1; omega
                rw [List.replicate_succ, List.flatten_cons, show cs.drop ((k - (i + 1)) * P.cellsOf e) = (cs.drop ((k - (i + 1)) * P.cellsOf e)).take (P.cellsOf e) ++ cs.drop ((k - i) * P.cellsOf e) by
                  rw [← e2, ← List.drop_drop, List.take_append_drop]]
                exact Fit.append g1 g2
            have := key k (Nat.le_refl _)
            simpa using this
      case struct fs =>
        obtain ⟨xs, n', _, _, hlen, hxs, hf⟩ := DataW.trod_struct hu hx
        have hf' : ∀ f ∈ fs.toList, ∃ y, DataW.trod enc P W 0 (fun _ => true) true n' f.type ((cs.drop f.offset).take (P.cellsOf f.type)) = some y := fun f hm => by
          obtain ⟨i, hi, he⟩ := List.mem_iff_getElem.1 hm
          have hi' : i < fs.size := by simpa using hi
          have h1 : fs[i]? = some f := by
            rw [Array.getElem?_eq_getElem hi']
            congr 1
          exact ⟨xs[i], by rw [hf i f h1, List.getElem?_eq_getElem]⟩
        have key : ∀ (l : List Field) (off : Nat) (ks : List LK), (∀ f ∈ l, ∃ y, DataW.trod enc P W 0 (fun _ => true) true n' f.type ((cs.drop f.offset).take (P.cellsOf f.type)) = some y) →
            leavesF P (leavesB P d) (P.cellsOf t) off l = some ks → Fit enc P W ks (cs.drop off) := by
          intro l
          induction l with
          | nil =>
            intro off ks _ h
            unfold leavesF at h
            cases hb : Nat.beq off (P.cellsOf t) with
            | false => rw [hb] at h; cases h
            | true =>
              rw [hb] at h
              cases h
              have := Nat.eq_of_beq_eq_true hb
              rw [List.drop_eq_nil_of_le (by omega)]
              trivial
          | cons f l ihl =>
            intro off ks hl h
            unfold leavesF at h
            cases hb : Nat.beq f.offset off with
            | false => rw [hb] at h; cases h
            | true =>
              rw [hb] at h
              simp only at h
              have hoff := Nat.eq_of_beq_eq_true hb
              cases h1 : leavesB P d f.type with
              | none => rw [h1] at h; cases h
              | some a =>
                rw [h1] at h
                simp only at h
                cases h2 : leavesF P (leavesB P d) (P.cellsOf t) (off + P.cellsOf f.type) l with
                | none => rw [h2] at h; cases h
                | some b =>
                  rw [h2] at h
                  cases h
                  obtain ⟨y, hy⟩ := hl f (List.mem_cons_self ..)
                  rw [hoff] at hy
                  have g1 := ih n' f.type _ y a h1 hy
                  have g2 := ihl (off + P.cellsOf f.type) b (fun g hg => hl g (List.mem_cons_of_mem _ hg)) h2
                  rw [show cs.drop off = (cs.drop off).take (P.cellsOf f.type) ++ cs.drop (off + P.cellsOf f.type) by
                    rw [← List.drop_drop, List.take_append_drop]]
                  exact Fit.append g1 g2
        have := key fs.toList 0 ks hf' h
        simpa using this

/-- an element of a slice, by its leaves -/
theorem dec_flat {α : Type} {f : α → List Value} {φ : α → Prop} {e : TypeId} (ks : List LK) (hk : leavesB P 6 e = some ks) (h : ∀ cs, Fit enc P W ks cs → ∃ a, cs = f a ∧ φ a) :
    ∀ n cs' y, cs'.length = P.cellsOf e → DataW.trod enc P W 0 (fun _ => true) true n e cs' = some y → ∃ a, cs' = f a ∧ φ a := fun n cs' y _ hy =>
  h cs' (trod_fit 6 n e cs' y ks hk hy)
theorem dec_flat' {α : Type} {f : α → List Value} {φ : α → Prop} {e : TypeId} {sz : Nat} (ks : List LK) (hk : leavesB P 6 e = some ks) (h : ∀ cs, Fit enc P W ks cs → ∃ a, cs = f a ∧ φ a) :
    ∀ n cs' y, cs'.length = sz → DataW.trod enc P W 0 (fun _ => true) true n e cs' = some y → ∃ a, cs' = f a ∧ φ a := fun n cs' y _ hy =>
  h cs' (trod_fit 6 n e cs' y ks hk hy)
/-- an argument that is a struct -/
theorem open_flat_arg {α : Type} {f : α → List Value} {φ : α → Prop} {t : TypeId} {fs : Array Field} {base : Nat} {v : Value} {d : DataW H} {ps : List MemPlace} (ks : List LK) (ht : P.underlying t = some (.struct fs)) (hk : leavesB P 6 t = some ks)
    (h : ∀ cs, Fit enc P W ks cs → ∃ a, cs = f a ∧ φ a) {r : Reach} (hv : Value.okWide P W r base t v) (hx : DataW.Trod enc P W 0 (fun _ => true) true t v d ps) : ∃ a, v = .agg (f a).toArray ∧ φ a := by
  obtain ⟨cs, rfl, _⟩ := okWide_struct ht hv
  obtain ⟨fuel, hfl⟩ := hx
  obtain ⟨a, h1, h2⟩ := h _ (trod_fit 6 fuel t _ _ ks hk hfl)
  refine ⟨a, ?_, h2⟩
  have : cs.toList = f a := by simpa [Value.cells] using h1
  rw [← this]
/-- a slice that is part of something -/
theorem Fit1.sl {α : Type} [Inhabited α] {f : α → List Value} {sz : Nat} (hf : Fl f sz) (φ : α → Prop) {t e : TypeId} {v : Value} (ht : P.underlying t = some (.slice e)) (hc : P.cellsOf e = sz)
    (hdec : ∀ n cs' y, cs'.length = sz → DataW.trod enc P W 0 (fun _ => true) true n e cs' = some y → ∃ a, cs' = f a ∧ φ a) (h : Fit1 enc P W (.sl t) v) : ∃ p c l, v = .slice p l.length c ∧ Sl (memOf W) f sz p c l ∧ ∀ a ∈ l, φ a := by
  obtain ⟨n, y, hy⟩ := h
  obtain ⟨p, c, l, h1, h2⟩ := open_sl hf φ ht hc hdec hy
  exact ⟨p, c, l, by simpa using h1, h2⟩
end
end Go.J
/- Arguments that are numbers and fractions; what the library's tables read as. -/
set_option linter.unusedSimpArgs false
set_option linter.unusedVariables false
set_option linter.unusedSectionVars false
set_option maxRecDepth 20000
set_option maxHeartbeats 4000000
namespace Go.Proofs.YtnpgnlphdkbfiaaDoor
open Go Go.J
attribute [local irreducible] At AtQ AtM AtM1 PR Ct Pu Rd Res.blk Res.own Res.ex RVs RV
namespace Ra
open Wide
def In (x : Nat) : Prop := x < 340282366920938463463374607431768211456
def fd (p : Nat × Nat) : List Value := wd p.1 ++ wd p.2
def In2 (p : Nat × Nat) : Prop := In p.1 ∧ In p.2
theorem mk_wide {a b : Int} (wa : (Lit.int .u64 a).wf = true) (wb : (Lit.int .u64 b).wf = true) : ∃ x : Nat, [Value.int .u64 a, .int .u64 b] = wd x ∧ In x := by
  have ha := bounds_u64 wa
  have hb := bounds_u64 wb
  obtain ⟨x, hx⟩ : ∃ x : Nat, x = a.toNat * 18446744073709551616 + b.toNat := ⟨_, rfl⟩
  have e1 : ((x / 18446744073709551616 : Nat) : Int) = a := by omega
  have e2 : ((x % 18446744073709551616 : Nat) : Int) = b := by omega
  refine ⟨x, ?_, by unfold In; omega⟩
  unfold wd
  rw [e1, e2]
theorem dec_wide {H : Type} {enc : TypeId × Value → H} {P : Program} {W : World} : ∀ cs, Fit enc P W [.int .u64, .int .u64] cs → ∃ x : Nat, cs = wd x ∧ In x := by
  intro cs h
  obtain ⟨_, _, rfl, h1, h⟩ := h.cons
  obtain ⟨_, _, rfl, h2, h⟩ := h.cons
  obtain rfl := h.nil
  obtain ⟨a, rfl, wa⟩ := h1.int
  obtain ⟨b, rfl, wb⟩ := h2.int
  exact mk_wide wa wb
theorem dec_frac {H : Type} {enc : TypeId × Value → H} {P : Program} {W : World} : ∀ cs, Fit enc P W [.int .u64, .int .u64, .int .u64, .int .u64] cs → ∃ p : Nat × Nat, cs = fd p ∧ In2 p := by
  intro cs h
  obtain ⟨_, _, rfl, h1, h⟩ := h.cons
  obtain ⟨_, _, rfl, h2, h⟩ := h.cons
  obtain ⟨_, _, rfl, h3, h⟩ := h.cons
  obtain ⟨_, _, rfl, h4, h⟩ := h.cons
  obtain rfl := h.nil
  obtain ⟨a, rfl, wa⟩ := h1.int
  obtain ⟨b, rfl, wb⟩ := h2.int
  obtain ⟨c, rfl, wc⟩ := h3.int
  obtain ⟨d, rfl, wd'⟩ := h4.int
  obtain ⟨x, ex, hx⟩ := mk_wide wa wb
  obtain ⟨y, ey, hy⟩ := mk_wide wc wd'
  refine ⟨(x, y), ?_, hx, hy⟩
  unfold fd
  rw [← ex, ← ey]
  rfl
/-- what a variable reads as stays as memory grows -/
theorem var_up {W w : World} {name : String} {cs : Array Value} {g : Nat} (hg : Tryd.prog.globalNamed name = some g) (t : W.var? Tryd.prog name = some cs) (hw : ∀ k o, memOf W k = some o → w.heap[k]? = some o) : w.var? Tryd.prog name = some cs := by
  unfold World.var? at t ⊢
  rw [hg] at t ⊢
  rw [Option.bind_some] at t ⊢
  cases ho : W.heap[g]? with
  | none => rw [ho] at t; cases t
  | some o => rw [hw _ o ho]; rw [ho] at t; exact t
theorem tab_of {W : World} {l : List (String × DataW Unit)} (h : laidMetH Tryd.prog l W)
    (e : (l.filter fun x => x.1 == (Tryd.prog.globals[2]!).name) = [((Tryd.prog.globals[2]!).name, Lib.tabData .u64 Lib.pow10Tab)]) : Tab (memOf W) := by
  have h1 := h.filter (fun x => x.1 == (Tryd.prog.globals[2]!).name)
  rw [e, MakeChecks.laidMetH_plain _ _ _ (by kernel_rfl)] at h1
  have hg : Tryd.prog.globalNamed (Tryd.prog.globals[2]!).name = some 2 := by kernel_rfl
  have t := Lib.tabIs_of_head hg (by kernel_rfl) Tryd.underlying68 Tryd.underlying22 (by kernel_rfl) (by kernel_rfl) h1
  intro w hw
  exact var_up hg t hw
theorem tz_of {W : World} {l : List (String × DataW Unit)} (h : laidMetH Tryd.prog l W)
    (e : (l.filter fun x => x.1 == (Tryd.prog.globals[3]!).name) = [((Tryd.prog.globals[3]!).name, Lib.tabData .u8 (Lib.deBruijn64tab.map Int.ofNat))]) : TZ (memOf W) := by
  have h1 := h.filter (fun x => x.1 == (Tryd.prog.globals[3]!).name)
  rw [e, MakeChecks.laidMetH_plain _ _ _ (by kernel_rfl)] at h1
  have hg : Tryd.prog.globalNamed (Tryd.prog.globals[3]!).name = some 3 := by kernel_rfl
  have t := Lib.tabIs_of_head hg (by kernel_rfl) Tryd.underlying73 Tryd.underlying5 (by kernel_rfl) (by kernel_rfl) h1
  intro w hw j hj
  have t' : Lib.TabIs Tryd.prog w _ .u8 _ := var_up hg t hw
  rw [t'.cell hg j (by rw [List.length_map]; exact hj)]
  simp [List.getD, hj]
end Ra
end Go.Proofs.YtnpgnlphdkbfiaaDoor
/- The document's text of a number. -/
set_option linter.unusedSimpArgs false
set_option linter.unusedVariables false
set_option linter.unusedSectionVars false
set_option maxRecDepth 20000
set_option maxHeartbeats 4000000
namespace Go.Proofs.YtnpgnlphdkbfiaaDoor
open Go Go.J
attribute [local irreducible] At AtQ AtM AtM1 PR Ct Pu Rd Res.blk Res.own Res.ex RVs RV
namespace Wide
theorem u8_digit (r : Nat) : u8 (48 + (r : Int)) = UInt8.ofNat (48 + r) := by
  unfold u8
  rw [show (48 + (r : Int)).toNat = 48 + r by omega]
end Wide
end Go.Proofs.YtnpgnlphdkbfiaaDoor
/- The number of a text, as the document has it. -/
set_option linter.unusedSimpArgs false
set_option linter.unusedVariables false
set_option linter.unusedSectionVars false
set_option maxRecDepth 20000
set_option maxHeartbeats 4000000
namespace Go.Proofs.YtnpgnlphdkbfiaaDoor
open Go Go.J
attribute [local irreducible] At AtQ AtM AtM1 PR Ct Pu Rd Res.blk Res.own Res.ex RVs RV
namespace Wide
theorem pE_no {t : List UInt8} (h : ¬ pok t) : pE t = 4 := if_neg h
theorem pV_no {t : List UInt8} (h : ¬ pok t) : pV t = 0 := if_neg h
theorem pE_ok {t : List UInt8} (h : pok t) : pE t = 0 := if_pos h
theorem pV_ok {t : List UInt8} (h : pok t) : pV t = pv t := if_pos h
theorem bI_nat (c : UInt8) : bI c = ((c.toNat : Nat) : Int) := rfl
theorem sub48 (c : UInt8) : IntKind.wrap .u8 (bI c - 48) = (((c.toNat + 208) % 256 : Nat) : Int) := by
  have := UInt8.toNat_lt c
  rw [IntKind.wrap_u8, bI_nat]; omega
theorem rem10 (c : UInt8) : (((c.toNat + 208) % 256 : Nat) : Int).tmod 10 = ((dgt c : Nat) : Int) := u_rem _ 10
theorem dgt_lt (c : UInt8) : dgt c < 10 := Nat.mod_lt _ (by decide)
end Wide
end Go.Proofs.YtnpgnlphdkbfiaaDoor
/- A slice beside nil; what is cleared. -/
set_option linter.unusedSimpArgs false
set_option linter.unusedVariables false
set_option linter.unusedSectionVars false
set_option maxRecDepth 20000
namespace Go.J
open Go
section
variable {P : Program} {n : Nat} {F : Fr} {C : World → Prop}
theorem run_equal_slnil {t e : TypeId} {p : Option Addr} {l c l2 c2 : Nat} (ht : P.underlying t = some (.slice e)) (w : World) : (Op.equal t (.slice p l c) (.slice none l2 c2)).run P w = .ok p.isNone w := by
  simp [Op.equal, Op.maxDepth, Lib.run_equalIn_slice_nil w 9999 t e p l c l2 c2 ht]
theorem pr_sleql {x y : Operand} {p : Option Addr} {l c l2 c2 : Nat} {t u e : TypeId} (ht : P.underlying t = some (.slice e)) (hx : ev F x = some (.slice p l c)) (hy : ev F y = some (.slice none l2 c2)) : PR P n F C (.binOp .eql t x y u) (.bool p.isNone) :=
  pr_eql_of hx hy (fun _ => rfl) (by cases p <;> rfl) (fun w _ => run_equal_slnil ht w)
theorem pr_slneq {x y : Operand} {p : Option Addr} {l c l2 c2 : Nat} {t u e : TypeId} (ht : P.underlying t = some (.slice e)) (hx : ev F x = some (.slice p l c)) (hy : ev F y = some (.slice none l2 c2)) : PR P n F C (.binOp .neq t x y u) (.bool !p.isNone) :=
  pr_neq_of hx hy (fun _ => rfl) (by cases p <;> rfl) (fun w _ => run_equal_slnil ht w)
def zeroOneB (P : Program) (e : TypeId) : Bool := match P.info? e with
  | some i => match i.zero with
    | some z => z.cells.toList.all oneCell
    | none => false
  | none => false
end
section
variable {P : Program} {n : Nat} {w0 : World} {F : Fr} {m : Mem} {Rs : List Res} {Q : Exit → Act → World → Prop} {α : Type} [Inhabited α] {f : α → List Value} {sz : Nat} {E : TypeId} {p : Option Addr} {c : Nat} {l : List α} {Rs' : List Res}
theorem pr_slice_own {x z : Operand} {t : TypeId} {ln hi : Nat} {k : IntKind} (hx : ev F x = some (.slice p ln c)) (hz : ev F z = some (.int k (hi : Int))) (hp : Pick Rs (.own f sz E p c l) Rs') (hl : l.length = hi) (ht : P.underlying t = some (.slice E)) (hs : sizeB P E = some sz) :
    PR P n F (HW w0 m Rs) (.slice t x none (some z) none) (.slice (subp p c 0 sz) (hi - 0) (c - 0)) := by
  subst hl
  exact fun d ty pos aft g a w ha hC => pr_slice_h hx hz ht hs (own_le hp w hC) d ty pos aft g a w ha hC
theorem zeroCells_one {z : Array Value} (h : z.toList.all oneCell = true) (k : Nat) : ∀ v ∈ (Builtin.zeroCells z k).toList, v.oneCell' = true := fun v hv => by
  simp only [Builtin.zeroCells, Array.toList_map, Array.toList_range, List.mem_map, List.mem_range] at hv
  obtain ⟨i, hi, rfl⟩ := hv
  have hz : 0 < z.size := by
    rcases Nat.eq_zero_or_pos z.size with e | e
    · rw [e] at hi; simp at hi
    · exact e
  have hm := Nat.mod_lt i hz
  have := List.all_eq_true.1 h z[i % z.size]! (by
    rw [getElem!_pos z _ hm]
    exact Array.getElem_mem_toList hm)
  generalize z[i % z.size]! = u at this
  cases u <;> first | rfl | (simp [oneCell] at this)
/-- the end of what one owns is cleared: the rest stays -/
theorem At.clearW {ops : Array Oper} {rest : List Oper} {d : Option Nat} {x : Operand} {t : TypeId} {ty : TypeId} {pos : String} {aft : Array Edge} {ln c2 : Nat} {q : Option Addr}
    (lo : Nat) (hx : ev F x = some (.slice q ln c2)) (hp : Pick Rs (.own f sz E p c l) Rs') (hq : q = subp p c lo sz) (hf : Fl f sz) (ht : P.underlying t = some (.slice E)) (he : elemB P E sz = true) (hz1 : zeroOneB P E = true) (hlo : lo ≤ l.length) (hln : ln = l.length - lo) (hd : d = none)
    (h : At n w0 F m (.own f sz E p c (l.take lo) :: Rs') (wpList P ops Q rest)) :
    At n w0 F m Rs (wpList P ops Q (⟨d, .call ⟨.builtin .clear, #[x], #[t]⟩, ty, pos, aft, none⟩ :: rest)) := fun a w ha hw =>
  wpList_plain rfl fun K hK => by
    subst hln hd hq
    obtain ⟨i, z, hi, hz, hsz, hbt, hzs⟩ := elemB_spec he
    have hone : z.cells.toList.all oneCell = true := by
      unfold zeroOneB at hz1; rw [hi] at hz1; simp only [hz] at hz1; exact hz1
    have hrow : ∀ s, (Res.own f sz E p c l).p w s → ∃ w', (Builtin.clear_ #[t] ty #[.slice (subp p c lo sz) (l.length - lo) c2]).run P w = .ok (.tuple #[]) w' ∧ (Res.own f sz E p c (l.take lo)).p w' s ∧ w'.os = w.os ∧ w'.tape = w.tape ∧ w'.output = w.output ∧ w.heap.size ≤ w'.heap.size ∧ (∀ k, k < w.heap.size → ¬ s k → w'.heap[k]? = w.heap[k]?) := fun s hown => by
      by_cases hz0 : l.length - lo = 0
      · have hl : l.take lo = l := List.take_of_length_le (by omega)
        rw [hz0, hl]
        refine ⟨w, ?_, hown, rfl, rfl, rfl, Nat.le_refl _, fun _ _ _ => rfl⟩
        cases subp p c lo sz <;> simp [Builtin.clear_, run_underlying ht]
      · rcases hown with ⟨rfl, rfl, rfl, hno⟩ | ⟨g, o, cur, rfl, h4, h5, h6, h7, h8, hgs⟩
        · simp at hz0
        · have hne : c ≠ lo := by omega
          have hsub : subp (some ⟨g, o, none⟩) c lo sz = some ⟨g, o + lo * sz, none⟩ := by unfold subp; rw [if_neg hne]; simp [Addr.add_eq]
          rw [hsub]
          have hlen : (Builtin.zeroCells z.cells (l.length - lo)).toList.length = (l.length - lo) * sz := by rw [Array.length_toList, size_zeroCells, hzs]
          have hcs : l.length * sz ≤ c * sz := Nat.mul_le_mul_right _ h5
          have hsp : (l.length - lo) * sz + lo * sz = l.length * sz := by rw [← Nat.add_mul]; congr 1; omega
          have hst := run_storeCells_at P g (o + lo * sz) E (Builtin.zeroCells z.cells (l.length - lo)).toList 0 cur w h4 (by omega) (zeroCells_one hone _)
          simp only [Nat.add_zero] at hst
          refine ⟨w.setRow g (cur.toList.take (o + lo * sz) ++ (Builtin.zeroCells z.cells (l.length - lo)).toList ++ cur.toList.drop (o + lo * sz + (Builtin.zeroCells z.cells (l.length - lo)).toList.length)).toArray, ?_, .inr ⟨g, o, (cur.toList.take (o + lo * sz) ++ (Builtin.zeroCells z.cells (l.length - lo)).toList ++ cur.toList.drop (o + lo * sz + (Builtin.zeroCells z.cells (l.length - lo)).toList.length)).toArray, rfl, setRow_heap w g cur _ E _ h4, by simp only [List.length_take]; omega, h6, ?_, fun j hj => ?_, hgs⟩, rfl, rfl, rfl, by simp, fun i _ hi => setRow_other w g i _ (fun e => hi ((hgs i).2 e))⟩
          · obtain ⟨k, hk⟩ : ∃ k, l.length - lo = k + 1 := ⟨l.length - lo - 1, by omega⟩
            have hzv : ∀ w, (zeroValue E).run P w = .ok z w := fun w => by simp [zeroValue, typeInfo, hi, hz]
            rw [hk] at hst ⊢
            simp [Builtin.clear_, run_underlying ht, hzv, hst]
          · simp only [List.size_toArray, List.length_append, List.length_take, List.length_drop, Array.length_toList, size_zeroCells, hzs]
            omega
          · have hj2 : j < lo * sz := by rw [List.length_take] at hj; exact Nat.lt_of_lt_of_le hj (Nat.mul_le_mul_right _ (Nat.min_le_left _ _))
            have hll : lo * sz ≤ l.length * sz := Nat.mul_le_mul_right _ hlo
            rw [List.getElem?_toArray, List.append_assoc, List.getElem?_append_left (by simp only [List.length_take, Array.length_toList]; omega), List.getElem?_take, if_pos (by omega), Array.getElem?_toList, h8 j (by omega)]
            have e : l.flatMap f = (l.take lo).flatMap f ++ (l.drop lo).flatMap f := by rw [← List.flatMap_append, List.take_append_drop]
            rw [e, List.getElem?_append_left (by rw [flatMap_length hf.len]; exact hj)]
    obtain ⟨s0, hown⟩ := hw.get hp
    obtain ⟨w', hr', _⟩ := hrow s0 hown
    have hrun' : (execOp a.eval ⟨none, .call ⟨.builtin .clear, #[x], #[t]⟩, ty, pos, aft, none⟩).run P w = .ok (.value (.tuple #[])) w' := by
      rw [BigFrame.execOp_builtin]
      simp [BigFrame.builtin_clear, ha.ev hx, hr']
    unfold Oper.wp
    rw [hrun']
    refine hK _ _ (h _ _ ha (hw.turn hp fun s hs => ?_))
    obtain ⟨w2, hr2, h2, g1, g2, g3, g4, g5⟩ := hrow s hs
    rw [hr'] at hr2
    injection hr2 with _ e2
    subst e2
    exact ⟨s, h2, g1, g2, g3, g4, g5, fun k hk => .inl hk⟩
end
end Go.J
/- Lists of whole numbers, of texts, of bools, as cells; whether two are one. -/
set_option linter.unusedSimpArgs false
set_option linter.unusedVariables false
set_option linter.unusedSectionVars false
set_option maxRecDepth 20000
set_option maxHeartbeats 4000000
namespace Go.Proofs.YtnpgnlphdkbfiaaDoor
open Go Go.J
attribute [local irreducible] At AtQ AtM AtM1 PR Ct Pu Rd Res.blk Res.own Res.ex RVs RV
namespace Ls
abbrev fI : Int → List Value := fun x => [.int .i64 x]
instance : Fl fI 1 := ⟨fun _ => rfl, fun _ v h => by simp at h; subst h; rfl, by decide⟩
abbrev fS : List UInt8 → List Value := fun x => [.string (str x)]
instance : Fl fS 1 := ⟨fun _ => rfl, fun _ v h => by simp at h; subst h; rfl, by decide⟩
abbrev fO : Bool → List Value := fun x => [.bool x]
instance : Fl fO 1 := ⟨fun _ => rfl, fun _ v h => by simp at h; subst h; rfl, by decide⟩
abbrev fH : Nat → List Value := fun x => [.int .u16 (x : Int)]
instance : Fl fH 1 := ⟨fun _ => rfl, fun _ v h => by simp at h; subst h; rfl, by decide⟩
/-- a slice that stands in a slice -/
structure SX (α : Type) where
  (l : List α) (p : Option Addr) (c : Nat)
instance {α : Type} : Inhabited (SX α) := ⟨⟨[], none, 0⟩⟩
abbrev fX {α : Type} : SX α → List Value := fun x => [.slice x.p x.l.length x.c]
instance {α : Type} : Fl (fX (α := α)) 1 := ⟨fun _ => rfl, fun _ v h => by simp at h; subst h; rfl, by decide⟩
theorem ext! {α : Type} [Inhabited α] {a b : List α} (hl : a.length = b.length) (h : ∀ i, i < a.length → a[i]! = b[i]!) : a = b :=
  List.ext_getElem hl fun i h1 h2 => by have := h i h1; rwa [getElem!_pos a i h1, getElem!_pos b i h2] at this
theorem take_snoc {α : Type} [Inhabited α] {l : List α} {i : Nat} (h : i < l.length) : l.take (i + 1) = l.take i ++ [l[i]!] := by
  rw [getElem!_pos l i h, List.take_succ_eq_append_getElem h]
theorem drop_cons {α : Type} [Inhabited α] {l : List α} {i : Nat} (h : i < l.length) : l.drop i = l[i]! :: l.drop (i + 1) := by
  rw [getElem!_pos l i h, List.drop_eq_getElem_cons h]
theorem mem! {α : Type} [Inhabited α] {l : List α} {i : Nat} (h : i < l.length) : l[i]! ∈ l := by
  rw [getElem!_pos l i h]; exact List.getElem_mem h
theorem clipSl {m : Mem} {α : Type} [Inhabited α] {f : α → List Value} {sz : Nat} {p : Option Addr} {c : Nat} {l : List α} (h : Sl m f sz p c l) : Sl m f sz p l.length l := by
  have hle := h.le
  refine ⟨h.fl, Nat.le_refl _, Nat.le_trans hle h.big, fun e => by have := h.nil e; omega, fun a ha h0 => ?_⟩
  obtain ⟨h1, E, cs, fz, h2, h3, h4⟩ := h.some a ha (by omega)
  exact ⟨h1, E, cs, fz, h2, Nat.le_trans (Nat.add_le_add_left (Nat.mul_le_mul_right _ hle) _) h3, h4⟩
end Ls
end Go.Proofs.YtnpgnlphdkbfiaaDoor
/- The number of a text. -/
set_option linter.unusedSimpArgs false
set_option linter.unusedVariables false
set_option linter.unusedSectionVars false
set_option maxRecDepth 20000
set_option maxHeartbeats 4000000
namespace Go.Proofs.YtnpgnlphdkbfiaaDoor
open Go Go.J
attribute [local irreducible] At AtQ AtM AtM1 PR Ct Pu Rd Res.blk Res.own Res.ex RVs RV
namespace Wide
theorem isd_iff (c : UInt8) : isd c ↔ ¬ bI c < 48 ∧ ¬ 57 < bI c := by unfold isd; rw [bI_nat]; omega
theorem dgt_isd {c : UInt8} (h : isd c) : (c.toNat + 208) % 256 = dgt c := by unfold isd at h; unfold dgt; omega
theorem map_at {t : List UInt8} {i : Nat} (h : i < t.length) : (t.map bI)[i]! = bI (t[i]!) := by
  rw [getElem!_pos _ i (by simpa using h), getElem!_pos t i h, List.getElem_map]
structure PX where
  (i : Nat) (a : Nat)
theorem parse (t : List UInt8) (hl : t.length ≤ 1000000) : Pu Tryd.prog 10 #[.string (str t)] (.tuple #[wv (pV t), .int .i64 (pE t)]) := by
  refine Pu.of_le fun m => ?_
  have hml : (t.map bI).length = t.length := List.length_map _
  refine Ct.enterV (by rfl) Tryd.func10 rfl Tryd.ntmps10 rfl (fun w0 Rest => ?_)
  (repeat' (first | refine zss ?_ | ((first | (with_reducible first | apply At.val | apply AtQ.val)); (exact zprA); exact rfl) | refine zsM ?_ | ((with_reducible apply At.str_bytes); (iterate 4 exact rfl); exact zom; exact rfl; intro p' c' m' hm' sl1; skip) | ((with_reducible apply At.alloc (d := 2)); exact rfl; exact rfl; intro b2) | ((with_reducible apply At.alloc (d := 4)); exact rfl; exact rfl; intro b4) | ((with_reducible apply At.alloc (d := 7)); exact rfl; exact rfl; intro b7) | ((with_reducible apply At.alloc (d := 9)); exact rfl; exact rfl; intro b9) | (refine zsp ?_ ?_ <;> (intro hc; (try simp only [zhcs, reduceCtorEq] at hc); (try (exfalso; first | omega | contradiction | omega | exact absurd rfl hc | exact absurd (by decide) hc))))))
  rw [show ([.int .u64 0, .int .u64 0] : List Value) = wd 0 from rfl]
  (refine At.loopk (σ := PX) [0, 2, 4, 12, 13] (fun s F0 => (14, .int .i64 (s.i : Int)) :: F0) (fun s => m') (fun s => .blk b4 24 (wd s.a) :: .blk b2 24 (wd 0) :: Rest) (fun s => s.i ≤ t.length ∧ s.a = pv (t.take s.i) ∧ s.a < 340282366920938463463374607431768211456 ∧ ∀ c ∈ t.take s.i, isd c) (fun s => t.length - s.i) ⟨0, 0⟩ (by rfl) ?_ zsubs zml zente ?_)
  · exact ⟨Nat.zero_le _, rfl, by show 0 < _; decide, fun c hc => by cases hc⟩
  rintro ⟨i, a⟩ ⟨hi, ha, hal, hds⟩
  dsimp only at hi ha hal hds ⊢
  by_cases h : i < t.length
  · have hst := pv_take h
    rw [← ha] at hst
    have hma := map_at h
    have f1 := sub48 (t[i]!)
    rw [← hma] at f1
    obtain ⟨D, hD⟩ : ∃ D, D = ((t[i]!).toNat + 208) % 256 := ⟨_, rfl⟩
    have hDl : D < 256 := by omega
    rw [← hD] at f1
    have f3 := u_inN (a := D) (by omega)
    have kt : Pu Tryd.prog 6 #[wv a, .int .u64 10] (.tuple #[wv (sV (a * 10)), .int .i64 (sE (a * 10))]) := times a 10 hal (by decide)
    have ko := of_ D (by omega)
    have ka := add (sV (a * 10)) D (sV_lt _) (by omega)
    have hii := isd_iff (t[i]!)
    rw [← hma] at hii
    by_cases hd : isd (t[i]!)
    · have hdd := dgt_isd hd
      rw [← hD] at hdd
      rw [← hdd] at hst
      obtain ⟨hc1, hc2⟩ := hii.1 hd
      by_cases h1 : a * 10 < 340282366920938463463374607431768211456
      · rw [show sV (a * 10) = a * 10 from if_pos h1] at ka kt
        rw [show sE (a * 10) = 0 from if_pos h1] at kt
        by_cases h2 : a * 10 + D < 340282366920938463463374607431768211456
        · rw [show sV (a * 10 + D) = a * 10 + D from if_pos h2, show sE (a * 10 + D) = 0 from if_pos h2] at ka
          have hds2 : ∀ c ∈ t.take (i + 1), isd c := by
            intro c hc
            rw [Ls.take_snoc h] at hc
            rcases List.mem_append.1 hc with hc | hc
            · exact hds c hc
            · rw [List.mem_singleton.1 hc]; exact hd
          clear hii hds hd hdd hD
          (repeat' (first | ((with_reducible apply At.mixed (id := 6) 12 (.q 0 (.q 1 (.q 2 (.q 3 (.q 4 (.q 5 (.q 6 (.q 7 (.q 8 (.l 9 (.x 10 (.q 11 .done))))))))))))); exact rfl; kernel_rfl; kernel_rfl; kernel_rfl) | refine zsx ?_ | refine zss ?_ | ((with_reducible apply AtM.bo); exact rfl; exact rfl; exact rfl) | ((first | (with_reducible first | apply At.val | apply AtQ.val) | ((with_reducible first | apply AtM1.valz | apply AtM1.val); exact rfl) | ((with_reducible apply AtM1.val); exact rfl)); (first | exact pr_sub (by rfl) (by rfl) f1 | exact zprA); exact rfl) | refine zsM ?_ | refine zxM ?_ | ((with_reducible first | apply AtM1.callp | apply AtQ.callp | apply At.callp); kernel_rfl; exact rfl; exact rfl; exact kt) | ((with_reducible first | apply AtM1.callp | apply AtQ.callp | apply At.callp); kernel_rfl; exact rfl; exact rfl; exact ko) | ((with_reducible first | apply AtM1.callp | apply AtQ.callp | apply At.callp); kernel_rfl; exact rfl; exact rfl; exact ka) | ((with_reducible apply At.alloc (d := 2)); exact rfl; exact rfl; intro b2) | ((with_reducible apply At.alloc (d := 4)); exact rfl; exact rfl; intro b4) | ((with_reducible apply At.alloc (d := 7)); exact rfl; exact rfl; intro b7) | ((with_reducible apply At.alloc (d := 9)); exact rfl; exact rfl; intro b9) | (refine zsp ?_ ?_ <;> (intro hc; (try simp only [zhcs, reduceCtorEq] at hc); (try (exfalso; first | (first | omega | exact hc rfl | exact absurd rfl hc) | contradiction | omega | exact absurd rfl hc | exact absurd (by decide) hc))))))
          all_goals ((with_reducible refine At.reachk (⟨i + 1, a * 10 + D⟩) ?_ ?_ ?_ ?_); exact zsubs; exact zml; exact zente; exact ⟨⟨h, hst.symm, h2, hds2⟩, by dsimp only; omega⟩)
        · have hno : ¬ pok t := fun hp => by have := pok_take hp (i + 1); omega
          rw [pV_no hno, pE_no hno]
          rw [show sV (a * 10 + D) = 0 from if_neg h2, show sE (a * 10 + D) = 1 from if_neg h2] at ka
          clear hii hds hd hdd hD
          (repeat' (first | ((with_reducible apply At.mixed (id := 6) 12 (.q 0 (.q 1 (.q 2 (.q 3 (.q 4 (.q 5 (.q 6 (.q 7 (.q 8 (.l 9 (.x 10 (.q 11 .done))))))))))))); exact rfl; kernel_rfl; kernel_rfl; kernel_rfl) | refine zsx ?_ | refine zss ?_ | ((with_reducible apply AtM.bo); exact rfl; exact rfl; exact rfl) | ((first | (with_reducible first | apply At.val | apply AtQ.val) | ((with_reducible first | apply AtM1.valz | apply AtM1.val); exact rfl) | ((with_reducible apply AtM1.val); exact rfl)); (first | exact pr_sub (by rfl) (by rfl) f1 | exact zprA); exact rfl) | refine zsM ?_ | refine zxM ?_ | ((with_reducible first | apply AtM1.callp | apply AtQ.callp | apply At.callp); kernel_rfl; exact rfl; exact rfl; exact kt) | ((with_reducible first | apply AtM1.callp | apply AtQ.callp | apply At.callp); kernel_rfl; exact rfl; exact rfl; exact ko) | ((with_reducible first | apply AtM1.callp | apply AtQ.callp | apply At.callp); kernel_rfl; exact rfl; exact rfl; exact ka) | ((with_reducible apply At.alloc (d := 2)); exact rfl; exact rfl; intro b2) | ((with_reducible apply At.alloc (d := 4)); exact rfl; exact rfl; intro b4) | ((with_reducible apply At.alloc (d := 7)); exact rfl; exact rfl; intro b7) | ((with_reducible apply At.alloc (d := 9)); exact rfl; exact rfl; intro b9) | (refine zsp ?_ ?_ <;> (intro hc; (try simp only [zhcs, reduceCtorEq] at hc); (try (exfalso; first | (first | omega | exact hc rfl | exact absurd rfl hc) | contradiction | omega | exact absurd rfl hc | exact absurd (by decide) hc))))))
          all_goals ((with_reducible apply At.retV (B := [])); exact rfl; (repeat' (first | exact RVs.nil | (with_reducible apply RVs.cons) | exact rv_tmp (by rfl) | exact rv_cellN (by rfl) (by repeat constructor) (by rfl) (by rfl) (by rfl) | exact rv_cell1 (by rfl) (by repeat constructor) (by rfl) (by rfl) | exact rv_cellA (by rfl) (by repeat constructor) (by rfl) (by rfl) zlq)); exact zml; exact zkp; exact ⟨rfl, zml, rfl⟩)
      · have hno : ¬ pok t := fun hp => by have := pok_take hp (i + 1); omega
        rw [pV_no hno, pE_no hno]
        rw [show sV (a * 10) = 0 from if_neg h1] at ka kt
        rw [show sE (a * 10) = 1 from if_neg h1] at kt
        clear hii hds hd hdd hD
        (repeat' (first | ((with_reducible apply At.mixed (id := 6) 12 (.q 0 (.q 1 (.q 2 (.q 3 (.q 4 (.q 5 (.q 6 (.q 7 (.q 8 (.l 9 (.x 10 (.q 11 .done))))))))))))); exact rfl; kernel_rfl; kernel_rfl; kernel_rfl) | refine zsx ?_ | refine zss ?_ | ((with_reducible apply AtM.bo); exact rfl; exact rfl; exact rfl) | ((first | (with_reducible first | apply At.val | apply AtQ.val) | ((with_reducible first | apply AtM1.valz | apply AtM1.val); exact rfl) | ((with_reducible apply AtM1.val); exact rfl)); (first | exact pr_sub (by rfl) (by rfl) f1 | exact zprA); exact rfl) | refine zsM ?_ | refine zxM ?_ | ((with_reducible first | apply AtM1.callp | apply AtQ.callp | apply At.callp); kernel_rfl; exact rfl; exact rfl; exact kt) | ((with_reducible first | apply AtM1.callp | apply AtQ.callp | apply At.callp); kernel_rfl; exact rfl; exact rfl; exact ko) | ((with_reducible first | apply AtM1.callp | apply AtQ.callp | apply At.callp); kernel_rfl; exact rfl; exact rfl; exact ka) | ((with_reducible apply At.alloc (d := 2)); exact rfl; exact rfl; intro b2) | ((with_reducible apply At.alloc (d := 4)); exact rfl; exact rfl; intro b4) | ((with_reducible apply At.alloc (d := 7)); exact rfl; exact rfl; intro b7) | ((with_reducible apply At.alloc (d := 9)); exact rfl; exact rfl; intro b9) | (refine zsp ?_ ?_ <;> (intro hc; (try simp only [zhcs, reduceCtorEq] at hc); (try (exfalso; first | (first | omega | exact hc rfl | exact absurd rfl hc) | contradiction | omega | exact absurd rfl hc | exact absurd (by decide) hc))))))
        all_goals ((with_reducible apply At.retV (B := [])); exact rfl; (repeat' (first | exact RVs.nil | (with_reducible apply RVs.cons) | exact rv_tmp (by rfl) | exact rv_cellN (by rfl) (by repeat constructor) (by rfl) (by rfl) (by rfl) | exact rv_cell1 (by rfl) (by repeat constructor) (by rfl) (by rfl) | exact rv_cellA (by rfl) (by repeat constructor) (by rfl) (by rfl) zlq)); exact zml; exact zkp; exact ⟨rfl, zml, rfl⟩)
    · have hno : ¬ pok t := fun hp => hd (pok_isd hp _ (Ls.mem! h))
      rw [pV_no hno, pE_no hno]
      have hcc : (t.map bI)[i]! < 48 ∨ 57 < (t.map bI)[i]! := by
        by_cases h1 : (t.map bI)[i]! < 48
        · exact .inl h1
        · exact .inr (Classical.byContradiction fun h2 => hd (hii.2 ⟨h1, h2⟩))
      have hzl := sV_lt (a * 10)
      generalize sV (a * 10) = X at *
      generalize sE (a * 10) = eX at *
      generalize sV (X + D) = Z at *
      generalize sE (X + D) = eZ at *
      clear hii hds hd hD hst
      (repeat' (first | ((with_reducible apply At.mixed (id := 6) 12 (.q 0 (.q 1 (.q 2 (.q 3 (.q 4 (.q 5 (.q 6 (.q 7 (.q 8 (.l 9 (.x 10 (.q 11 .done))))))))))))); exact rfl; kernel_rfl; kernel_rfl; kernel_rfl) | refine zsx ?_ | refine zss ?_ | ((with_reducible apply AtM.bo); exact rfl; exact rfl; exact rfl) | ((first | (with_reducible first | apply At.val | apply AtQ.val) | ((with_reducible first | apply AtM1.valz | apply AtM1.val); exact rfl) | ((with_reducible apply AtM1.val); exact rfl)); (first | exact pr_sub (by rfl) (by rfl) f1 | exact zprA); exact rfl) | refine zsM ?_ | refine zxM ?_ | ((with_reducible first | apply AtM1.callp | apply AtQ.callp | apply At.callp); kernel_rfl; exact rfl; exact rfl; exact kt) | ((with_reducible first | apply AtM1.callp | apply AtQ.callp | apply At.callp); kernel_rfl; exact rfl; exact rfl; exact ko) | ((with_reducible first | apply AtM1.callp | apply AtQ.callp | apply At.callp); kernel_rfl; exact rfl; exact rfl; exact ka) | ((with_reducible apply At.alloc (d := 2)); exact rfl; exact rfl; intro b2) | ((with_reducible apply At.alloc (d := 4)); exact rfl; exact rfl; intro b4) | ((with_reducible apply At.alloc (d := 7)); exact rfl; exact rfl; intro b7) | ((with_reducible apply At.alloc (d := 9)); exact rfl; exact rfl; intro b9) | (refine zsp ?_ ?_ <;> (intro hc; (try simp only [zhcs, reduceCtorEq] at hc); (try (exfalso; first | (first | omega | exact hc rfl | exact absurd rfl hc) | contradiction | omega | exact absurd rfl hc | exact absurd (by decide) hc))))))
      all_goals ((with_reducible apply At.retV (B := [])); exact rfl; (repeat' (first | exact RVs.nil | (with_reducible apply RVs.cons) | exact rv_tmp (by rfl) | exact rv_cellN (by rfl) (by repeat constructor) (by rfl) (by rfl) (by rfl) | exact rv_cell1 (by rfl) (by repeat constructor) (by rfl) (by rfl) | exact rv_cellA (by rfl) (by repeat constructor) (by rfl) (by rfl) zlq)); exact zml; exact zkp; exact ⟨rfl, zml, rfl⟩)
  · have e : t.take i = t := List.take_of_length_le (by omega)
    rw [e] at ha hds
    by_cases h0 : t = []
    · have hno : ¬ pok t := fun hp => by rw [h0] at hp; exact dd_ne _ hp.1
      rw [pV_no hno, pE_no hno]
      (repeat' (first | refine zss ?_ | ((first | (with_reducible first | apply At.val | apply AtQ.val)); (exact zprA); exact rfl) | refine zsM ?_ | ((with_reducible apply At.alloc (d := 2)); exact rfl; exact rfl; intro b2) | ((with_reducible apply At.alloc (d := 4)); exact rfl; exact rfl; intro b4) | ((with_reducible apply At.alloc (d := 7)); exact rfl; exact rfl; intro b7) | ((with_reducible apply At.alloc (d := 9)); exact rfl; exact rfl; intro b9) | (refine zsp ?_ ?_ <;> (intro hc; (try simp only [zhcs, reduceCtorEq] at hc); (try (exfalso; first | (first | omega | exact hc rfl | exact absurd rfl hc | exact absurd h0 hc) | contradiction | omega | exact absurd rfl hc | exact absurd (by decide) hc))))))
      all_goals ((with_reducible apply At.retV (B := [])); exact rfl; (repeat' (first | exact RVs.nil | (with_reducible apply RVs.cons) | exact rv_tmp (by rfl) | exact rv_cellN (by rfl) (by repeat constructor) (by rfl) (by rfl) (by rfl) | exact rv_cell1 (by rfl) (by repeat constructor) (by rfl) (by rfl) | exact rv_cellA (by rfl) (by repeat constructor) (by rfl) (by rfl) zlq)); exact zml; exact zkp; exact ⟨rfl, zml, rfl⟩)
    · have hpos := List.length_pos_iff.2 h0
      have hhd : t.head? = some (t[0]!) := by
        rw [getElem!_pos t 0 hpos]
        cases t with
        | nil => exact absurd rfl h0
        | cons a b => rfl
      by_cases h48 : bI (t[0]!) = 48 ∧ 1 < t.length
      · have hc48 : t[0]! = 48 := by
          apply UInt8.toNat_inj.1
          have := h48.1
          rw [bI_nat] at this
          have e8 : (48 : UInt8).toNat = 48 := rfl
          omega
        have hno : ¬ pok t := fun hp => by
          have := dd_lead1 (pv t) (by rw [hp.1, hhd, hc48])
          rw [hp.1] at this
          omega
        rw [pV_no hno, pE_no hno]
        obtain ⟨h4, h5⟩ := h48
        (repeat' (first | refine zss ?_ | ((first | (with_reducible first | apply At.val | apply AtQ.val)); (exact zprA); exact rfl) | refine zsM ?_ | ((with_reducible apply At.alloc (d := 2)); exact rfl; exact rfl; intro b2) | ((with_reducible apply At.alloc (d := 4)); exact rfl; exact rfl; intro b4) | ((with_reducible apply At.alloc (d := 7)); exact rfl; exact rfl; intro b7) | ((with_reducible apply At.alloc (d := 9)); exact rfl; exact rfl; intro b9) | (refine zsp ?_ ?_ <;> (intro hc; (try simp only [zhcs, reduceCtorEq] at hc); (try (exfalso; first | (first | omega | exact hc rfl | exact absurd rfl hc | exact absurd hc h0 | exact absurd h4 hc) | contradiction | omega | exact absurd rfl hc | exact absurd (by decide) hc))))))
        all_goals ((with_reducible apply At.retV (B := [])); exact rfl; (repeat' (first | exact RVs.nil | (with_reducible apply RVs.cons) | exact rv_tmp (by rfl) | exact rv_cellN (by rfl) (by repeat constructor) (by rfl) (by rfl) (by rfl) | exact rv_cell1 (by rfl) (by repeat constructor) (by rfl) (by rfl) | exact rv_cellA (by rfl) (by repeat constructor) (by rfl) (by rfl) zlq)); exact zml; exact zkp; exact ⟨rfl, zml, rfl⟩)
      · have hok : pok t := ⟨dd_pv t.length t rfl h0 hds (by
          by_cases h1 : t.length = 1
          · exact .inl h1
          · refine .inr fun x => h48 ⟨?_, by omega⟩
            rw [hhd] at x
            rw [Option.some.inj x]; rfl), by rw [← ha]; exact hal⟩
        rw [pV_ok hok, pE_ok hok, ← ha]
        (repeat' (first | refine zss ?_ | ((first | (with_reducible first | apply At.val | apply AtQ.val)); (exact zprA); exact rfl) | refine zsM ?_ | ((with_reducible apply At.alloc (d := 2)); exact rfl; exact rfl; intro b2) | ((with_reducible apply At.alloc (d := 4)); exact rfl; exact rfl; intro b4) | ((with_reducible apply At.alloc (d := 7)); exact rfl; exact rfl; intro b7) | ((with_reducible apply At.alloc (d := 9)); exact rfl; exact rfl; intro b9) | (refine zsp ?_ ?_ <;> (intro hc; (try simp only [zhcs, reduceCtorEq] at hc); (try (exfalso; first | (first | omega | exact hc rfl | exact absurd rfl hc | exact absurd hc h0 | exact h48 ⟨by assumption, by omega⟩) | contradiction | omega | exact absurd rfl hc | exact absurd (by decide) hc))))))
        all_goals ((with_reducible apply At.retV (B := [])); exact rfl; (repeat' (first | exact RVs.nil | (with_reducible apply RVs.cons) | exact rv_tmp (by rfl) | exact rv_cellN (by rfl) (by repeat constructor) (by rfl) (by rfl) (by rfl) | exact rv_cell1 (by rfl) (by repeat constructor) (by rfl) (by rfl) | exact rv_cellA (by rfl) (by repeat constructor) (by rfl) (by rfl) zlq)); exact zml; exact zkp; exact ⟨rfl, zml, rfl⟩)
end Wide
end Go.Proofs.YtnpgnlphdkbfiaaDoor
/- What the first stage's laws ask first: answers that the document gives. -/
set_option linter.unusedSimpArgs false
set_option linter.unusedVariables false
set_option linter.unusedSectionVars false
set_option maxRecDepth 20000
set_option maxHeartbeats 4000000
namespace Go.Proofs.YtnpgnlphdkbfiaaDoor
open Go Go.J
attribute [local irreducible] At AtQ AtM AtM1 PR Ct Pu Rd Res.blk Res.own Res.ex RVs RV
namespace Ra
open Wide
theorem Pu.cast {P : Program} {f : FuncId} {a a' : Array Value} {V V' : Value} (h : Pu P f a V) (ha : a = a') (hV : V = V') : Pu P f a' V' := ha ▸ hV ▸ h
theorem Rd.cast {P : Program} {f : FuncId} {a a' : Array Value} {m : Mem} {A : List Res} {V V' : Value} (h : Rd P f a m A V) (ha : a = a') (hV : V = V') : Rd P f a' m A V' := ha ▸ hV ▸ h
abbrev ww (h l : Int) : Value := .agg #[.int .u64 h, .int .u64 l]
abbrev r4 (a b c d : Int) : Value := .agg #[.int .u64 a, .int .u64 b, .int .u64 c, .int .u64 d]
theorem begins1 {m : Mem} (hz : TZ m) (hT : Tab m) : Rd Tryd.prog 5 #[] m [] (.bool true) := by
  unfold Rd
  have o1 : Pu Tryd.prog 8 #[.int .u64 1] (ww 0 1) := Pu.cast (of_ 1 (by decide)) rfl (by kernel_rfl)
  have o3 : Pu Tryd.prog 8 #[.int .u64 3] (ww 0 3) := Pu.cast (of_ 3 (by decide)) rfl (by kernel_rfl)
  have o12 : Pu Tryd.prog 8 #[.int .u64 12] (ww 0 12) := Pu.cast (of_ 12 (by decide)) rfl (by kernel_rfl)
  have o120 : Pu Tryd.prog 8 #[.int .u64 120] (ww 0 120) := Pu.cast (of_ 120 (by decide)) rfl (by kernel_rfl)
  have o750 : Pu Tryd.prog 8 #[.int .u64 750] (ww 0 750) := Pu.cast (of_ 750 (by decide)) rfl (by kernel_rfl)
  have k4 : ∀ m' : Mem, m.le m' → Rd Tryd.prog 12 #[ww 0 3, .int .u64 4] m' [] (.tuple #[r4 0 750 0 1, .int .i64 0]) := fun m' h => Rd.cast (rate (hz.mono h) 3 4 (by decide) (by decide)) (by kernel_rfl) (by kernel_rfl)
  have k5 : Pu Tryd.prog 6 #[ww 0 12, .int .u64 10] (.tuple #[ww 0 120, .int .i64 0]) := Pu.cast (times 12 10 (by decide) (by decide)) (by kernel_rfl) (by kernel_rfl)
  have k6 : ∀ m' : Mem, m.le m' → Rd Tryd.prog 9 #[ww 0 120] m' [] (.string (str [49, 50, 48])) := fun m' h => Rd.cast (text_ 120 (by decide) (hT.mono h)) (by kernel_rfl) (by rw [show dd 120 = [49, 50, 48] by decide +kernel])
  refine Ct.enterV (by rfl) Tryd.func5 rfl Tryd.ntmps5 rfl (fun w0 Rest => ?_)
  (repeat' (first | refine zss ?_ | ((first | (with_reducible first | apply At.val | apply AtQ.val)); (exact zprA); exact rfl) | refine zs0 ?_ | ((with_reducible first | apply AtM1.callp | apply AtQ.callp | apply At.callp); kernel_rfl; exact rfl; exact rfl; exact o1) | ((with_reducible first | apply AtM1.callp | apply AtQ.callp | apply At.callp); kernel_rfl; exact rfl; exact rfl; exact o3) | ((with_reducible first | apply AtM1.callp | apply AtQ.callp | apply At.callp); kernel_rfl; exact rfl; exact rfl; exact o12) | ((with_reducible first | apply AtM1.callp | apply AtQ.callp | apply At.callp); kernel_rfl; exact rfl; exact rfl; exact o120) | ((with_reducible first | apply AtM1.callp | apply AtQ.callp | apply At.callp); kernel_rfl; exact rfl; exact rfl; exact o750) | ((with_reducible first | apply AtM1.cr | apply AtQ.cr | apply At.cr); exact rfl; exact rfl; exact fun _ hmm => k4 _ hmm; exact ztk; kernel_rfl) | ((with_reducible first | apply AtM1.callp | apply AtQ.callp | apply At.callp); kernel_rfl; exact rfl; exact rfl; exact k5) | ((with_reducible first | apply AtM1.cr | apply AtQ.cr | apply At.cr); exact rfl; exact rfl; exact fun _ hmm => k6 _ hmm; exact ztk; kernel_rfl) | ((with_reducible apply At.alloc (d := 1)); exact rfl; exact rfl; intro b1) | ((with_reducible apply At.alloc (d := 3)); exact rfl; exact rfl; intro b3) | (refine zsp ?_ ?_ <;> (intro hc; (try simp only [zhcs, reduceCtorEq] at hc); (try (exfalso; first | (first | omega | exact absurd rfl hc | exact absurd hc (by decide)) | contradiction | omega | exact absurd rfl hc | exact absurd (by decide) hc))))))
  all_goals ((with_reducible apply At.retB1 (B := [])); exact rfl; exact rfl; exact zml; exact zkp; exact ⟨rfl, rfl, rfl⟩)
end Ra
end Go.Proofs.YtnpgnlphdkbfiaaDoor
