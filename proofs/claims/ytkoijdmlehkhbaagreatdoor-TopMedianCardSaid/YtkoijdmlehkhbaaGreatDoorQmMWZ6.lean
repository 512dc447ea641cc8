/- Part 6 of what the law's proof needs: rules of the walk, contracts of functions, plain laws. No condition. -/
import Derived.Test.YtkoijdmlehkhbaaGreatDoorQmMWZ5
import Derived.Test.YtkoijdmlehkhbaaGreatDoorRows
/- Cells: right ones, how they merge, what events have: the plain law. -/
set_option linter.unusedSimpArgs false
set_option linter.unusedVariables false
set_option linter.unusedSectionVars false
set_option maxRecDepth 20000
set_option maxHeartbeats 4000000
namespace Go.Proofs.YtkoijdmlehkhbaaGreatDoor
open Go Go.J
namespace Cell
open Ev
theorem ext {a b : Cell} (h1 : a.n = b.n) (h2 : a.F = b.F) (h3 : a.L = b.L) (h4 : a.I = b.I) (h5 : a.R = b.R) (h6 : a.G = b.G) (h7 : a.X = b.X) : a = b := by
  cases a; cases b; cases h1; cases h2; cases h3; cases h4; cases h5; cases h6; cases h7; rfl
instance : DecidableEq Cell := fun a b => decidable_of_iff (a.n = b.n ∧ a.F = b.F ∧ a.L = b.L ∧ a.I = b.I ∧ a.R = b.R ∧ a.G = b.G ∧ a.X = b.X)
  ⟨fun ⟨h1, h2, h3, h4, h5, h6, h7⟩ => ext h1 h2 h3 h4 h5 h6 h7, fun h => h ▸ ⟨rfl, rfl, rfl, rfl, rfl, rfl, rfl⟩⟩
/-- a right cell that is not zero -/
structure Full (c : Cell) : Prop where
  n : 1 ≤ c.n
  F : c.F.ok
  L : c.L.ok
  one : c.n = 1 → c.F = c.L
  lt : 1 < c.n → c.F.T < c.L.T
  len : c.n - 1 ≤ c.L.T - c.F.T
  R : 0 ≤ c.R
  G : 0 ≤ c.G
  RG : c.R + c.G ≤ c.n - 1
  X : 0 ≤ c.X
  XL : c.X ≤ c.L.T - c.F.T
  I : c.I ≤ 18446744073709551615 * (c.n - 1).toNat
def ok (c : Cell) : Prop := c = z ∨ Full c
theorem Full.ne {c : Cell} (h : Full c) : c ≠ z := fun e => by
  have := h.n
  rw [e] at this
  exact absurd this (by decide)
theorem Full.le {c : Cell} (h : Full c) : c.F.T ≤ c.L.T := by
  have h1 := h.n
  have h2 := h.len
  omega
instance (c : Cell) : Decidable (Full c) := decidable_of_iff (1 ≤ c.n ∧ c.F.ok ∧ c.L.ok ∧ (c.n = 1 → c.F = c.L) ∧ (1 < c.n → c.F.T < c.L.T) ∧ c.n - 1 ≤ c.L.T - c.F.T ∧ 0 ≤ c.R ∧ 0 ≤ c.G ∧ c.R + c.G ≤ c.n - 1 ∧ 0 ≤ c.X ∧ c.X ≤ c.L.T - c.F.T ∧ c.I ≤ 18446744073709551615 * (c.n - 1).toNat)
  ⟨fun ⟨h1, h2, h3, h4, h5, h6, h7, h8, h9, h10, h11, h12⟩ => ⟨h1, h2, h3, h4, h5, h6, h7, h8, h9, h10, h11, h12⟩, fun h => ⟨h.n, h.F, h.L, h.one, h.lt, h.len, h.R, h.G, h.RG, h.X, h.XL, h.I⟩⟩
instance (c : Cell) : Decidable (ok c) := by unfold ok; infer_instance
def chk (c : Cell) : Int := if ok c then 0 else 2
def one (e : Ev) : Cell := ⟨1, e, e, 0, 0, 0, 0⟩
theorem one_full {e : Ev} (h : e.ok) : Full (one e) := by
  refine ⟨?_, h, h, fun _ => rfl, ?_, ?_, ?_, ?_, ?_, ?_, ?_, ?_⟩ <;> dsimp only [one] <;> omega
def join (a b : Cell) : Cell := ⟨a.n + b.n, a.F, b.L, a.I + (btw a.L b.F).1.I + b.I, a.R + (btw a.L b.F).1.R + b.R, a.G + (btw a.L b.F).1.G + b.G, a.X + (btw a.L b.F).1.X + b.X⟩
def mrg (a b : Cell) : Cell × Int := if ¬ (ok a ∧ ok b) then (z, 2) else if a = z then (b, 0) else if b = z then (a, 0) else if b.F.T ≤ a.L.T then (z, 9) else (join a b, 0)
structure Btw (p c : Ev) : Prop where
  w : (btw p c).2 = 0
  R : 0 ≤ (btw p c).1.R
  G : 0 ≤ (btw p c).1.G
  RG : (btw p c).1.R + (btw p c).1.G ≤ 1
  X : 0 ≤ (btw p c).1.X
  XL : (btw p c).1.X ≤ c.T - p.T
  I : (btw p c).1.I ≤ c.V
theorem btw_bd {p c : Ev} (hp : p.ok) (hc : c.ok) (h : p.T < c.T) : Btw p c := by
  have ⟨h21, h22, h23, h24, h25⟩ := hc
  have e : btw p c = if c.S = true then (z, 0) else if p.T < c.C then (mk' c.V 1 0 (c.T - c.C), 0) else if p.S = true then (mk' 0 0 1 0, 0) else if c.V < p.V then (mk' c.V 1 0 (c.T - p.T), 0) else (mk' (c.V - p.V) 0 0 (c.T - p.T), 0) := by
    unfold btw
    rw [if_neg (not_not_intro (show two p c from ⟨hp, hc⟩)), if_neg (by omega)]
  by_cases a1 : c.S = true
  · rw [if_pos a1] at e
    constructor <;> rw [e] <;> first | rfl | (dsimp only [mk', Cell.z]; omega)
  rw [if_neg a1] at e
  by_cases a2 : p.T < c.C
  · rw [if_pos a2] at e
    constructor <;> rw [e] <;> first | rfl | (dsimp only [mk', Cell.z]; omega)
  rw [if_neg a2] at e
  by_cases a3 : p.S = true
  · rw [if_pos a3] at e
    constructor <;> rw [e] <;> first | rfl | (dsimp only [mk', Cell.z]; omega)
  rw [if_neg a3] at e
  by_cases a4 : c.V < p.V
  · rw [if_pos a4] at e
    constructor <;> rw [e] <;> first | rfl | (dsimp only [mk', Cell.z]; omega)
  · rw [if_neg a4] at e
    constructor <;> rw [e] <;> first | rfl | (dsimp only [mk', Cell.z]; omega)
theorem join_full {a b : Cell} (ha : Full a) (hb : Full b) (h : a.L.T < b.F.T) (hV : b.F.V < 18446744073709551616) : Full (join a b) := by
  obtain ⟨w, xR, xG, xRG, xX, xXL, xI⟩ := btw_bd ha.L hb.F h
  obtain ⟨a1, a2, a3, a4, a5, a6, a7, a8, a9, a10, a11, a12⟩ := ha
  obtain ⟨b1, b2, b3, b4, b5, b6, b7, b8, b9, b10, b11, b12⟩ := hb
  have hn : (join a b).n = a.n + b.n := rfl
  have hF : (join a b).F = a.F := rfl
  have hL : (join a b).L = b.L := rfl
  have e1 : (a.n + b.n - 1).toNat = (a.n - 1).toNat + (b.n - 1).toNat + 1 := by omega
  refine ⟨by rw [hn]; omega, a2, b3, fun h => by rw [hn] at h; omega, fun _ => by rw [hF, hL]; omega, by rw [hn, hF, hL]; omega, ?_, ?_, ?_, ?_, ?_, ?_⟩
  · show 0 ≤ a.R + (btw a.L b.F).1.R + b.R; omega
  · show 0 ≤ a.G + (btw a.L b.F).1.G + b.G; omega
  · show a.R + (btw a.L b.F).1.R + b.R + (a.G + (btw a.L b.F).1.G + b.G) ≤ a.n + b.n - 1; omega
  · show 0 ≤ a.X + (btw a.L b.F).1.X + b.X; omega
  · show a.X + (btw a.L b.F).1.X + b.X ≤ b.L.T - a.F.T; omega
  · show a.I + (btw a.L b.F).1.I + b.I ≤ 18446744073709551615 * (a.n + b.n - 1).toNat
    rw [e1]; omega
/-- numbers that fit -/
def Fits (c : Cell) : Prop := c.F.V < 18446744073709551616 ∧ c.L.V < 18446744073709551616
theorem mrg_cases {a b : Cell} : (mrg a b = (z, 2) ∧ ¬ (ok a ∧ ok b)) ∨ (mrg a b = (b, 0) ∧ a = z ∧ ok b) ∨ (mrg a b = (a, 0) ∧ Full a ∧ b = z) ∨ (mrg a b = (z, 9) ∧ Full a ∧ Full b ∧ b.F.T ≤ a.L.T) ∨ (mrg a b = (join a b, 0) ∧ Full a ∧ Full b ∧ a.L.T < b.F.T) := by
  unfold mrg
  by_cases h : ok a ∧ ok b
  · rw [if_neg (not_not_intro h)]
    obtain ⟨h1, h2⟩ := h
    by_cases ha : a = z
    · rw [if_pos ha]; exact .inr (.inl ⟨rfl, ha, h2⟩)
    · rw [if_neg ha]
      have fa := h1.resolve_left ha
      by_cases hb : b = z
      · rw [if_pos hb]; exact .inr (.inr (.inl ⟨rfl, fa, hb⟩))
      · rw [if_neg hb]
        have fb := h2.resolve_left hb
        by_cases ht : b.F.T ≤ a.L.T
        · rw [if_pos ht]; exact .inr (.inr (.inr (.inl ⟨rfl, fa, fb, ht⟩)))
        · rw [if_neg ht]; exact .inr (.inr (.inr (.inr ⟨rfl, fa, fb, by omega⟩)))
  · rw [if_pos h]; exact .inl ⟨rfl, h⟩
theorem mrg_join {a b : Cell} (ha : Full a) (hb : Full b) (h : a.L.T < b.F.T) : mrg a b = (join a b, 0) := by
  unfold mrg
  rw [if_neg (not_not_intro ⟨.inr ha, .inr hb⟩), if_neg ha.ne, if_neg hb.ne, if_neg (by omega)]
theorem mrg_zl {b : Cell} (h : ok b) : mrg z b = (b, 0) := by
  unfold mrg
  rw [if_neg (not_not_intro ⟨.inl rfl, h⟩), if_pos rfl]
theorem mrg_zr {a : Cell} (h : ok a) : mrg a z = (a, 0) := by
  by_cases ha : a = z
  · subst ha; exact mrg_zl (.inl rfl)
  · unfold mrg
    rw [if_neg (not_not_intro ⟨h, .inl rfl⟩), if_neg ha, if_pos rfl]
/-- what right ones merge to -/
theorem mrg_right {a b : Cell} (hb : Fits b) (h : (mrg a b).2 = 0) : ok (mrg a b).1 ∧ mrg z a = (a, 0) ∧ (mrg a b).1.n = a.n + b.n := by
  rcases mrg_cases (a := a) (b := b) with ⟨e, _⟩ | ⟨e, h1, h2⟩ | ⟨e, h1, h2⟩ | ⟨e, _⟩ | ⟨e, h1, h2, h3⟩
  · rw [e] at h; exact absurd h (by show ¬ (2 : Int) = 0; decide)
  · rw [e]; subst h1; exact ⟨h2, mrg_zl (.inl rfl), by show b.n = 0 + b.n; omega⟩
  · rw [e]; subst h2; exact ⟨.inr h1, mrg_zl (.inr h1), by show a.n = a.n + 0; omega⟩
  · rw [e] at h; exact absurd h (by show ¬ (9 : Int) = 0; decide)
  · rw [e]; exact ⟨.inr (join_full h1 h2 h3 hb.1), mrg_zl (.inr h1), rfl⟩
theorem mrg_bad {a b : Cell} (h : (mrg a b).2 ≠ 0) : (mrg a b).1 = z := by
  rcases mrg_cases (a := a) (b := b) with ⟨e, _⟩ | ⟨e, _⟩ | ⟨e, _⟩ | ⟨e, _⟩ | ⟨e, _⟩ <;> rw [e] at h ⊢
  · exact absurd rfl h
  · exact absurd rfl h
  · exact absurd rfl h
/-! ### events -/
def add (c : Cell) (e : Ev) : Cell := if c = z then one e else join c (one e)
def ofL (l : List Ev) : Cell × Int := if Mrg.chk l ≠ 0 then (z, Mrg.chk l) else (l.foldl add z, 0)
theorem add_full {c : Cell} {e : Ev} (hc : c = z ∨ (Full c ∧ c.L.T < e.T)) (he : e.ok) (hV : e.V < 18446744073709551616) : Full (add c e) ∧ (add c e).L = e ∧ mrg c (one e) = (add c e, 0) := by
  rcases hc with rfl | ⟨h1, h2⟩
  · rw [show add z e = one e from if_pos rfl]
    exact ⟨one_full he, rfl, mrg_zl (.inr (one_full he))⟩
  · rw [show add c e = join c (one e) from if_neg h1.ne]
    exact ⟨join_full h1 (one_full he) h2 hV, rfl, mrg_join h1 (one_full he) h2⟩
theorem fold_full : ∀ (l : List Ev) (c : Cell), (c = z ∨ (Full c ∧ ∀ e ∈ l, c.L.T < e.T)) → (∀ e ∈ l, e.ok ∧ e.V < 18446744073709551616) → Mrg.Asc l → (l = [] ∧ l.foldl add c = c) ∨ (∃ h : l ≠ [], Full (l.foldl add c) ∧ (l.foldl add c).L = l.getLast h)
  | [], _, _, _, _ => .inl ⟨rfl, rfl⟩
  | e :: l, c, hc, ho, ha => by
    obtain ⟨o1, o2⟩ := ho e (List.mem_cons_self ..)
    obtain ⟨a1, a2⟩ := List.pairwise_cons.1 ha
    obtain ⟨f1, f2, _⟩ := add_full (hc.imp_right fun ⟨h1, h2⟩ => ⟨h1, h2 e (List.mem_cons_self ..)⟩) o1 o2
    refine .inr ⟨by simp, ?_⟩
    rw [List.foldl_cons]
    rcases fold_full l (add c e) (.inr ⟨f1, fun x hx => by rw [f2]; exact a1 x hx⟩) (fun x hx => ho x (List.mem_cons_of_mem _ hx)) a2 with ⟨rfl, h⟩ | ⟨h, h1, h2⟩
    · exact ⟨by rw [h]; exact f1, by rw [h, f2]; rfl⟩
    · exact ⟨h1, by rw [h2, List.getLast_cons h]⟩
theorem fold_F : ∀ (l : List Ev) (c : Cell), Full c → (∀ e ∈ l, e.ok ∧ e.V < 18446744073709551616) → (∀ e ∈ l, c.L.T < e.T) → Mrg.Asc l → (l.foldl add c).F = c.F
  | [], _, _, _, _, _ => rfl
  | e :: l, c, hc, ho, hl, ha => by
    obtain ⟨o1, o2⟩ := ho e (List.mem_cons_self ..)
    obtain ⟨a1, a2⟩ := List.pairwise_cons.1 ha
    obtain ⟨f1, f2, _⟩ := add_full (.inr ⟨hc, hl e (List.mem_cons_self ..)⟩) o1 o2
    rw [List.foldl_cons, fold_F l _ f1 (fun x hx => ho x (List.mem_cons_of_mem _ hx)) (fun x hx => by rw [f2]; exact a1 x hx) a2, show add c e = join c (one e) from if_neg hc.ne]
    rfl
end Cell
end Go.Proofs.YtkoijdmlehkhbaaGreatDoor
/- Cells held against one another; which are right: the program's answer. -/
set_option linter.unusedSimpArgs false
set_option linter.unusedVariables false
set_option linter.unusedSectionVars false
set_option maxRecDepth 20000
set_option maxHeartbeats 4000000
namespace Go.Proofs.YtkoijdmlehkhbaaGreatDoor
open Go Go.J
attribute [local irreducible] At AtQ AtM AtM1 PR Ct Pu Rd Res.blk Res.own Res.ex RVs RV
namespace Cell
open Ev Wide
theorem wide_ext {a b : Nat} (h1 : ((a / 18446744073709551616 : Nat) : Int) = ((b / 18446744073709551616 : Nat) : Int)) (h2 : ((a % 18446744073709551616 : Nat) : Int) = ((b % 18446744073709551616 : Nat) : Int)) : a = b := by omega
theorem and_cell (a b : Cell) : andL [decide (a.n = b.n), decide (a.F.T = b.F.T), decide ((a.F.V : Int) = (b.F.V : Int)), decide (a.F.C = b.F.C), a.F.S == b.F.S, decide (a.L.T = b.L.T), decide ((a.L.V : Int) = (b.L.V : Int)), decide (a.L.C = b.L.C), a.L.S == b.L.S,
    decide (((a.I / 18446744073709551616 : Nat) : Int) = ((b.I / 18446744073709551616 : Nat) : Int)), decide (((a.I % 18446744073709551616 : Nat) : Int) = ((b.I % 18446744073709551616 : Nat) : Int)), decide (a.R = b.R), decide (a.G = b.G), decide (a.X = b.X)] = decide (a = b) := by
  by_cases h : a = b
  · subst h; simp [andL_cons, andL_nil]
  · rw [decide_eq_false h]
    cases hb : andL [decide (a.n = b.n), decide (a.F.T = b.F.T), decide ((a.F.V : Int) = (b.F.V : Int)), decide (a.F.C = b.F.C), a.F.S == b.F.S, decide (a.L.T = b.L.T), decide ((a.L.V : Int) = (b.L.V : Int)), decide (a.L.C = b.L.C), a.L.S == b.L.S,
    decide (((a.I / 18446744073709551616 : Nat) : Int) = ((b.I / 18446744073709551616 : Nat) : Int)), decide (((a.I % 18446744073709551616 : Nat) : Int) = ((b.I % 18446744073709551616 : Nat) : Int)), decide (a.R = b.R), decide (a.G = b.G), decide (a.X = b.X)] with
    | false => rfl
    | true =>
      simp only [andL_cons, andL_nil, Bool.and_eq_true, decide_eq_true_eq, beq_iff_eq] at hb
      obtain ⟨h1, h2, h3, h4, h5, h6, h7, h8, h9, h10, h11, h12, h13, h14, _⟩ := hb
      exact absurd (ext h1 (Mrg.ev_ext h2 (Int.ofNat.inj h3) h4 h5) (Mrg.ev_ext h6 (Int.ofNat.inj h7) h8 h9) (wide_ext h10 h11) h12 h13 h14) h
theorem pr_ceq {n : Nat} {F : Fr} {C : World → Prop} {x y : Operand} {u : TypeId} {a b : Cell} (hx : ev F x = some a.v) (hy : ev F y = some b.v) : PR Tryz.prog n F C (.binOp .eql 59 x y u) (.bool (decide (a = b))) := by
  rw [← and_cell]
  exact pr_aggeq2 hx hy (by rfl) (by kernel_rfl) (by kernel_rfl) (by rfl)
theorem none_ (c : Cell) : Pu Tryz.prog 103 #[c.v] (.bool (decide (c = z))) := Pu.intro fun m => by
  refine Ct.enterV (by rfl) Tryz.func103 rfl Tryz.ntmps103 rfl (fun w0 Rest => ?_)
  (repeat' (first | refine zss ?_ | ((first | (with_reducible first | apply At.val | apply AtQ.val)); (exact pr_ceq (b := z) (by rfl) (by rfl)); exact rfl) | refine zs0 ?_ | ((with_reducible apply At.box (d := 1)); exact rfl; exact rfl; exact rfl; intro b1) | (refine zsp ?_ ?_ <;> (intro hc; (try simp only [zhcs, reduceCtorEq] at hc); (try (exfalso; first | contradiction | omega | exact absurd rfl hc | exact absurd (by decide) hc))))))
  all_goals ((with_reducible apply At.retB1 (B := [])); exact rfl; exact rfl; exact zml; exact zkp; exact ⟨rfl, rfl, rfl⟩)
theorem in_ (n k : Int) : Pu Tryz.prog 152 #[.int .i64 n, .int .i64 k] (.bool (decide (0 ≤ n ∧ n ≤ k))) := Pu.intro fun m => by
  refine Ct.enterV (by rfl) Tryz.func152 rfl Tryz.ntmps152 rfl (fun w0 Rest => ?_)
  (repeat' (first | refine zss ?_ | refine zs0 ?_ | (refine zsp ?_ ?_ <;> (intro hc; (try simp only [zhcs, reduceCtorEq] at hc); (try (exfalso; first | contradiction | omega | exact absurd rfl hc | exact absurd (by decide) hc))))))
  all_goals ((with_reducible apply At.retB1 (B := [])); exact rfl; exact rfl; exact zml; exact zkp; exact ⟨congrArg Value.bool (by simp [hc]), rfl, rfl⟩)
/-- a cell's events may be its first and its last -/
def spn (c : Cell) : Prop := (c.n = 1 ∧ c.F = c.L ∧ c.F.ok) ∨ (1 < c.n ∧ c.F.ok ∧ c.L.ok ∧ c.F.T < c.L.T ∧ c.n - 1 ≤ c.L.T - c.F.T)
instance (c : Cell) : Decidable (spn c) := by unfold spn; infer_instance
theorem spans (c : Cell) (hn : -9223372036854775808 ≤ c.n ∧ c.n ≤ 9223372036854775807) : Pu Tryz.prog 151 #[c.v] (.bool (decide (spn c))) := Pu.intro fun m => by
  have hk := Ev.check c.F
  by_cases h1 : c.n = 1
  · by_cases h2 : c.F = c.L
    · by_cases h3 : c.F.ok
      · rw [show c.F.chk = 0 from if_pos h3] at hk
        rw [decide_eq_true (show spn c from .inl ⟨h1, h2, h3⟩)]
        refine Ct.enterV (by rfl) Tryz.func151 rfl Tryz.ntmps151 rfl (fun w0 Rest => ?_)
        (repeat' (first | refine zss ?_ | ((first | (with_reducible first | apply At.val | apply AtQ.val)); (exact Mrg.pr_eveq (a := c.F) (b := c.L) (by rfl) (by rfl)); exact rfl) | refine zs0 ?_ | ((with_reducible first | apply AtM1.callp | apply AtQ.callp | apply At.callp); kernel_rfl; exact rfl; exact rfl; exact hk) | ((with_reducible apply At.box (d := 1)); exact rfl; exact rfl; exact rfl; intro b1) | (refine zsp ?_ ?_ <;> (intro hc; (try simp only [zhcs, reduceCtorEq] at hc); (try (exfalso; first | (first | omega | exact absurd h2 hc) | contradiction | omega | exact absurd rfl hc | exact absurd (by decide) hc))))))
        all_goals ((with_reducible apply At.retB1 (B := [])); exact rfl; exact rfl; exact zml; exact zkp; exact ⟨rfl, rfl, rfl⟩)
      · rw [show c.F.chk = 2 from if_neg h3] at hk
        rw [decide_eq_false (show ¬ spn c from fun h => h.elim (fun h => h3 h.2.2) (fun h => by omega))]
        refine Ct.enterV (by rfl) Tryz.func151 rfl Tryz.ntmps151 rfl (fun w0 Rest => ?_)
        (repeat' (first | refine zss ?_ | ((first | (with_reducible first | apply At.val | apply AtQ.val)); (exact Mrg.pr_eveq (a := c.F) (b := c.L) (by rfl) (by rfl)); exact rfl) | refine zs0 ?_ | ((with_reducible first | apply AtM1.callp | apply AtQ.callp | apply At.callp); kernel_rfl; exact rfl; exact rfl; exact hk) | ((with_reducible apply At.box (d := 1)); exact rfl; exact rfl; exact rfl; intro b1) | (refine zsp ?_ ?_ <;> (intro hc; (try simp only [zhcs, reduceCtorEq] at hc); (try (exfalso; first | (first | omega | exact absurd h2 hc) | contradiction | omega | exact absurd rfl hc | exact absurd (by decide) hc))))))
        all_goals ((with_reducible apply At.retB1 (B := [])); exact rfl; exact rfl; exact zml; exact zkp; exact ⟨rfl, rfl, rfl⟩)
    · rw [decide_eq_false (show ¬ spn c from fun h => h.elim (fun h => h2 h.2.1) (fun h => by omega))]
      refine Ct.enterV (by rfl) Tryz.func151 rfl Tryz.ntmps151 rfl (fun w0 Rest => ?_)
      (repeat' (first | refine zss ?_ | ((first | (with_reducible first | apply At.val | apply AtQ.val)); (exact Mrg.pr_eveq (a := c.F) (b := c.L) (by rfl) (by rfl)); exact rfl) | refine zs0 ?_ | ((with_reducible apply At.box (d := 1)); exact rfl; exact rfl; exact rfl; intro b1) | (refine zsp ?_ ?_ <;> (intro hc; (try simp only [zhcs, reduceCtorEq] at hc); (try (exfalso; first | (first | omega | exact absurd hc h2) | contradiction | omega | exact absurd rfl hc | exact absurd (by decide) hc))))))
      all_goals ((with_reducible apply At.retB1 (B := [])); exact rfl; exact rfl; exact zml; exact zkp; exact ⟨rfl, rfl, rfl⟩)
  · by_cases h2 : 1 < c.n
    · have hf := Ev.follow c.F c.L
      by_cases h3 : c.F.ok ∧ c.L.ok ∧ c.F.T < c.L.T
      · obtain ⟨o1, o2, o3⟩ := h3
        rw [show fol c.F c.L = true by unfold fol; rw [decide_eq_true (show two c.F c.L from ⟨o1, o2⟩), decide_eq_true o3]; rfl] at hf
        have ⟨p1, p2, _⟩ := o1
        have ⟨p3, p4, _⟩ := o2
        by_cases h4 : c.n - 1 ≤ c.L.T - c.F.T
        · rw [decide_eq_true (show spn c from .inr ⟨h2, o1, o2, o3, h4⟩)]
          refine Ct.enterV (by rfl) Tryz.func151 rfl Tryz.ntmps151 rfl (fun w0 Rest => ?_)
          (repeat' (first | refine zss ?_ | refine zs0 ?_ | ((with_reducible first | apply AtM1.callp | apply AtQ.callp | apply At.callp); kernel_rfl; exact rfl; exact rfl; exact hf) | ((with_reducible apply At.box (d := 1)); exact rfl; exact rfl; exact rfl; intro b1) | (refine zsp ?_ ?_ <;> (intro hc; (try simp only [zhcs, reduceCtorEq] at hc); (try (exfalso; first | omega | contradiction | omega | exact absurd rfl hc | exact absurd (by decide) hc))))))
          all_goals ((with_reducible apply At.retB1 (B := [])); exact rfl; exact rfl; exact zml; exact zkp; exact ⟨congrArg Value.bool (decide_eq_true h4), rfl, rfl⟩)
        · rw [decide_eq_false (show ¬ spn c from fun h => h.elim (fun h => h1 h.1) (fun h => h4 h.2.2.2.2))]
          refine Ct.enterV (by rfl) Tryz.func151 rfl Tryz.ntmps151 rfl (fun w0 Rest => ?_)
          (repeat' (first | refine zss ?_ | refine zs0 ?_ | ((with_reducible first | apply AtM1.callp | apply AtQ.callp | apply At.callp); kernel_rfl; exact rfl; exact rfl; exact hf) | ((with_reducible apply At.box (d := 1)); exact rfl; exact rfl; exact rfl; intro b1) | (refine zsp ?_ ?_ <;> (intro hc; (try simp only [zhcs, reduceCtorEq] at hc); (try (exfalso; first | omega | contradiction | omega | exact absurd rfl hc | exact absurd (by decide) hc))))))
          all_goals ((with_reducible apply At.retB1 (B := [])); exact rfl; exact rfl; exact zml; exact zkp; exact ⟨congrArg Value.bool (decide_eq_false h4), rfl, rfl⟩)
      · rw [show fol c.F c.L = false by
          unfold fol
          by_cases ht : two c.F c.L
          · rw [decide_eq_false (show ¬ c.F.T < c.L.T from fun h => h3 ⟨ht.1, ht.2, h⟩), Bool.and_false]
          · rw [decide_eq_false ht, Bool.false_and]] at hf
        rw [decide_eq_false (show ¬ spn c from fun h => h.elim (fun h => h1 h.1) (fun h => h3 ⟨h.2.1, h.2.2.1, h.2.2.2.1⟩))]
        refine Ct.enterV (by rfl) Tryz.func151 rfl Tryz.ntmps151 rfl (fun w0 Rest => ?_)
        (repeat' (first | refine zss ?_ | refine zs0 ?_ | ((with_reducible first | apply AtM1.callp | apply AtQ.callp | apply At.callp); kernel_rfl; exact rfl; exact rfl; exact hf) | ((with_reducible apply At.box (d := 1)); exact rfl; exact rfl; exact rfl; intro b1) | (refine zsp ?_ ?_ <;> (intro hc; (try simp only [zhcs, reduceCtorEq] at hc); (try (exfalso; first | omega | contradiction | omega | exact absurd rfl hc | exact absurd (by decide) hc))))))
        all_goals ((with_reducible apply At.retB1 (B := [])); exact rfl; exact rfl; exact zml; exact zkp; exact ⟨rfl, rfl, rfl⟩)
    · rw [decide_eq_false (show ¬ spn c from fun h => h.elim (fun h => h1 h.1) (fun h => h2 h.1))]
      refine Ct.enterV (by rfl) Tryz.func151 rfl Tryz.ntmps151 rfl (fun w0 Rest => ?_)
      (repeat' (first | refine zss ?_ | refine zs0 ?_ | ((with_reducible apply At.box (d := 1)); exact rfl; exact rfl; exact rfl; intro b1) | (refine zsp ?_ ?_ <;> (intro hc; (try simp only [zhcs, reduceCtorEq] at hc); (try (exfalso; first | omega | contradiction | omega | exact absurd rfl hc | exact absurd (by decide) hc))))))
      all_goals ((with_reducible apply At.retB1 (B := [])); exact rfl; exact rfl; exact zml; exact zkp; exact ⟨rfl, rfl, rfl⟩)
end Cell
end Go.Proofs.YtkoijdmlehkhbaaGreatDoor
/- Which cells are right, as the program and the document tell it. -/
set_option linter.unusedSimpArgs false
set_option linter.unusedVariables false
set_option linter.unusedSectionVars false
set_option maxRecDepth 20000
set_option maxHeartbeats 4000000
namespace Go.Proofs.YtkoijdmlehkhbaaGreatDoor
open Go Go.J
attribute [local irreducible] At AtQ AtM AtM1 PR Ct Pu Rd Res.blk Res.own Res.ex RVs RV
namespace Cell
open Ev Wide
theorem spn_pos {c : Cell} (h : spn c) : 1 ≤ c.n ∧ c.n ≤ 35184372088833 ∧ c.F.ok ∧ c.L.ok ∧ (c.n = 1 → c.F = c.L) ∧ (1 < c.n → c.F.T < c.L.T) ∧ c.n - 1 ≤ c.L.T - c.F.T := by
  rcases h with ⟨h1, h2, h3⟩ | ⟨h1, h2, h3, h4, h5⟩
  · exact ⟨by omega, by omega, h3, h2 ▸ h3, fun _ => h2, fun h => by omega, by rw [h2]; omega⟩
  · have ⟨p1, p2, _⟩ := h2
    have ⟨p3, p4, _⟩ := h3
    exact ⟨by omega, by omega, h2, h3, fun h => by omega, fun _ => h4, h5⟩
theorem full_iff {c : Cell} {k : Nat} (hk : c.n - 1 = (k : Int)) (hs : spn c) : Full c ↔ c.I ≤ 18446744073709551615 * k ∧ (0 ≤ c.G ∧ c.G ≤ (k : Int)) ∧ (0 ≤ c.R ∧ c.R ≤ (k : Int) - c.G) ∧ 0 ≤ c.X ∧ c.X ≤ c.L.T - c.F.T := by
  obtain ⟨a1, a2, a3, a4, a5, a6, a7⟩ := spn_pos hs
  have e : (c.n - 1).toNat = k := by omega
  constructor
  · intro h
    have h1 := h.I
    have h2 := h.G
    have h3 := h.R
    have h4 := h.RG
    have h5 := h.X
    have h6 := h.XL
    rw [e] at h1
    exact ⟨h1, ⟨h2, by omega⟩, ⟨h3, by omega⟩, h5, h6⟩
  · rintro ⟨h1, ⟨h2, h3⟩, ⟨h4, h5⟩, h6, h7⟩
    exact ⟨a1, a3, a4, a5, a6, a7, h4, h2, by omega, h6, h7, by rw [e]; exact h1⟩
theorem full_spn {c : Cell} (h : Full c) : spn c := by
  by_cases h1 : c.n = 1
  · exact .inl ⟨h1, h.one h1, h.F⟩
  · have := h.n
    exact .inr ⟨by omega, h.F, h.L, h.lt (by omega), h.len⟩
theorem sV_small {x : Nat} (h : x < 340282366920938463463374607431768211456) : sV x = x ∧ sE x = 0 := ⟨if_pos h, if_pos h⟩
set_option maxHeartbeats 1000000 in
theorem check (c : Cell) (hn : -9223372036854775808 ≤ c.n ∧ c.n ≤ 9223372036854775807) : Pu Tryz.prog 102 #[c.v] (.int .i64 (chk c)) := Pu.of_le fun m => by
  have k1 := none_ c
  have k2 := spans c hn
  by_cases hz : c = z
  · rw [show chk c = 0 from if_pos (.inl hz)]
    rw [decide_eq_true hz] at k1
    refine Ct.enterV (by rfl) Tryz.func102 rfl Tryz.ntmps102 rfl (fun w0 Rest => ?_)
    (repeat' (first | refine zss ?_ | refine zs0 ?_ | ((with_reducible first | apply AtM1.callp | apply AtQ.callp | apply At.callp); kernel_rfl; exact rfl; exact rfl; exact k1) | ((with_reducible apply At.box (d := 1)); exact rfl; exact rfl; exact rfl; intro b1) | ((with_reducible apply At.alloc (d := 4)); exact rfl; exact rfl; intro b4) | (refine zsp ?_ ?_ <;> (intro hc; (try simp only [zhcs, reduceCtorEq] at hc); (try (exfalso; first | omega | contradiction | omega | exact absurd rfl hc | exact absurd (by decide) hc))))))
    all_goals ((with_reducible apply At.retB1 (B := [])); exact rfl; exact rfl; exact zml; exact zkp; exact ⟨rfl, Mem.le_refl _, rfl⟩)
  · rw [decide_eq_false hz] at k1
    by_cases hs : spn c
    · rw [decide_eq_true hs] at k2
      obtain ⟨a1, a2, a3, a4, a5, a6, a7⟩ := spn_pos hs
      obtain ⟨k, hk⟩ : ∃ k : Nat, c.n - 1 = (k : Int) := ⟨(c.n - 1).toNat, by omega⟩
      have hf := full_iff hk hs
      have ⟨p1, p2, _⟩ := a3
      have ⟨p3, p4, _⟩ := a4
      have ht := Wide.times 18446744073709551615 k (by decide) (by omega)
      obtain ⟨e1, e2⟩ := sV_small (x := 18446744073709551615 * k) (by omega)
      rw [e1, e2] at ht
      have ho := Wide.of_ 18446744073709551615 (by decide)
      obtain ⟨T, hT⟩ : ∃ T, 18446744073709551615 * k = T := ⟨_, rfl⟩
      rw [hT] at ht hf
      have hl := Wide.less T c.I
      have hsub : IntKind.wrap .i64 (c.n - 1) = (k : Int) := by rw [hk]; exact IntWalk.i64_in _ (by omega)
      have hcv : IntKind.wrap .u64 (k : Int) = (k : Int) := IntWalk.u64_in _ (by omega)
      by_cases hF : Full c
      · rw [show chk c = 0 from if_pos (.inr hF)]
        obtain ⟨h1, ⟨h2, h3⟩, ⟨h4, h5⟩, h6, h7⟩ := hf.1 hF
        rw [decide_eq_false (by omega)] at hl
        refine Ct.enterV (by rfl) Tryz.func102 rfl Tryz.ntmps102 rfl (fun w0 Rest => ?_)
        (repeat' (first | refine zss ?_ | ((first | (with_reducible first | apply At.val | apply AtQ.val)); (first | exact pr_sub (by rfl) (by rfl) hsub | exact pr_conv ⟨_, rfl⟩ (by rfl) (by rfl) hcv); exact rfl) | refine zs0 ?_ | ((with_reducible first | apply AtM1.callp | apply AtQ.callp | apply At.callp); kernel_rfl; exact rfl; exact rfl; exact k1) | ((with_reducible first | apply AtM1.callp | apply AtQ.callp | apply At.callp); kernel_rfl; exact rfl; exact rfl; exact k2) | ((with_reducible first | apply AtM1.callp | apply AtQ.callp | apply At.callp); kernel_rfl; exact rfl; exact rfl; exact ho) | ((with_reducible first | apply AtM1.callp | apply AtQ.callp | apply At.callp); kernel_rfl; exact rfl; exact rfl; exact ht) | ((with_reducible first | apply AtM1.callp | apply AtQ.callp | apply At.callp); kernel_rfl; exact rfl; exact rfl; exact hl) | ((with_reducible first | apply AtM1.callp | apply AtQ.callp | apply At.callp); kernel_rfl; exact rfl; exact rfl; exact in_ _ _) | ((with_reducible apply At.box (d := 1)); exact rfl; exact rfl; exact rfl; intro b1) | ((with_reducible apply At.alloc (d := 4)); exact rfl; exact rfl; intro b4) | (refine zsp ?_ ?_ <;> (intro hc; (try simp only [zhcs, reduceCtorEq] at hc); (try (exfalso; first | omega | contradiction | omega | exact absurd rfl hc | exact absurd (by decide) hc))))))
        all_goals ((with_reducible apply At.retB1 (B := [])); exact rfl; exact rfl; exact zml; exact zkp; exact ⟨rfl, Mem.le_refl _, rfl⟩)
      · rw [show chk c = 2 from if_neg (fun h => h.elim hz hF)]
        rw [hf] at hF
        refine Ct.enterV (by rfl) Tryz.func102 rfl Tryz.ntmps102 rfl (fun w0 Rest => ?_)
        (repeat' (first | refine zss ?_ | ((first | (with_reducible first | apply At.val | apply AtQ.val)); (first | exact pr_sub (by rfl) (by rfl) hsub | exact pr_conv ⟨_, rfl⟩ (by rfl) (by rfl) hcv); exact rfl) | refine zs0 ?_ | ((with_reducible first | apply AtM1.callp | apply AtQ.callp | apply At.callp); kernel_rfl; exact rfl; exact rfl; exact k1) | ((with_reducible first | apply AtM1.callp | apply AtQ.callp | apply At.callp); kernel_rfl; exact rfl; exact rfl; exact k2) | ((with_reducible first | apply AtM1.callp | apply AtQ.callp | apply At.callp); kernel_rfl; exact rfl; exact rfl; exact ho) | ((with_reducible first | apply AtM1.callp | apply AtQ.callp | apply At.callp); kernel_rfl; exact rfl; exact rfl; exact ht) | ((with_reducible first | apply AtM1.callp | apply AtQ.callp | apply At.callp); kernel_rfl; exact rfl; exact rfl; exact hl) | ((with_reducible first | apply AtM1.callp | apply AtQ.callp | apply At.callp); kernel_rfl; exact rfl; exact rfl; exact in_ _ _) | ((with_reducible apply At.box (d := 1)); exact rfl; exact rfl; exact rfl; intro b1) | ((with_reducible apply At.alloc (d := 4)); exact rfl; exact rfl; intro b4) | (refine zsp ?_ ?_ <;> (intro hc; (try simp only [zhcs, reduceCtorEq] at hc); (try (exfalso; first | (first | omega | exact hF ⟨by omega, by omega, by omega, by omega, by omega⟩) | contradiction | omega | exact absurd rfl hc | exact absurd (by decide) hc))))))
        all_goals ((with_reducible apply At.retB1 (B := [])); exact rfl; exact rfl; exact zml; exact zkp; exact ⟨rfl, Mem.le_refl _, rfl⟩)
    · rw [show chk c = 2 from if_neg (fun h => h.elim hz (fun h => hs (full_spn h)))]
      rw [decide_eq_false hs] at k2
      refine Ct.enterV (by rfl) Tryz.func102 rfl Tryz.ntmps102 rfl (fun w0 Rest => ?_)
      (repeat' (first | refine zss ?_ | refine zs0 ?_ | ((with_reducible first | apply AtM1.callp | apply AtQ.callp | apply At.callp); kernel_rfl; exact rfl; exact rfl; exact k1) | ((with_reducible first | apply AtM1.callp | apply AtQ.callp | apply At.callp); kernel_rfl; exact rfl; exact rfl; exact k2) | ((with_reducible apply At.box (d := 1)); exact rfl; exact rfl; exact rfl; intro b1) | ((with_reducible apply At.alloc (d := 4)); exact rfl; exact rfl; intro b4) | (refine zsp ?_ ?_ <;> (intro hc; (try simp only [zhcs, reduceCtorEq] at hc); (try (exfalso; first | omega | contradiction | omega | exact absurd rfl hc | exact absurd (by decide) hc))))))
      all_goals ((with_reducible apply At.retB1 (B := [])); exact rfl; exact rfl; exact zml; exact zkp; exact ⟨rfl, Mem.le_refl _, rfl⟩)
end Cell
end Go.Proofs.YtkoijdmlehkhbaaGreatDoor
/- The contracts of the package window and of its reference. -/
set_option linter.unusedSimpArgs false
set_option linter.unusedVariables false
set_option linter.unusedSectionVars false
set_option maxRecDepth 20000
set_option maxHeartbeats 4000000
namespace Go.Proofs.YtkoijdmlehkhbaaGreatDoor
open Go Go.J
attribute [local irreducible] At AtQ PR Ct Pu

namespace Win
def ofOk (t w : Int) : Prop := 0 ≤ t ∧ t ≤ 35184372088831 ∧ 1 ≤ w ∧ w ≤ 1099511627776
instance (t w : Int) : Decidable (ofOk t w) := by unfold ofOk; infer_instance
def ofV (t w : Int) : Int := if ofOk t w then t / w else 0
def ofE (t w : Int) : Int := if ofOk t w then 0 else 1
def beginOk (i w : Int) : Prop := 1 ≤ w ∧ w ≤ 1099511627776 ∧ 0 ≤ i ∧ i ≤ 35184372088832 / w
instance (t w : Int) : Decidable (beginOk t w) := by unfold beginOk; infer_instance
def oldOk (t w n : Int) : Prop := ofOk t w ∧ 1 ≤ n ∧ n ≤ 4096
instance (t w n : Int) : Decidable (oldOk t w n) := by unfold oldOk; infer_instance
def oldV (t w n : Int) : Int := if oldOk t w n then (if 0 < t / w + 1 - n then t / w + 1 - n else 0) else 0
def oldE (t w n : Int) : Int := if oldOk t w n then 0 else 1
def slotV (i n : Int) : Int := if i < 0 ∨ n < 1 then 0 else i % n
def spanR (a b w : Int) : Bool := decide (1 ≤ w ∧ w ≤ 1099511627776 ∧ 0 ≤ a ∧ b ≤ 35184372088832 ∧ a < b)
def spanU (a b w : Int) : Bool := decide (a % w = 0 ∧ b % w = 0)
def spanE (a b w : Int) : Int := if spanR a b w then (if spanU a b w then 0 else 10) else 1
def spanA (a b w : Int) : Int := if spanR a b w && spanU a b w then a / w else 0
def spanB (a b w : Int) : Int := if spanR a b w && spanU a b w then b / w else 0
def goneV (t now w n : Int) : Bool := decide (ofE t w = 0 ∧ oldE now w n = 0 ∧ ofV t w < oldV now w n)
theorem ofE_cases (t w : Int) : (ofOk t w ∧ ofE t w = 0 ∧ ofV t w = t / w) ∨ (¬ ofOk t w ∧ ofE t w = 1 ∧ ofV t w = 0) := by
  unfold ofE ofV; by_cases h : ofOk t w <;> simp [h]
theorem ofV_bd (t w : Int) : 0 ≤ ofV t w ∧ ofV t w ≤ 35184372088831 := by
  unfold ofV; split
  · rename_i h; obtain ⟨h1, h2, h3, h4⟩ := h
    have := Int.ediv_nonneg h1 (by omega : 0 ≤ w)
    have := Int.ediv_le_self w h1
    omega
  · omega
theorem mod_bd {t w : Int} (h3 : 1 ≤ w) : 0 ≤ t % w ∧ t % w < w := ⟨Int.emod_nonneg t (by omega), Int.emod_lt_of_pos t (by omega)⟩
end Win
open Win

theorem win_in64 (n a b : Int) : Pu Tryz.prog 193 #[.int .i64 n, .int .i64 a, .int .i64 b] (.bool (decide (a ≤ n ∧ n ≤ b))) := Pu.intro fun m => by
  refine Ct.enterV (by rfl) Tryz.func193 rfl Tryz.ntmps193 rfl (fun w0 Rest => ?_)
  (repeat' (first | refine zss ?_ | refine zs0 ?_ | (refine zsp ?_ ?_ <;> (intro hc; (try simp only [zhcs, reduceCtorEq] at hc); (try (exfalso; first | contradiction | omega | exact absurd rfl hc | exact absurd (by decide) hc))))))
  all_goals (refine At.ret1 rfl (by rfl) (Mem.le_refl _) ⟨?_, rfl, rfl⟩ (Ent.refl _); simp [hc])
theorem win_in (n a b : Int) : Pu Tryz.prog 222 #[.int .i64 n, .int .i64 a, .int .i64 b] (.bool (decide (a ≤ n ∧ n ≤ b))) := Pu.intro fun m => by
  refine Ct.enterV (by rfl) Tryz.func222 rfl Tryz.ntmps222 rfl (fun w0 Rest => ?_)
  (repeat' (first | refine zss ?_ | refine zs0 ?_ | (refine zsp ?_ ?_ <;> (intro hc; (try simp only [zhcs, reduceCtorEq] at hc); (try (exfalso; first | contradiction | omega | exact absurd rfl hc | exact absurd (by decide) hc))))))
  all_goals (refine At.ret1 rfl (by rfl) (Mem.le_refl _) ⟨?_, rfl, rfl⟩ (Ent.refl _); simp [hc])
theorem win_width (w : Int) : Pu Tryz.prog 147 #[.int .i64 w] (.bool (decide (1 ≤ w ∧ w ≤ 1099511627776))) := Pu.intro fun m => by
  refine Ct.enterV (by rfl) Tryz.func147 rfl Tryz.ntmps147 rfl (fun w0 Rest => ?_)
  (repeat' (first | refine zss ?_ | refine zs0 ?_ | ((with_reducible first | apply AtM1.callp | apply AtQ.callp | apply At.callp); kernel_rfl; exact rfl; exact rfl; exact win_in64 _ _ _) | (refine zsp ?_ ?_ <;> (intro hc; (try simp only [zhcs, reduceCtorEq] at hc); (try (exfalso; first | contradiction | omega | exact absurd rfl hc | exact absurd (by decide) hc))))))
  all_goals (refine At.ret1 rfl (by rfl) (Mem.le_refl _) ⟨?_, rfl, rfl⟩ (Ent.refl _); rfl)
theorem win_of (t w : Int) : Pu Tryz.prog 190 #[.int .i64 t, .int .i64 w] (.tuple #[.int .i64 (ofV t w), .int .i64 (ofE t w)]) := Pu.intro fun m => by
  refine Ct.enterV (by rfl) Tryz.func190 rfl Tryz.ntmps190 rfl (fun w0 Rest => ?_)
  (repeat' (first | refine zss ?_ | refine zs0 ?_ | ((with_reducible first | apply AtM1.callp | apply AtQ.callp | apply At.callp); kernel_rfl; exact rfl; exact rfl; exact win_in64 _ _ _) | ((with_reducible first | apply AtM1.callp | apply AtQ.callp | apply At.callp); kernel_rfl; exact rfl; exact rfl; exact win_width _) | (refine zsp ?_ ?_ <;> (intro hc; (try simp only [zhcs, reduceCtorEq] at hc); (try (exfalso; first | contradiction | omega | exact absurd rfl hc | exact absurd (by decide) hc))))))
  all_goals (refine At.ret2 rfl (by rfl) (by rfl) (Mem.le_refl _) ⟨?_, rfl, rfl⟩ (Ent.refl _); (first | (have hif : ofOk t w := (by unfold ofOk; omega); simp only [ofV, ofE, if_pos hif]; done) | (have hif : ¬ ofOk t w := (by unfold ofOk; omega); simp only [ofV, ofE, if_neg hif]; done)))
theorem win_oldest (t w n : Int) : Pu Tryz.prog 191 #[.int .i64 t, .int .i64 w, .int .i64 n] (.tuple #[.int .i64 (oldV t w n), .int .i64 (oldE t w n)]) := Pu.intro fun m => by
  have hb := ofV_bd t w
  rcases ofE_cases t w with ⟨h1, h2, h3⟩ | ⟨h1, h2, h3⟩
  all_goals (refine Ct.enterV (by rfl) Tryz.func191 rfl Tryz.ntmps191 rfl (fun w0 Rest => ?_); (repeat' (first | refine zss ?_ | refine zs0 ?_ | ((with_reducible first | apply AtM1.callp | apply AtQ.callp | apply At.callp); kernel_rfl; exact rfl; exact rfl; exact win_of _ _) | ((with_reducible first | apply AtM1.callp | apply AtQ.callp | apply At.callp); kernel_rfl; exact rfl; exact rfl; exact win_in _ _ _) | (refine zsp ?_ ?_ <;> (intro hc; (try simp only [zhcs, reduceCtorEq] at hc); (try (exfalso; first | contradiction | omega | exact absurd rfl hc | exact absurd (by decide) hc)))))))
  all_goals (refine At.ret2 rfl (by rfl) (by rfl) (Mem.le_refl _) ⟨?_, rfl, rfl⟩ (Ent.refl _))
  all_goals first
    | (have hif : oldOk t w n := ⟨h1, by omega⟩; simp only [oldV, oldE, if_pos hif, h3]; done)
    | (have hif : ¬ oldOk t w n := (fun h => by first | exact h1 h.1 | (have := h.2; omega)); simp only [oldV, oldE, if_neg hif]; done)
theorem win_slot (i n : Int) (hi : -9223372036854775808 ≤ i ∧ i ≤ 9223372036854775807) (hn : -9223372036854775808 ≤ n ∧ n ≤ 9223372036854775807) : Pu Tryz.prog 223 #[.int .i64 i, .int .i64 n] (.int .i64 (slotV i n)) := Pu.intro fun m => by
  have hm := @mod_bd i n
  refine Ct.enterV (by rfl) Tryz.func223 rfl Tryz.ntmps223 rfl (fun w0 Rest => ?_)
  (repeat' (first | refine zss ?_ | refine zs0 ?_ | (refine zsp ?_ ?_ <;> (intro hc; (try simp only [zhcs, reduceCtorEq] at hc); (try (exfalso; first | contradiction | omega | exact absurd rfl hc | exact absurd (by decide) hc))))))
  all_goals (refine At.ret1 rfl (by rfl) (Mem.le_refl _) ⟨?_, rfl, rfl⟩ (Ent.refl _); (first | (have hif : (i < 0 ∨ n < 1) := (by omega); simp only [slotV, if_pos hif]; done) | (have hif : ¬ (i < 0 ∨ n < 1) := (by omega); simp only [slotV, if_neg hif]; done)))
theorem win_gone (t now w n : Int) : Pu Tryz.prog 144 #[.int .i64 t, .int .i64 now, .int .i64 w, .int .i64 n] (.bool (goneV t now w n)) := Pu.intro fun m => by
  refine Ct.enterV (by rfl) Tryz.func144 rfl Tryz.ntmps144 rfl (fun w0 Rest => ?_)
  (repeat' (first | refine zss ?_ | refine zs0 ?_ | ((with_reducible first | apply AtM1.callp | apply AtQ.callp | apply At.callp); kernel_rfl; exact rfl; exact rfl; exact win_of _ _) | ((with_reducible first | apply AtM1.callp | apply AtQ.callp | apply At.callp); kernel_rfl; exact rfl; exact rfl; exact win_oldest _ _ _) | (refine zsp ?_ ?_ <;> (intro hc; (try simp only [zhcs, reduceCtorEq] at hc); (try (exfalso; first | contradiction | omega | exact absurd rfl hc | exact absurd (by decide) hc))))))
  all_goals (refine At.ret1 rfl (by rfl) (Mem.le_refl _) ⟨?_, rfl, rfl⟩ (Ent.refl _); simp [goneV, *])
theorem win_span (a b w : Int) : Pu Tryz.prog 95 #[.int .i64 a, .int .i64 b, .int .i64 w] (.tuple #[.int .i64 (spanA a b w), .int .i64 (spanB a b w), .int .i64 (spanE a b w)]) := Pu.intro fun m => by
  refine Ct.enterV (by rfl) Tryz.func95 rfl Tryz.ntmps95 rfl (fun w0 Rest => ?_)
  (repeat' (first | refine zss ?_ | refine zs0 ?_ | ((with_reducible first | apply AtM1.callp | apply AtQ.callp | apply At.callp); kernel_rfl; exact rfl; exact rfl; exact win_width _) | (refine zsp ?_ ?_ <;> (intro hc; (try simp only [zhcs, reduceCtorEq] at hc); (try (exfalso; first | contradiction | omega | exact absurd rfl hc | exact absurd (by decide) hc))))))
  all_goals (refine At.ret3 rfl (by rfl) (by rfl) (by rfl) (Mem.le_refl _) ⟨?_, rfl, rfl⟩ (Ent.refl _))
  all_goals (simp only [spanA, spanB, spanE])
  all_goals first
    | (have h1 : spanR a b w = true := (decide_eq_true (by omega)); first
        | (have h2 : spanU a b w = true := (decide_eq_true (by omega)); simp [h1, h2]; done)
        | (have h2 : spanU a b w = false := (decide_eq_false (by omega)); simp [h1, h2]; done))
    | (have h1 : spanR a b w = false := (decide_eq_false (by omega)); simp [h1]; done)

end Go.Proofs.YtkoijdmlehkhbaaGreatDoor
/- An element of an array's value. -/
set_option linter.unusedSimpArgs false
set_option linter.unusedVariables false
set_option linter.unusedSectionVars false
set_option maxRecDepth 20000
namespace Go.J
open Go
theorem pr_index_agg {P : Program} {n : Nat} {F : Fr} {C : World → Prop} {x y : Operand} {t e : TypeId} {len k : Nat} {ki : IntKind} {cs : List Value} {v : Value} (hx : ev F x = some (.agg cs.toArray)) (hy : ev F y = some (.int ki (k : Int)))
    (ht : P.underlying t = some (.array len e)) (hs : sizeB P e = some 1) (hg : isAggB P e = some false) (hk : Nat.blt k len = true) (hv : nthl cs k = some v) : PR P n F C (.index t x y) v := fun _ _ _ _ _ a w ha _ => by
  have hk' : k < len := Nat.le_of_ble_eq_true hk
  have hr : ∀ w, (underlying t).run P w = .ok (.array len e) w := fun w => by simp only [underlying, program, bind, Sem.bind, Sem.run, ht]; rfl
  have hv' : cs[k]? = some v := by rw [nthl_eq] at hv; exact hv
  have : (Instr.index t (.agg cs.toArray) (.int ki (k : Int))).run P w = .ok v w := by
    unfold Instr.index
    have hb : (0 : Int) ≤ (k : Int) ∧ (k : Int) < (len : Int) := ⟨by omega, by omega⟩
    simp only [asIntOf, pure, Sem.run_bind, Sem.run, Result.andThen, hr, hb, and_self, if_true, run_sizeOf hs, Int.toNat_natCast, Nat.mul_one]
    unfold part
    simp only [Sem.run_bind, run_isAgg hg, Result.andThen]
    simp [hv', pure, Sem.run]
  simp only [execOp, ha.ev hx, ha.ev hy, Sem.run_bind]
  rw [this]
  rfl
def buildAL (P : Program) (t : TypeId) (ps : List (Nat × Value)) : Option (List Value) := match P.underlying t with
  | some (.array _ e) => match zeroL P t with
    | some z => match P.info? e with
      | some ie => match fillL (fun i => some (i * ie.size, ie.size)) z ps with
        | some r => flat r
        | none => none
      | none => none
    | none => none
  | _ => none
theorem buildAL_eq {P : Program} {t : TypeId} {ps : List (Nat × Value)} {r : List Value} (h : buildAL P t ps = some r) : P.built t ps = some r.toArray := by
  unfold buildAL at h
  unfold Program.built
  cases hu : P.underlying t with
  | none => rw [hu] at h; cases h
  | some d =>
    rw [hu] at h
    cases d <;> simp at h
    rename_i n e
    cases hz : zeroL P t with
    | none => rw [hz] at h; simp at h
    | some zs =>
      obtain ⟨i, z, hi, hzz, hzc⟩ := zeroL_spec hz
      rw [hz] at h
      simp only at h
      cases hie : P.info? e with
      | none => rw [hie] at h; simp at h
      | some ie =>
        rw [hie] at h
        simp only at h
        cases hf : fillL (fun i => some (i * ie.size, ie.size)) zs ps with
        | none => rw [hf] at h; cases h
        | some r' =>
          rw [hf] at h
          have := flat_eq _ _ h
          subst this
          simp only [hi, hzz, hie, hzc]
          exact fillL_eq _ _ _ _ hf
theorem pr_buildArr {P : Program} {n : Nat} {F : Fr} {C : World → Prop} {t : TypeId} {xs : List (Nat × Operand)} {ps : List (Nat × Value)} {r : List Value} (hx : evps F xs = some ps) (hb : buildAL P t ps = some r) : PR P n F C (.build t xs.toArray) (.agg r.toArray) := fun _ _ _ _ _ a w ha _ => by
  have e : (xs.toArray.map fun (i, x) => (i, a.eval x)) = ps.toArray := by simp [evps_map ha xs ps hx]
  simp only [execOp, e, Sem.run_bind]
  rw [run_build w t ps.toArray r.toArray (by simpa using buildAL_eq hb)]
  rfl
theorem nine {L : List Int} (h : L.length = 9) : ∃ r a b d x y w c g, L = [r, a, b, d, x, y, w, c, g] := by
  match L, h with
  | [r, a, b, d, x, y, w, c, g], _ => exact ⟨r, a, b, d, x, y, w, c, g, rfl⟩
end Go.J
/- Tiers: what a slot is, which are right; the program's answers. -/
set_option linter.unusedSimpArgs false
set_option linter.unusedVariables false
set_option linter.unusedSectionVars false
set_option maxRecDepth 20000
set_option maxHeartbeats 4000000
namespace Go.Proofs.YtkoijdmlehkhbaaGreatDoor
open Go Go.J
attribute [local irreducible] At AtQ AtM AtM1 PR Ct Pu Rd Res.blk Res.own Res.ex RVs RV
structure Slot where
  (w : Int) (c : Cell)
namespace Slot
abbrev cells : Slot → List Value := fun s => .int .i64 s.w :: Cell.cells s.c
abbrev v (s : Slot) : Value := .agg (cells s).toArray
instance : Fl cells 15 := ⟨fun _ => rfl, fun x v h => by simp at h; rcases h with rfl | rfl | rfl | rfl | rfl | rfl | rfl | rfl | rfl | rfl | rfl | rfl | rfl | rfl | rfl <;> rfl, by decide⟩
abbrev z : Slot := ⟨0, Cell.z⟩
instance : Inhabited Slot := ⟨z⟩
theorem ext {a b : Slot} (h1 : a.w = b.w) (h2 : a.c = b.c) : a = b := by cases a; cases b; cases h1; cases h2; rfl
instance : DecidableEq Slot := fun a b => decidable_of_iff (a.w = b.w ∧ a.c = b.c) ⟨fun h => ext h.1 h.2, fun h => by subst h; exact ⟨rfl, rfl⟩⟩
def In (s : Slot) : Prop := (-9223372036854775808 ≤ s.w ∧ s.w ≤ 9223372036854775807) ∧ (-9223372036854775808 ≤ s.c.n ∧ s.c.n ≤ 9223372036854775807) ∧ s.c.F.V < 18446744073709551616 ∧ s.c.L.V < 18446744073709551616 ∧ s.c.I < 340282366920938463463374607431768211456
end Slot
namespace Ti
open Slot Win
theorem and_slot (a b : Slot) : andL [decide (a.w = b.w), decide (a.c.n = b.c.n), decide (a.c.F.T = b.c.F.T), decide ((a.c.F.V : Int) = (b.c.F.V : Int)), decide (a.c.F.C = b.c.F.C), a.c.F.S == b.c.F.S, decide (a.c.L.T = b.c.L.T), decide ((a.c.L.V : Int) = (b.c.L.V : Int)), decide (a.c.L.C = b.c.L.C), a.c.L.S == b.c.L.S,
    decide (((a.c.I / 18446744073709551616 : Nat) : Int) = ((b.c.I / 18446744073709551616 : Nat) : Int)), decide (((a.c.I % 18446744073709551616 : Nat) : Int) = ((b.c.I % 18446744073709551616 : Nat) : Int)), decide (a.c.R = b.c.R), decide (a.c.G = b.c.G), decide (a.c.X = b.c.X)] = decide (a = b) := by
  rw [andL_cons, Cell.and_cell, ← Bool.decide_and]
  exact decide_eq_decide.2 ⟨fun h => ext h.1 h.2, fun h => by subst h; exact ⟨rfl, rfl⟩⟩
theorem pr_sleq {n : Nat} {F : Fr} {C : World → Prop} {x y : Operand} {u : TypeId} {a b : Slot} (hx : ev F x = some a.v) (hy : ev F y = some b.v) : PR Tryz.prog n F C (.binOp .eql 61 x y u) (.bool (decide (a = b))) := by
  rw [← and_slot]
  exact pr_aggeq2 hx hy (by rfl) (by kernel_rfl) (by kernel_rfl) (by rfl)
theorem pr_slne {n : Nat} {F : Fr} {C : World → Prop} {x y : Operand} {u : TypeId} {a b : Slot} (hx : ev F x = some a.v) (hy : ev F y = some b.v) : PR Tryz.prog n F C (.binOp .neq 61 x y u) (.bool (!decide (a = b))) := by
  rw [← and_slot]
  exact pr_aggne2 hx hy (by rfl) (by kernel_rfl) (by kernel_rfl) (by rfl)
/-- a cell may be a window's -/
def fits (c : Cell) (w i : Int) : Prop := c.n ≠ 0 ∧ Cell.chk c = 0 ∧ (ofE c.F.T w = 0 ∧ ofV c.F.T w = i) ∧ ofE c.L.T w = 0 ∧ ofV c.L.T w = i
instance (c : Cell) (w i : Int) : Decidable (fits c w i) := by unfold fits; infer_instance
theorem none_ (s : Slot) : Pu Tryz.prog 209 #[s.v] (.bool (decide (s = z))) := Pu.intro fun m => by
  refine Ct.enterV (by rfl) Tryz.func209 rfl Tryz.ntmps209 rfl (fun w0 Rest => ?_)
  (repeat' (first | refine zss ?_ | ((first | (with_reducible first | apply At.val | apply AtQ.val)); (exact pr_sleq (b := z) (by rfl) (by rfl)); exact rfl) | refine zs0 ?_ | ((with_reducible apply At.box (d := 1)); exact rfl; exact rfl; exact rfl; intro b1) | (refine zsp ?_ ?_ <;> (intro hc; (try simp only [zhcs, reduceCtorEq] at hc); (try (exfalso; first | contradiction | omega | exact absurd rfl hc | exact absurd (by decide) hc))))))
  all_goals ((with_reducible apply At.retB1 (B := [])); exact rfl; exact rfl; exact zml; exact zkp; exact ⟨rfl, rfl, rfl⟩)
theorem fitsT (c : Cell) (w i : Int) (hn : -9223372036854775808 ≤ c.n ∧ c.n ≤ 9223372036854775807) : Pu Tryz.prog 165 #[c.v, .int .i64 w, .int .i64 i] (.bool (decide (fits c w i))) := Pu.intro fun m => by
  have k1 := Cell.check c hn
  have k2 := win_of c.F.T w
  have k3 := win_of c.L.T w
  by_cases h0 : c.n = 0
  · rw [decide_eq_false (fun h : fits c w i => h.1 h0)]
    refine Ct.enterV (by rfl) Tryz.func165 rfl Tryz.ntmps165 rfl (fun w0 Rest => ?_)
    (repeat' (first | refine zss ?_ | refine zs0 ?_ | ((with_reducible apply At.box (d := 3)); exact rfl; exact rfl; exact rfl; intro b3) | (refine zsp ?_ ?_ <;> (intro hc; (try simp only [zhcs, reduceCtorEq] at hc); (try (exfalso; first | (first | omega | exact absurd h0 hc) | contradiction | omega | exact absurd rfl hc | exact absurd (by decide) hc))))))
    all_goals ((with_reducible apply At.retB1 (B := [])); exact rfl; exact rfl; exact zml; exact zkp; exact ⟨rfl, rfl, rfl⟩)
  by_cases h1 : Cell.chk c = 0
  rotate_left
  · rw [decide_eq_false (fun h : fits c w i => h1 h.2.1)]
    generalize Cell.chk c = e at k1 h1
    refine Ct.enterV (by rfl) Tryz.func165 rfl Tryz.ntmps165 rfl (fun w0 Rest => ?_)
    (repeat' (first | refine zss ?_ | refine zs0 ?_ | ((with_reducible first | apply AtM1.callp | apply AtQ.callp | apply At.callp); kernel_rfl; exact rfl; exact rfl; exact k1) | ((with_reducible apply At.box (d := 3)); exact rfl; exact rfl; exact rfl; intro b3) | (refine zsp ?_ ?_ <;> (intro hc; (try simp only [zhcs, reduceCtorEq] at hc); (try (exfalso; first | (first | omega | exact absurd hc h0 | exact absurd hc h1) | contradiction | omega | exact absurd rfl hc | exact absurd (by decide) hc))))))
    all_goals ((with_reducible apply At.retB1 (B := [])); exact rfl; exact rfl; exact zml; exact zkp; exact ⟨rfl, rfl, rfl⟩)
  rw [h1] at k1
  refine Ct.enterV (by rfl) Tryz.func165 rfl Tryz.ntmps165 rfl (fun w0 Rest => ?_)
  (repeat' (first | refine zss ?_ | ((first | (with_reducible first | apply At.val | apply AtQ.val)); (exact pr_buildArr (by rfl) (by rfl)); exact rfl) | refine zs0 ?_ | ((with_reducible first | apply AtM1.callp | apply AtQ.callp | apply At.callp); kernel_rfl; exact rfl; exact rfl; exact k1) | ((with_reducible apply At.box (d := 3)); exact rfl; exact rfl; exact rfl; intro b3) | (refine zsp ?_ ?_ <;> (intro hc; (try simp only [zhcs, reduceCtorEq] at hc); (try (exfalso; first | (first | omega | exact absurd hc h0) | contradiction | omega | exact absurd rfl hc | exact absurd (by decide) hc))))))
  (refine At.loopk (σ := Nat) [1, 2, 25] (fun s F0 => (26, .int .i64 (s : Int)) :: F0) (fun s => m) (fun s => Rest) (fun s => s ≤ 2 ∧ (0 < s → ofE c.F.T w = 0 ∧ ofV c.F.T w = i) ∧ (1 < s → ofE c.L.T w = 0 ∧ ofV c.L.T w = i)) (fun s => 2 - s) 0 (by rfl) ?_ zsubs zml zente ?_)
  · exact ⟨Nat.zero_le _, fun h => absurd h (by decide), fun h => absurd h (by decide)⟩
  rintro s ⟨hs, g1, g2⟩
  rcases (show s = 0 ∨ s = 1 ∨ s = 2 by omega) with rfl | rfl | rfl
  · by_cases e : ofE c.F.T w = 0 ∧ ofV c.F.T w = i
    · obtain ⟨e1, e2⟩ := e
      (repeat' (first | refine zss ?_ | ((first | (with_reducible first | apply At.val | apply AtQ.val)); (exact pr_index_agg (k := 0) (by rfl) (by rfl) (by rfl) (by rfl) (by rfl) (by rfl) (by rfl)); exact rfl) | refine zs0 ?_ | ((with_reducible first | apply AtM1.callp | apply AtQ.callp | apply At.callp); kernel_rfl; exact rfl; exact rfl; exact k2) | ((with_reducible apply At.box (d := 3)); exact rfl; exact rfl; exact rfl; intro b3) | (refine zsp ?_ ?_ <;> (intro hc; (try simp only [zhcs, reduceCtorEq] at hc); (try (exfalso; first | (first | omega | exact absurd e1 hc | exact absurd e2 hc) | contradiction | omega | exact absurd rfl hc | exact absurd (by decide) hc))))))
      all_goals ((with_reducible refine At.reachk (1) ?_ ?_ ?_ ?_); exact zsubs; exact zml; exact zente; exact ⟨⟨by decide, fun _ => ⟨e1, e2⟩, fun h => absurd h (by decide)⟩, by decide⟩)
    · rw [decide_eq_false (fun h : fits c w i => e h.2.2.1)]
      by_cases e1 : ofE c.F.T w = 0
      · have e2 : ¬ ofV c.F.T w = i := fun h => e ⟨e1, h⟩
        (repeat' (first | refine zss ?_ | ((first | (with_reducible first | apply At.val | apply AtQ.val)); (exact pr_index_agg (k := 0) (by rfl) (by rfl) (by rfl) (by rfl) (by rfl) (by rfl) (by rfl)); exact rfl) | refine zs0 ?_ | ((with_reducible first | apply AtM1.callp | apply AtQ.callp | apply At.callp); kernel_rfl; exact rfl; exact rfl; exact k2) | ((with_reducible apply At.box (d := 3)); exact rfl; exact rfl; exact rfl; intro b3) | (refine zsp ?_ ?_ <;> (intro hc; (try simp only [zhcs, reduceCtorEq] at hc); (try (exfalso; first | (first | omega | exact absurd e1 hc | exact absurd hc e2) | contradiction | omega | exact absurd rfl hc | exact absurd (by decide) hc))))))
        all_goals ((with_reducible apply At.retB1 (B := [])); exact rfl; exact rfl; exact zml; exact zkp; exact ⟨rfl, rfl, rfl⟩)
      · (repeat' (first | refine zss ?_ | ((first | (with_reducible first | apply At.val | apply AtQ.val)); (exact pr_index_agg (k := 0) (by rfl) (by rfl) (by rfl) (by rfl) (by rfl) (by rfl) (by rfl)); exact rfl) | refine zs0 ?_ | ((with_reducible first | apply AtM1.callp | apply AtQ.callp | apply At.callp); kernel_rfl; exact rfl; exact rfl; exact k2) | ((with_reducible apply At.box (d := 3)); exact rfl; exact rfl; exact rfl; intro b3) | (refine zsp ?_ ?_ <;> (intro hc; (try simp only [zhcs, reduceCtorEq] at hc); (try (exfalso; first | (first | omega | exact absurd hc e1) | contradiction | omega | exact absurd rfl hc | exact absurd (by decide) hc))))))
        all_goals ((with_reducible apply At.retB1 (B := [])); exact rfl; exact rfl; exact zml; exact zkp; exact ⟨rfl, rfl, rfl⟩)
  · by_cases e : ofE c.L.T w = 0 ∧ ofV c.L.T w = i
    · obtain ⟨e1, e2⟩ := e
      (repeat' (first | refine zss ?_ | ((first | (with_reducible first | apply At.val | apply AtQ.val)); (exact pr_index_agg (k := 1) (by rfl) (by rfl) (by rfl) (by rfl) (by rfl) (by rfl) (by rfl)); exact rfl) | refine zs0 ?_ | ((with_reducible first | apply AtM1.callp | apply AtQ.callp | apply At.callp); kernel_rfl; exact rfl; exact rfl; exact k3) | ((with_reducible apply At.box (d := 3)); exact rfl; exact rfl; exact rfl; intro b3) | (refine zsp ?_ ?_ <;> (intro hc; (try simp only [zhcs, reduceCtorEq] at hc); (try (exfalso; first | (first | omega | exact absurd e1 hc | exact absurd e2 hc) | contradiction | omega | exact absurd rfl hc | exact absurd (by decide) hc))))))
      all_goals ((with_reducible refine At.reachk (2) ?_ ?_ ?_ ?_); exact zsubs; exact zml; exact zente; exact ⟨⟨by decide, fun _ => g1 (by decide), fun _ => ⟨e1, e2⟩⟩, by decide⟩)
    · rw [decide_eq_false (fun h : fits c w i => e h.2.2.2)]
      by_cases e1 : ofE c.L.T w = 0
      · have e2 : ¬ ofV c.L.T w = i := fun h => e ⟨e1, h⟩
        (repeat' (first | refine zss ?_ | ((first | (with_reducible first | apply At.val | apply AtQ.val)); (exact pr_index_agg (k := 1) (by rfl) (by rfl) (by rfl) (by rfl) (by rfl) (by rfl) (by rfl)); exact rfl) | refine zs0 ?_ | ((with_reducible first | apply AtM1.callp | apply AtQ.callp | apply At.callp); kernel_rfl; exact rfl; exact rfl; exact k3) | ((with_reducible apply At.box (d := 3)); exact rfl; exact rfl; exact rfl; intro b3) | (refine zsp ?_ ?_ <;> (intro hc; (try simp only [zhcs, reduceCtorEq] at hc); (try (exfalso; first | (first | omega | exact absurd e1 hc | exact absurd hc e2) | contradiction | omega | exact absurd rfl hc | exact absurd (by decide) hc))))))
        all_goals ((with_reducible apply At.retB1 (B := [])); exact rfl; exact rfl; exact zml; exact zkp; exact ⟨rfl, rfl, rfl⟩)
      · (repeat' (first | refine zss ?_ | ((first | (with_reducible first | apply At.val | apply AtQ.val)); (exact pr_index_agg (k := 1) (by rfl) (by rfl) (by rfl) (by rfl) (by rfl) (by rfl) (by rfl)); exact rfl) | refine zs0 ?_ | ((with_reducible first | apply AtM1.callp | apply AtQ.callp | apply At.callp); kernel_rfl; exact rfl; exact rfl; exact k3) | ((with_reducible apply At.box (d := 3)); exact rfl; exact rfl; exact rfl; intro b3) | (refine zsp ?_ ?_ <;> (intro hc; (try simp only [zhcs, reduceCtorEq] at hc); (try (exfalso; first | (first | omega | exact absurd hc e1) | contradiction | omega | exact absurd rfl hc | exact absurd (by decide) hc))))))
        all_goals ((with_reducible apply At.retB1 (B := [])); exact rfl; exact rfl; exact zml; exact zkp; exact ⟨rfl, rfl, rfl⟩)
  · rw [decide_eq_true (show fits c w i from ⟨h0, h1, g1 (by decide), g2 (by decide)⟩)]
    (repeat' (first | refine zss ?_ | refine zs0 ?_ | ((with_reducible apply At.box (d := 3)); exact rfl; exact rfl; exact rfl; intro b3) | (refine zsp ?_ ?_ <;> (intro hc; (try simp only [zhcs, reduceCtorEq] at hc); (try (exfalso; first | omega | contradiction | omega | exact absurd rfl hc | exact absurd (by decide) hc))))))
    all_goals ((with_reducible apply At.retB1 (B := [])); exact rfl; exact rfl; exact zml; exact zkp; exact ⟨rfl, rfl, rfl⟩)
/-- a slot may stand where it does -/
def okS (l : List Slot) (w : Int) (k : Nat) : Prop := l[k]! = z ∨ (slotV l[k]!.w (l.length : Int) = (k : Int) ∧ fits l[k]!.c w l[k]!.w)
instance (l : List Slot) (w : Int) (k : Nat) : Decidable (okS l w k) := by unfold okS; infer_instance
def okT (l : List Slot) (w : Int) : Prop := (1 ≤ l.length ∧ l.length ≤ 4096) ∧ (1 ≤ w ∧ w ≤ 1099511627776) ∧ ∀ k, k < l.length → okS l w k
instance (l : List Slot) (w : Int) : Decidable (okT l w) := by unfold okT; infer_instance
def chk (l : List Slot) (w : Int) : Int := if okT l w then 0 else 2
theorem check {m : Mem} (p : Option Addr) (c : Nat) (l : List Slot) (w : Int) (hI : ∀ s ∈ l, Slot.In s) (sl0 : Sl m cells 15 p c l) :
    Rd Tryz.prog 200 #[.slice p l.length c, .int .i64 w] m [] (.int .i64 (chk l w)) := by
  unfold Rd
  by_cases h0 : (1 ≤ l.length ∧ l.length ≤ 4096) ∧ (1 ≤ w ∧ w ≤ 1099511627776)
  rotate_left
  · rw [show chk l w = 2 from if_neg (fun h => h0 ⟨h.1, h.2.1⟩)]
    refine Ct.enterV (by rfl) Tryz.func200 rfl Tryz.ntmps200 rfl (fun w0 Rest => ?_)
    (repeat' (first | refine zss ?_ | refine zsM ?_ | ((with_reducible apply At.alloc (d := 6)); exact rfl; exact rfl; intro b6) | (refine zsp ?_ ?_ <;> (intro hc; (try simp only [zhcs, reduceCtorEq] at hc); (try (exfalso; first | omega | contradiction | omega | exact absurd rfl hc | exact absurd (by decide) hc))))))
    all_goals ((with_reducible apply At.retB1 (B := [])); exact rfl; exact rfl; exact zml; exact zkp; exact ⟨rfl, rfl, rfl⟩)
  obtain ⟨h1, h2⟩ := h0
  refine Ct.enterV (by rfl) Tryz.func200 rfl Tryz.ntmps200 rfl (fun w0 Rest => ?_)
  (repeat' (first | refine zss ?_ | refine zsM ?_ | ((with_reducible apply At.alloc (d := 6)); exact rfl; exact rfl; intro b6) | (refine zsp ?_ ?_ <;> (intro hc; (try simp only [zhcs, reduceCtorEq] at hc); (try (exfalso; first | omega | contradiction | omega | exact absurd rfl hc | exact absurd (by decide) hc))))))
  (refine At.loopk (σ := Nat) [0, 1, 23, 24] (fun s F0 => (25, .int .i64 (s : Int)) :: F0) (fun s => m) (fun s => Rest) (fun s => s ≤ l.length ∧ ∀ k, k < s → okS l w k) (fun s => l.length - s) 0 (by rfl) ?_ zsubs zml zente ?_)
  · exact ⟨Nat.zero_le _, fun k h => absurd h (Nat.not_lt_zero k)⟩
  rintro s ⟨hs, hn⟩
  by_cases h : s < l.length
  · have hi := hI l[s]! (by rw [getElem!_pos l s h]; exact List.getElem_mem h)
    have k1 := none_ l[s]!
    have k2 := win_slot l[s]!.w (l.length : Int) hi.1 (by omega)
    have k3 := fitsT l[s]!.c w l[s]!.w hi.2.1
    have hstep : okS l w s → ∀ k, k < s + 1 → okS l w k := fun ho k hk => by
      by_cases e : k = s
      · subst e; exact ho
      · exact hn k (by omega)
    have hbad : ¬ okS l w s → chk l w = 2 := fun ho => if_neg fun hh => ho (hh.2.2 s h)
    unfold okS at hstep hbad
    clear hI hi hn
    by_cases hz : l[s]! = z
    · rw [decide_eq_true hz] at k1
      (repeat' (first | refine zss ?_ | refine zsM ?_ | ((with_reducible first | apply AtM1.callp | apply AtQ.callp | apply At.callp); kernel_rfl; exact rfl; exact rfl; exact k1) | ((with_reducible apply At.alloc (d := 6)); exact rfl; exact rfl; intro b6) | (refine zsp ?_ ?_ <;> (intro hc; (try simp only [zhcs, reduceCtorEq] at hc); (try (exfalso; first | omega | contradiction | omega | exact absurd rfl hc | exact absurd (by decide) hc))))))
      all_goals ((with_reducible refine At.reachk ((s + 1)) ?_ ?_ ?_ ?_); exact zsubs; exact zml; exact zente; exact ⟨⟨h, hstep (.inl hz)⟩, by omega⟩)
    rw [decide_eq_false hz] at k1
    by_cases e1 : slotV l[s]!.w (l.length : Int) = (s : Int)
    rotate_left
    · rw [hbad (fun ho => ho.elim hz (fun ho => e1 ho.1))]
      generalize slotV l[s]!.w (l.length : Int) = q at k2 e1
      (repeat' (first | refine zss ?_ | refine zsM ?_ | ((with_reducible first | apply AtM1.callp | apply AtQ.callp | apply At.callp); kernel_rfl; exact rfl; exact rfl; exact k1) | ((with_reducible first | apply AtM1.callp | apply AtQ.callp | apply At.callp); kernel_rfl; exact rfl; exact rfl; exact k2) | ((with_reducible apply At.alloc (d := 6)); exact rfl; exact rfl; intro b6) | (refine zsp ?_ ?_ <;> (intro hc; (try simp only [zhcs, reduceCtorEq] at hc); (try (exfalso; first | (first | omega | exact absurd hc e1) | contradiction | omega | exact absurd rfl hc | exact absurd (by decide) hc))))))
      all_goals ((with_reducible apply At.retB1 (B := [])); exact rfl; exact rfl; exact zml; exact zkp; exact ⟨rfl, rfl, rfl⟩)
    by_cases e2 : fits l[s]!.c w l[s]!.w
    · rw [decide_eq_true e2] at k3
      have hst := hstep (.inr ⟨e1, e2⟩)
      rw [e1] at k2
      clear hstep hbad e1
      (repeat' (first | refine zss ?_ | refine zsM ?_ | ((with_reducible first | apply AtM1.callp | apply AtQ.callp | apply At.callp); kernel_rfl; exact rfl; exact rfl; exact k1) | ((with_reducible first | apply AtM1.callp | apply AtQ.callp | apply At.callp); kernel_rfl; exact rfl; exact rfl; exact k2) | ((with_reducible first | apply AtM1.callp | apply AtQ.callp | apply At.callp); kernel_rfl; exact rfl; exact rfl; exact k3) | ((with_reducible apply At.alloc (d := 6)); exact rfl; exact rfl; intro b6) | (refine zsp ?_ ?_ <;> (intro hc; (try simp only [zhcs, reduceCtorEq] at hc); (try (exfalso; first | (first | omega | exact absurd rfl hc) | contradiction | omega | exact absurd rfl hc | exact absurd (by decide) hc))))))
      all_goals ((with_reducible refine At.reachk ((s + 1)) ?_ ?_ ?_ ?_); exact zsubs; exact zml; exact zente; exact ⟨⟨h, hst⟩, by omega⟩)
    · rw [hbad (fun ho => ho.elim hz (fun ho => e2 ho.2))]
      rw [decide_eq_false e2] at k3
      rw [e1] at k2
      clear hstep hbad e1
      (repeat' (first | refine zss ?_ | refine zsM ?_ | ((with_reducible first | apply AtM1.callp | apply AtQ.callp | apply At.callp); kernel_rfl; exact rfl; exact rfl; exact k1) | ((with_reducible first | apply AtM1.callp | apply AtQ.callp | apply At.callp); kernel_rfl; exact rfl; exact rfl; exact k2) | ((with_reducible first | apply AtM1.callp | apply AtQ.callp | apply At.callp); kernel_rfl; exact rfl; exact rfl; exact k3) | ((with_reducible apply At.alloc (d := 6)); exact rfl; exact rfl; intro b6) | (refine zsp ?_ ?_ <;> (intro hc; (try simp only [zhcs, reduceCtorEq] at hc); (try (exfalso; first | (first | omega | exact absurd rfl hc) | contradiction | omega | exact absurd rfl hc | exact absurd (by decide) hc))))))
      all_goals ((with_reducible apply At.retB1 (B := [])); exact rfl; exact rfl; exact zml; exact zkp; exact ⟨rfl, rfl, rfl⟩)
  · rw [show chk l w = 0 from if_pos ⟨h1, h2, fun k hk => hn k (by omega)⟩]
    (repeat' (first | refine zss ?_ | refine zsM ?_ | ((with_reducible apply At.alloc (d := 6)); exact rfl; exact rfl; intro b6) | (refine zsp ?_ ?_ <;> (intro hc; (try simp only [zhcs, reduceCtorEq] at hc); (try (exfalso; first | omega | contradiction | omega | exact absurd rfl hc | exact absurd (by decide) hc))))))
    all_goals ((with_reducible apply At.retB1 (B := [])); exact rfl; exact rfl; exact zml; exact zkp; exact ⟨rfl, rfl, rfl⟩)
end Ti
end Go.Proofs.YtkoijdmlehkhbaaGreatDoor
/- How cells merge, as the program and the document tell it. -/
set_option linter.unusedSimpArgs false
set_option linter.unusedVariables false
set_option linter.unusedSectionVars false
set_option maxRecDepth 20000
set_option maxHeartbeats 4000000
namespace Go.Proofs.YtkoijdmlehkhbaaGreatDoor
open Go Go.J
attribute [local irreducible] At AtQ AtM AtM1 PR Ct Pu Rd Res.blk Res.own Res.ex RVs RV
namespace Cell
open Ev Wide
def In (c : Cell) : Prop := (-9223372036854775808 ≤ c.n ∧ c.n ≤ 9223372036854775807) ∧ c.F.V < 18446744073709551616 ∧ c.L.V < 18446744073709551616 ∧ c.I < 340282366920938463463374607431768211456
theorem In.fits {c : Cell} (h : In c) : Fits c := ⟨h.2.1, h.2.2.1⟩
theorem z_in : In z := by unfold In; decide
theorem Full.bd {c : Cell} (h : Full c) : c.n ≤ 35184372088833 ∧ c.I ≤ 649037107316853434412140771606528 ∧ c.R ≤ 35184372088833 ∧ c.G ≤ 35184372088833 ∧ c.X ≤ 35184372088833 := by
  have ⟨p1, p2, _⟩ := h.F
  have ⟨p3, p4, _⟩ := h.L
  have h1 := h.len
  have h2 := h.I
  have h3 := h.RG
  have h4 := h.R
  have h5 := h.G
  have h6 := h.XL
  have h7 := h.n
  exact ⟨by omega, by omega, by omega, by omega, by omega⟩
theorem Full.in {c : Cell} (h : Full c) (h1 : c.F.V < 18446744073709551616) (h2 : c.L.V < 18446744073709551616) : In c := by
  have hb := h.bd
  have hn := h.n
  exact ⟨by omega, h1, h2, by omega⟩
theorem mrg_in {a b : Cell} (ha : In a) (hb : In b) : In (mrg a b).1 := by
  rcases mrg_cases (a := a) (b := b) with ⟨e, _⟩ | ⟨e, h1, h2⟩ | ⟨e, h1, h2⟩ | ⟨e, _⟩ | ⟨e, h1, h2, h3⟩ <;> rw [e]
  · exact z_in
  · exact hb
  · exact ha
  · exact z_in
  · exact (join_full h1 h2 h3 hb.2.1).in ha.2.1 hb.2.2.1
set_option maxHeartbeats 1000000 in
theorem join_ (a b : Cell) (ha : Full a) (hb : Full b) (ia : In a) (ib : In b) : Pu Tryz.prog 104 #[a.v, b.v] (.tuple #[(mrg a b).1.v, .int .i64 (mrg a b).2]) := Pu.of_le fun m => by
  have kb := Ev.between a.L b.F ia.2.2.1 ib.2.1
  by_cases h : a.L.T < b.F.T
  · rw [mrg_join ha hb h]
    obtain ⟨w, xR, xG, xRG, xX, xXL, xI⟩ := btw_bd ha.L hb.F h
    have ab := ha.bd
    have bb := hb.bd
    have a1 := ha.n
    have a2 := ha.R
    have a3 := ha.G
    have a4 := ha.X
    have b1 := hb.n
    have b2 := hb.R
    have b3 := hb.G
    have b4 := hb.X
    have ⟨p1, p2, _⟩ := hb.F
    have ⟨p3, p4, _⟩ := ha.L
    have bV := ib.2.1
    have jn : a.n + b.n = (join a b).n := rfl
    have jI : a.I + (btw a.L b.F).1.I + b.I = (join a b).I := rfl
    have jR : (btw a.L b.F).1.R + (a.R + b.R) = (join a b).R := by show _ = a.R + (btw a.L b.F).1.R + b.R; omega
    have jG : (btw a.L b.F).1.G + (a.G + b.G) = (join a b).G := by show _ = a.G + (btw a.L b.F).1.G + b.G; omega
    have jX : (btw a.L b.F).1.X + (a.X + b.X) = (join a b).X := by show _ = a.X + (btw a.L b.F).1.X + b.X; omega
    have jF : a.F = (join a b).F := rfl
    have jL : b.L = (join a b).L := rfl
    rw [w] at kb
    obtain ⟨x, ex⟩ : ∃ x, (btw a.L b.F).1 = x := ⟨_, rfl⟩
    rw [ex] at kb xR xG xRG xX xXL xI jI jR jG jX
    obtain ⟨J, eJ⟩ : ∃ J, join a b = J := ⟨_, rfl⟩
    rw [eJ] at jn jI jR jG jX jF jL ⊢
    have wn : IntKind.wrap .i64 (a.n + b.n) = J.n := by rw [← jn]; exact IntWalk.i64_in _ (by omega)
    have wR : IntKind.wrap .i64 (x.R + (a.R + b.R)) = J.R := by rw [← jR]; exact IntWalk.i64_in _ (by omega)
    have wG : IntKind.wrap .i64 (x.G + (a.G + b.G)) = J.G := by rw [← jG]; exact IntWalk.i64_in _ (by omega)
    have wX : IntKind.wrap .i64 (x.X + (a.X + b.X)) = J.X := by rw [← jX]; exact IntWalk.i64_in _ (by omega)
    have hsum : ∀ (m : Mem) p c, Sl m wd 2 p c [a.I, x.I, b.I] → Ct Tryz.prog 154 #[.slice p 3 c] m [] (fun v m' B => v = .tuple #[wv J.I, .int .i64 0] ∧ m = m' ∧ B = []) := fun m p c sl => by
      have hs := sum_ p c [a.I, x.I, b.I] (by show 3 ≤ _; decide) (by simp only [List.forall_mem_cons]; exact ⟨by omega, by omega, by omega, fun _ h => by cases h⟩) sl
      have e1 : [a.I, x.I, b.I].sum = J.I := by rw [← jI]; simp [Nat.add_assoc]
      obtain ⟨e2, e3⟩ := sV_small (x := J.I) (by rw [← jI]; omega)
      rw [e1, e2, e3] at hs
      exact hs
    refine Ct.enterV (by rfl) Tryz.func104 rfl Tryz.ntmps104 rfl (fun w0 Rest => ?_)
    (repeat' (first | ((with_reducible apply At.mixedX (id := 4) [.blk b6 59 (Cell.cells x)] 15 (.q 0 (.q 1 (.q 2 (.q 3 (.q 4 (.q 5 (.q 6 (.q 7 (.q 8 (.q 9 (.l 10 (.q 11 (.l 12 (.q 13 (.x 14 .done)))))))))))))))); (repeat' (first | exact Take.nil | ((with_reducible apply Take.cons); (focus ((repeat constructor); done))))); exact rfl; kernel_rfl; kernel_rfl; kernel_rfl) | refine zsx ?_ | refine zss ?_ | ((with_reducible apply AtM.bo); exact rfl; exact rfl; exact rfl) | ((first | (with_reducible first | apply At.val | apply AtQ.val) | ((with_reducible first | apply AtM1.valz | apply AtM1.val); exact rfl) | ((with_reducible apply AtM1.val); exact rfl)); (first | exact pr_add (by rfl) (by rfl) wn | exact pr_add (by rfl) (by rfl) wR | exact pr_add (by rfl) (by rfl) wG | exact pr_add (by rfl) (by rfl) wX); exact rfl) | refine zs0 ?_ | refine zx0 ?_ | ((with_reducible first | apply AtM1.callp | apply AtQ.callp | apply At.callp); kernel_rfl; exact rfl; exact rfl; exact kb) | ((with_reducible apply At.litF wd [a.I, x.I, b.I]); exact inferInstance; (iterate 7 exact rfl); intro b' m' hm' sl0; skip) | ((with_reducible first | apply At.c1 | apply At.c0); exact rfl; exact rfl; exact hsum _ _ _ sl0; exact ztk; kernel_rfl; rintro v' m' B' hm' ⟨rfl, rfl, rfl⟩; (try replace sl0 := sl0.mono hm'); (try (have hq0 : hm' = Mem.le_refl _ := rfl; clear hq0 hm'))) | ((with_reducible apply At.box (d := 2)); exact rfl; exact rfl; exact rfl; intro b2) | ((with_reducible apply At.box (d := 3)); exact rfl; exact rfl; exact rfl; intro b3) | ((with_reducible apply At.alloc (d := 4)); exact rfl; exact rfl; intro b4) | ((with_reducible apply At.alloc (d := 6)); exact rfl; exact rfl; intro b6) | (refine zsp ?_ ?_ <;> (intro hc; (try simp only [zhcs, reduceCtorEq] at hc); (try (exfalso; first | omega | contradiction | omega | exact absurd rfl hc | exact absurd (by decide) hc))))))
    all_goals ((with_reducible apply At.retV (B := [])); exact rfl; (repeat' (first | exact RVs.nil | (with_reducible apply RVs.cons) | exact rv_tmp (by rfl) | exact rv_cellN (by rfl) (by repeat constructor) (by rfl) (by rfl) (by rfl) | exact rv_cell1 (by rfl) (by repeat constructor) (by rfl) (by rfl))); exact zml; exact zkp; exact ⟨by subst eJ; rfl, by assumption, rfl⟩)
  · have e : mrg a b = (z, 9) := by
      unfold mrg
      rw [if_neg (not_not_intro ⟨.inr ha, .inr hb⟩), if_neg ha.ne, if_neg hb.ne, if_pos (by omega)]
    rw [e]
    have eb : btw a.L b.F = (z, 9) := by unfold btw; rw [if_neg (not_not_intro (show two a.L b.F from ⟨ha.L, hb.F⟩)), if_pos (by omega)]
    rw [eb] at kb
    refine Ct.enterV (by rfl) Tryz.func104 rfl Tryz.ntmps104 rfl (fun w0 Rest => ?_)
    (repeat' (first | refine zss ?_ | refine zs0 ?_ | ((with_reducible first | apply AtM1.callp | apply AtQ.callp | apply At.callp); kernel_rfl; exact rfl; exact rfl; exact kb) | ((with_reducible apply At.box (d := 2)); exact rfl; exact rfl; exact rfl; intro b2) | ((with_reducible apply At.box (d := 3)); exact rfl; exact rfl; exact rfl; intro b3) | ((with_reducible apply At.alloc (d := 4)); exact rfl; exact rfl; intro b4) | ((with_reducible apply At.alloc (d := 6)); exact rfl; exact rfl; intro b6) | (refine zsp ?_ ?_ <;> (intro hc; (try simp only [zhcs, reduceCtorEq] at hc); (try (exfalso; first | omega | contradiction | omega | exact absurd rfl hc | exact absurd (by decide) hc))))))
    all_goals ((with_reducible apply At.retV (B := [])); exact rfl; (repeat' (first | exact RVs.nil | (with_reducible apply RVs.cons) | exact rv_tmp (by rfl) | exact rv_cellN (by rfl) (by repeat constructor) (by rfl) (by rfl) (by rfl) | exact rv_cell1 (by rfl) (by repeat constructor) (by rfl) (by rfl))); exact zml; exact zkp; exact ⟨rfl, Mem.le_refl _, rfl⟩)
theorem chk_ok {c : Cell} (h : ok c) : chk c = 0 := if_pos h
theorem chk_no {c : Cell} (h : ¬ ok c) : chk c = 2 := if_neg h
set_option maxHeartbeats 1000000 in
theorem merge (a b : Cell) (ia : In a) (ib : In b) : Pu Tryz.prog 53 #[a.v, b.v] (.tuple #[(mrg a b).1.v, .int .i64 (mrg a b).2]) := Pu.of_le fun m => by
  have ca := check a ia.1
  have cb := check b ib.1
  have na := none_ a
  have nb := none_ b
  by_cases oa : ok a
  · rw [chk_ok oa] at ca
    by_cases ob : ok b
    · rw [chk_ok ob] at cb
      by_cases za : a = z
      · rw [decide_eq_true za] at na
        rw [show mrg a b = (b, 0) by rw [za]; exact mrg_zl ob]
        refine Ct.enterV (by rfl) Tryz.func53 rfl Tryz.ntmps53 rfl (fun w0 Rest => ?_)
        (repeat' (first | refine zss ?_ | refine zs0 ?_ | ((with_reducible first | apply AtM1.callp | apply AtQ.callp | apply At.callp); kernel_rfl; exact rfl; exact rfl; exact ca) | ((with_reducible first | apply AtM1.callp | apply AtQ.callp | apply At.callp); kernel_rfl; exact rfl; exact rfl; exact cb) | ((with_reducible first | apply AtM1.callp | apply AtQ.callp | apply At.callp); kernel_rfl; exact rfl; exact rfl; exact na) | ((with_reducible apply At.box (d := 2)); exact rfl; exact rfl; exact rfl; intro b2) | ((with_reducible apply At.box (d := 3)); exact rfl; exact rfl; exact rfl; intro b3) | ((with_reducible apply At.alloc (d := 4)); exact rfl; exact rfl; intro b4) | (refine zsp ?_ ?_ <;> (intro hc; (try simp only [zhcs, reduceCtorEq] at hc); (try (exfalso; first | omega | contradiction | omega | exact absurd rfl hc | exact absurd (by decide) hc))))))
        all_goals ((with_reducible apply At.retV (B := [])); exact rfl; (repeat' (first | exact RVs.nil | (with_reducible apply RVs.cons) | exact rv_tmp (by rfl) | exact rv_cellN (by rfl) (by repeat constructor) (by rfl) (by rfl) (by rfl) | exact rv_cell1 (by rfl) (by repeat constructor) (by rfl) (by rfl))); exact zml; exact zkp; exact ⟨rfl, Mem.le_refl _, rfl⟩)
      · rw [decide_eq_false za] at na
        by_cases zb : b = z
        · rw [decide_eq_true zb] at nb
          rw [show mrg a b = (a, 0) by rw [zb]; exact mrg_zr oa]
          refine Ct.enterV (by rfl) Tryz.func53 rfl Tryz.ntmps53 rfl (fun w0 Rest => ?_)
          (repeat' (first | refine zss ?_ | refine zs0 ?_ | ((with_reducible first | apply AtM1.callp | apply AtQ.callp | apply At.callp); kernel_rfl; exact rfl; exact rfl; exact ca) | ((with_reducible first | apply AtM1.callp | apply AtQ.callp | apply At.callp); kernel_rfl; exact rfl; exact rfl; exact cb) | ((with_reducible first | apply AtM1.callp | apply AtQ.callp | apply At.callp); kernel_rfl; exact rfl; exact rfl; exact na) | ((with_reducible first | apply AtM1.callp | apply AtQ.callp | apply At.callp); kernel_rfl; exact rfl; exact rfl; exact nb) | ((with_reducible apply At.box (d := 2)); exact rfl; exact rfl; exact rfl; intro b2) | ((with_reducible apply At.box (d := 3)); exact rfl; exact rfl; exact rfl; intro b3) | ((with_reducible apply At.alloc (d := 4)); exact rfl; exact rfl; intro b4) | (refine zsp ?_ ?_ <;> (intro hc; (try simp only [zhcs, reduceCtorEq] at hc); (try (exfalso; first | omega | contradiction | omega | exact absurd rfl hc | exact absurd (by decide) hc))))))
          all_goals ((with_reducible apply At.retV (B := [])); exact rfl; (repeat' (first | exact RVs.nil | (with_reducible apply RVs.cons) | exact rv_tmp (by rfl) | exact rv_cellN (by rfl) (by repeat constructor) (by rfl) (by rfl) (by rfl) | exact rv_cell1 (by rfl) (by repeat constructor) (by rfl) (by rfl))); exact zml; exact zkp; exact ⟨rfl, Mem.le_refl _, rfl⟩)
        · rw [decide_eq_false zb] at nb
          have kj := join_ a b (oa.resolve_left za) (ob.resolve_left zb) ia ib
          obtain ⟨r, er⟩ : ∃ r, mrg a b = r := ⟨_, rfl⟩
          rw [er] at kj ⊢
          refine Ct.enterV (by rfl) Tryz.func53 rfl Tryz.ntmps53 rfl (fun w0 Rest => ?_)
          (repeat' (first | refine zss ?_ | refine zs0 ?_ | ((with_reducible first | apply AtM1.callp | apply AtQ.callp | apply At.callp); kernel_rfl; exact rfl; exact rfl; exact ca) | ((with_reducible first | apply AtM1.callp | apply AtQ.callp | apply At.callp); kernel_rfl; exact rfl; exact rfl; exact cb) | ((with_reducible first | apply AtM1.callp | apply AtQ.callp | apply At.callp); kernel_rfl; exact rfl; exact rfl; exact na) | ((with_reducible first | apply AtM1.callp | apply AtQ.callp | apply At.callp); kernel_rfl; exact rfl; exact rfl; exact nb) | ((with_reducible first | apply AtM1.callp | apply AtQ.callp | apply At.callp); kernel_rfl; exact rfl; exact rfl; exact kj) | ((with_reducible apply At.box (d := 2)); exact rfl; exact rfl; exact rfl; intro b2) | ((with_reducible apply At.box (d := 3)); exact rfl; exact rfl; exact rfl; intro b3) | ((with_reducible apply At.alloc (d := 4)); exact rfl; exact rfl; intro b4) | (refine zsp ?_ ?_ <;> (intro hc; (try simp only [zhcs, reduceCtorEq] at hc); (try (exfalso; first | omega | contradiction | omega | exact absurd rfl hc | exact absurd (by decide) hc))))))
          all_goals ((with_reducible apply At.retV (B := [])); exact rfl; (repeat' (first | exact RVs.nil | (with_reducible apply RVs.cons) | exact rv_tmp (by rfl) | exact rv_cellN (by rfl) (by repeat constructor) (by rfl) (by rfl) (by rfl) | exact rv_cell1 (by rfl) (by repeat constructor) (by rfl) (by rfl))); exact zml; exact zkp; exact ⟨rfl, Mem.le_refl _, rfl⟩)
    · rw [chk_no ob] at cb
      rw [show mrg a b = (z, 2) from if_pos (fun h => ob h.2)]
      refine Ct.enterV (by rfl) Tryz.func53 rfl Tryz.ntmps53 rfl (fun w0 Rest => ?_)
      (repeat' (first | refine zss ?_ | refine zs0 ?_ | ((with_reducible first | apply AtM1.callp | apply AtQ.callp | apply At.callp); kernel_rfl; exact rfl; exact rfl; exact ca) | ((with_reducible first | apply AtM1.callp | apply AtQ.callp | apply At.callp); kernel_rfl; exact rfl; exact rfl; exact cb) | ((with_reducible apply At.box (d := 2)); exact rfl; exact rfl; exact rfl; intro b2) | ((with_reducible apply At.box (d := 3)); exact rfl; exact rfl; exact rfl; intro b3) | ((with_reducible apply At.alloc (d := 4)); exact rfl; exact rfl; intro b4) | (refine zsp ?_ ?_ <;> (intro hc; (try simp only [zhcs, reduceCtorEq] at hc); (try (exfalso; first | omega | contradiction | omega | exact absurd rfl hc | exact absurd (by decide) hc))))))
      all_goals ((with_reducible apply At.retV (B := [])); exact rfl; (repeat' (first | exact RVs.nil | (with_reducible apply RVs.cons) | exact rv_tmp (by rfl) | exact rv_cellN (by rfl) (by repeat constructor) (by rfl) (by rfl) (by rfl) | exact rv_cell1 (by rfl) (by repeat constructor) (by rfl) (by rfl))); exact zml; exact zkp; exact ⟨rfl, Mem.le_refl _, rfl⟩)
  · rw [chk_no oa] at ca
    rw [show mrg a b = (z, 2) from if_pos (fun h => oa h.1)]
    refine Ct.enterV (by rfl) Tryz.func53 rfl Tryz.ntmps53 rfl (fun w0 Rest => ?_)
    (repeat' (first | refine zss ?_ | refine zs0 ?_ | ((with_reducible first | apply AtM1.callp | apply AtQ.callp | apply At.callp); kernel_rfl; exact rfl; exact rfl; exact ca) | ((with_reducible first | apply AtM1.callp | apply AtQ.callp | apply At.callp); kernel_rfl; exact rfl; exact rfl; exact cb) | ((with_reducible apply At.box (d := 2)); exact rfl; exact rfl; exact rfl; intro b2) | ((with_reducible apply At.box (d := 3)); exact rfl; exact rfl; exact rfl; intro b3) | ((with_reducible apply At.alloc (d := 4)); exact rfl; exact rfl; intro b4) | (refine zsp ?_ ?_ <;> (intro hc; (try simp only [zhcs, reduceCtorEq] at hc); (try (exfalso; first | omega | contradiction | omega | exact absurd rfl hc | exact absurd (by decide) hc))))))
    all_goals ((with_reducible apply At.retV (B := [])); exact rfl; (repeat' (first | exact RVs.nil | (with_reducible apply RVs.cons) | exact rv_tmp (by rfl) | exact rv_cellN (by rfl) (by repeat constructor) (by rfl) (by rfl) (by rfl) | exact rv_cell1 (by rfl) (by repeat constructor) (by rfl) (by rfl))); exact zml; exact zkp; exact ⟨rfl, Mem.le_refl _, rfl⟩)
end Cell
end Go.Proofs.YtkoijdmlehkhbaaGreatDoor
/- Several cells, and events: what they come to, as the program tells it. -/
set_option linter.unusedSimpArgs false
set_option linter.unusedVariables false
set_option linter.unusedSectionVars false
set_option maxRecDepth 20000
set_option maxHeartbeats 4000000
namespace Go.Proofs.YtkoijdmlehkhbaaGreatDoor
open Go Go.J
attribute [local irreducible] At AtQ AtM AtM1 PR Ct Pu Rd Res.blk Res.own Res.ex RVs RV
namespace Cell
open Ev Wide
instance : Inhabited Cell := ⟨z⟩
def allC : Cell → List Cell → Cell × Int
  | c, [] => (c, 0)
  | c, x :: l => if (mrg c x).2 ≠ 0 then (z, (mrg c x).2) else allC (mrg c x).1 l
theorem allC_step {l : List Cell} {i : Nat} (h : i < l.length) (c : Cell) : allC c (l.drop i) = if (mrg c (l[i]!)).2 ≠ 0 then (z, (mrg c (l[i]!)).2) else allC (mrg c (l[i]!)).1 (l.drop (i + 1)) := by
  rw [List.drop_eq_getElem_cons h, getElem!_pos l i h]; rfl
theorem zv : Value.agg #[.int .i64 0, .int .i64 0, .int .u64 0, .int .i64 0, .bool false, .int .i64 0, .int .u64 0, .int .i64 0, .bool false, .int .u64 0, .int .u64 0, .int .i64 0, .int .i64 0, .int .i64 0] = z.v := rfl
structure AS where
  (i : Nat) (c : Cell)
theorem all {m : Mem} (p : Option Addr) (c : Nat) (l : List Cell) (hl : l.length ≤ 1000000) (hi : ∀ x ∈ l, In x) (sl0 : Sl m cells 14 p c l) :
    Ct Tryz.prog 174 #[.slice p l.length c] m [] (fun v m' B => v = .tuple #[(allC z l).1.v, .int .i64 (allC z l).2] ∧ m = m' ∧ B = []) := by
  refine Ct.enterV (by rfl) Tryz.func174 rfl Tryz.ntmps174 rfl (fun w0 Rest => ?_)
  (repeat' (first | refine zss ?_ | refine zsM ?_ | ((with_reducible apply At.alloc (d := 2)); exact rfl; exact rfl; intro b2) | ((with_reducible apply At.alloc (d := 4)); exact rfl; exact rfl; intro b4) | ((with_reducible apply At.alloc (d := 6)); exact rfl; exact rfl; intro b6) | ((with_reducible apply At.alloc (d := 7)); exact rfl; exact rfl; intro b7) | (refine zsp ?_ ?_ <;> (intro hc; (try simp only [zhcs, reduceCtorEq] at hc); (try (exfalso; first | contradiction | omega | exact absurd rfl hc | exact absurd (by decide) hc))))))
  change At _ w0 _ m (Res.blk b4 59 (cells z) :: Res.blk b2 59 (cells z) :: Rest) _
  (refine At.loopk (σ := AS) [2, 4, 9, 10] (fun s F0 => (11, .int .i64 (s.i : Int)) :: F0) (fun s => m) (fun s => .blk b4 59 (cells s.c) :: .blk b2 59 (cells z) :: Rest) (fun s => s.i ≤ l.length ∧ In s.c ∧ allC s.c (l.drop s.i) = allC z l) (fun s => l.length - s.i) ⟨0, z⟩ (by rfl) ?_ zsubs zml zente ?_)
  · exact ⟨Nat.zero_le _, z_in, rfl⟩
  rintro ⟨i, x⟩ ⟨h1, h2, h3⟩
  dsimp only at h1 h2 h3 ⊢
  by_cases h : i < l.length
  · have hy : In (l[i]!) := by rw [getElem!_pos l i h]; exact hi _ (List.getElem_mem h)
    have km := merge x (l[i]!) h2 hy
    have hin := mrg_in h2 hy
    rw [allC_step h] at h3
    rcases hr : mrg x (l[i]!) with ⟨y, w⟩
    rw [hr] at km h3 hin
    dsimp only at km h3 hin
    by_cases hw : w = 0
    · subst hw
      rw [if_neg (fun hh => hh rfl)] at h3
      (repeat' (first | refine zss ?_ | refine zsM ?_ | ((with_reducible first | apply AtM1.callp | apply AtQ.callp | apply At.callp); kernel_rfl; exact rfl; exact rfl; exact km) | ((with_reducible apply At.alloc (d := 2)); exact rfl; exact rfl; intro b2) | ((with_reducible apply At.alloc (d := 4)); exact rfl; exact rfl; intro b4) | ((with_reducible apply At.alloc (d := 6)); exact rfl; exact rfl; intro b6) | ((with_reducible apply At.alloc (d := 7)); exact rfl; exact rfl; intro b7) | (refine zsp ?_ ?_ <;> (intro hc; (try simp only [zhcs, reduceCtorEq] at hc); (try (exfalso; first | omega | contradiction | omega | exact absurd rfl hc | exact absurd (by decide) hc))))))
      all_goals ((with_reducible refine At.reachk (⟨i + 1, y⟩) ?_ ?_ ?_ ?_); exact zsubs; exact zml; exact zente; exact ⟨⟨h, hin, h3⟩, by show l.length - (i + 1) < l.length - i; omega⟩)
    · rw [if_pos hw] at h3
      rw [← h3]
      (repeat' (first | refine zss ?_ | refine zsM ?_ | ((with_reducible first | apply AtM1.callp | apply AtQ.callp | apply At.callp); kernel_rfl; exact rfl; exact rfl; exact km) | ((with_reducible apply At.alloc (d := 2)); exact rfl; exact rfl; intro b2) | ((with_reducible apply At.alloc (d := 4)); exact rfl; exact rfl; intro b4) | ((with_reducible apply At.alloc (d := 6)); exact rfl; exact rfl; intro b6) | ((with_reducible apply At.alloc (d := 7)); exact rfl; exact rfl; intro b7) | (refine zsp ?_ ?_ <;> (intro hc; (try simp only [zhcs, reduceCtorEq] at hc); (try (exfalso; first | (first | omega | exact absurd hc hw) | contradiction | omega | exact absurd rfl hc | exact absurd (by decide) hc))))))
      all_goals ((with_reducible apply At.retV (B := [])); exact rfl; (repeat' (first | exact RVs.nil | (with_reducible apply RVs.cons) | exact rv_tmp (by rfl) | exact rv_cellN (by rfl) (by repeat constructor) (by rfl) (by rfl) (by rfl) | exact rv_cell1 (by rfl) (by repeat constructor) (by rfl) (by rfl))); exact zml; exact zkp; exact ⟨congrArg (fun v => Value.tuple #[v, .int .i64 w]) zv, rfl, rfl⟩)
  · rw [List.drop_eq_nil_of_le (by omega)] at h3
    rw [← h3]
    (repeat' (first | refine zss ?_ | refine zsM ?_ | ((with_reducible apply At.alloc (d := 2)); exact rfl; exact rfl; intro b2) | ((with_reducible apply At.alloc (d := 4)); exact rfl; exact rfl; intro b4) | ((with_reducible apply At.alloc (d := 6)); exact rfl; exact rfl; intro b6) | ((with_reducible apply At.alloc (d := 7)); exact rfl; exact rfl; intro b7) | (refine zsp ?_ ?_ <;> (intro hc; (try simp only [zhcs, reduceCtorEq] at hc); (try (exfalso; first | omega | contradiction | omega | exact absurd rfl hc | exact absurd (by decide) hc))))))
    all_goals ((with_reducible apply At.retV (B := [])); exact rfl; (repeat' (first | exact RVs.nil | (with_reducible apply RVs.cons) | exact rv_tmp (by rfl) | exact rv_cellN (by rfl) (by repeat constructor) (by rfl) (by rfl) (by rfl) | exact rv_cell1 (by rfl) (by repeat constructor) (by rfl) (by rfl))); exact zml; exact zkp; exact ⟨rfl, rfl, rfl⟩)
/-- what so many of the events come to -/
structure Upto (l : List Ev) (i : Nat) (c : Cell) : Prop where
  le : i ≤ l.length
  eq : c = (l.take i).foldl add z
  st : i = 0 ∨ (Full c ∧ c.L = l[i - 1]!)
  asc : ∀ j, j + 1 < i → (l[j]!).T < (l[j + 1]!).T
  inn : In c
theorem Upto.done {l : List Ev} {c : Cell} (h : Upto l l.length c) (ok : Mrg.aok l) : ofL l = (c, 0) := by
  have ha : Mrg.asc l := fun j hj => h.asc j (by omega)
  have e : Mrg.chk l = 0 := by unfold Mrg.chk; rw [if_pos ok, if_pos ha]
  unfold ofL
  rw [e, if_neg (fun h => h rfl), h.eq, List.take_length]
end Cell
end Go.Proofs.YtkoijdmlehkhbaaGreatDoor
/- Tiers, in plain words: those slots that are not zero, in order; what a window has; what windows come to. -/
set_option linter.unusedSimpArgs false
set_option linter.unusedVariables false
set_option linter.unusedSectionVars false
set_option maxRecDepth 20000
set_option maxHeartbeats 4000000
namespace Go.Proofs.YtkoijdmlehkhbaaGreatDoor
open Go Go.J
namespace Ti
open Slot Win
section
variable {α : Type} [Inhabited α]
structure DS (α : Type) where
  (i j : Nat) (L : List α)
theorem filt_snoc (f : α → Bool) (l : List α) (j : Nat) (h : j < l.length) : (l.take (j + 1)).filter f = (l.take j).filter f ++ if f (l[j]!) = true then [l[j]!] else [] := by
  rw [Ls.take_snoc h, List.filter_append, List.filter_cons, List.filter_nil]
theorem all_filt {f : α → Bool} {l : List α} (h : ∀ i, i < l.length → f (l[i]!) = true) : l.filter f = l := by
  rw [List.filter_eq_self]
  intro e he
  obtain ⟨i, hi, rfl⟩ := List.mem_iff_getElem.1 he
  have := h i hi
  rwa [getElem!_pos l i hi] at this
def dinv (f : α → Bool) (l : List α) (s : DS α) : Prop := s.i < s.j ∧ s.j ≤ l.length ∧ s.L.length = l.length ∧ s.L.take s.i = (l.take s.j).filter f ∧ s.L.drop s.j = l.drop s.j
theorem dinv.get {f : α → Bool} {l : List α} {s : DS α} (h : dinv f l s) (hj : s.j < l.length) : s.L[s.j]! = l[s.j]! := by
  obtain ⟨_, _, h3, _, h5⟩ := h
  rw [getElem!_pos s.L s.j (by omega), getElem!_pos l s.j hj]
  have e1 : (s.L.drop s.j)[0]? = (l.drop s.j)[0]? := by rw [h5]
  rw [List.getElem?_drop, List.getElem?_drop, Nat.add_zero, List.getElem?_eq_getElem (by omega), List.getElem?_eq_getElem hj] at e1
  exact Option.some.inj e1
theorem drop_succ' {a b : List α} {j : Nat} (h : a.drop j = b.drop j) : a.drop (j + 1) = b.drop (j + 1) := by
  rw [← List.drop_drop, ← List.drop_drop, h]
theorem dinv.no {f : α → Bool} {l : List α} {s : DS α} (h : dinv f l s) (hj : s.j < l.length) (hk : f (l[s.j]!) = false) : dinv f l ⟨s.i, s.j + 1, s.L⟩ := by
  obtain ⟨h1, h2, h3, h4, h5⟩ := h
  refine ⟨by show s.i < s.j + 1; omega, hj, h3, ?_, drop_succ' h5⟩
  show s.L.take s.i = _
  rw [filt_snoc f l s.j hj, hk, h4]; simp
theorem dinv.yes {f : α → Bool} {l : List α} {s : DS α} (h : dinv f l s) (hj : s.j < l.length) (hk : f (l[s.j]!) = true) : dinv f l ⟨s.i + 1, s.j + 1, s.L.set s.i (l[s.j]!)⟩ := by
  obtain ⟨h1, h2, h3, h4, h5⟩ := h
  refine ⟨by show s.i + 1 < s.j + 1; omega, hj, by simpa using h3, ?_, ?_⟩
  · show (s.L.set s.i (l[s.j]!)).take (s.i + 1) = _
    rw [filt_snoc f l s.j hj, if_pos hk, ← h4, List.take_add_one, List.take_set_of_le (Nat.le_refl _), List.getElem?_set_self (by omega)]; rfl
  · show (s.L.set s.i (l[s.j]!)).drop (s.j + 1) = _
    rw [List.drop_set_of_lt (by omega)]; exact drop_succ' h5
end
/-- a slot that is not zero -/
def keep (s : Slot) : Bool := !decide (s = Slot.z)
def lew (a b : Slot) : Bool := decide (a.w ≤ b.w)
/-- those that are not zero, in order -/
def alls (l : List Slot) : List Slot := (l.filter keep).mergeSort lew
/-- of two that are not zero, of one window, one is the other -/
def Dis (l : List Slot) : Prop := ∀ a ∈ l, ∀ b ∈ l, keep a = true → keep b = true → a.w = b.w → a = b
theorem alls_perm (l : List Slot) : (alls l).Perm (l.filter keep) := List.mergeSort_perm _ _
theorem alls_mem {l : List Slot} {s : Slot} : s ∈ alls l ↔ s ∈ l ∧ keep s = true := (alls_perm l).mem_iff.trans List.mem_filter
theorem alls_len (l : List Slot) : (alls l).length ≤ l.length := by rw [(alls_perm l).length_eq]; exact List.length_filter_le _ _
theorem alls_up (l : List Slot) : (alls l).Pairwise fun a b => a.w ≤ b.w := by
  have h := List.pairwise_mergeSort (le := lew) (fun a b c h1 h2 => decide_eq_true (Int.le_trans (of_decide_eq_true h1) (of_decide_eq_true h2))) (fun a b => by
    unfold lew
    rcases Int.le_total a.w b.w with h | h
    · rw [decide_eq_true h]; rfl
    · rw [decide_eq_true h]; exact Bool.or_true _) (l.filter keep)
  exact h.imp fun h => of_decide_eq_true h
theorem alls_uniq {l L : List Slot} (hD : Dis l) (hp : L.Perm (l.filter keep)) (hs : So.Srt Slot.w 0 L.length L) : L = alls l := by
  have h1 : L.Pairwise fun a b => a.w ≤ b.w := List.pairwise_iff_getElem.2 fun i j hi hj hij => by
    have := hs i j (Nat.zero_le _) hij hj
    rwa [getElem!_pos L i hi, getElem!_pos L j hj] at this
  refine List.Perm.eq_of_pairwise (le := fun a b => a.w ≤ b.w) (fun a b ha hb h1 h2 => ?_) h1 (alls_up l) (hp.trans (alls_perm l).symm)
  have ha := List.mem_filter.1 (hp.mem_iff.1 ha)
  have hb := alls_mem.1 hb
  exact hD a ha.1 b hb.1 ha.2 hb.2 (by omega)
theorem keep_z {s : Slot} : keep s = false ↔ s = Slot.z := by
  unfold keep
  by_cases h : s = Slot.z
  · rw [decide_eq_true h]; exact ⟨fun _ => h, fun _ => rfl⟩
  · rw [decide_eq_false h]; exact ⟨fun e => absurd e (by decide), fun e => absurd e h⟩
theorem keep_ne {s : Slot} : keep s = true ↔ s ≠ Slot.z := by
  rw [← Bool.not_eq_false, keep_z]
/-- right ones of a tier differ -/
theorem okT_dis {l : List Slot} {w : Int} (h : okT l w) : Dis l := fun a ha b hb ka kb hw => by
  obtain ⟨i, hi, rfl⟩ := List.mem_iff_getElem.1 ha
  obtain ⟨j, hj, rfl⟩ := List.mem_iff_getElem.1 hb
  have oi := h.2.2 i hi
  have oj := h.2.2 j hj
  unfold okS at oi oj
  rw [getElem!_pos l i hi] at oi
  rw [getElem!_pos l j hj] at oj
  have e1 := (oi.resolve_left (keep_ne.1 ka)).1
  have e2 := (oj.resolve_left (keep_ne.1 kb)).1
  rw [hw] at e1
  have : i = j := by omega
  subst this
  rfl
def foldC (l : List Slot) (i k : Int) : Cell × Int := if i < 0 ∨ k < i then (Cell.z, 1) else Cell.allC Cell.z (((alls l).filter fun s => decide (i ≤ s.w ∧ s.w < k)).map Slot.c)
def putO (l : List Slot) (w i : Int) (c : Cell) : List Slot := if okT l w ∧ fits c w i then l.set (slotV i l.length).toNat ⟨i, c⟩ else []
def putE (l : List Slot) (w i : Int) (c : Cell) : Int := if okT l w ∧ fits c w i then 0 else 2
def newL (n : Int) : List Slot := if n < 1 ∨ n > 4096 then [] else List.replicate n.toNat Slot.z
theorem slotV_lt {i n : Int} (hn : 1 ≤ n) : 0 ≤ slotV i n ∧ slotV i n < n := by
  unfold slotV
  split
  · omega
  · exact ⟨Int.emod_nonneg _ (by omega), Int.emod_lt_of_pos _ (by omega)⟩
end Ti
end Go.Proofs.YtkoijdmlehkhbaaGreatDoor
