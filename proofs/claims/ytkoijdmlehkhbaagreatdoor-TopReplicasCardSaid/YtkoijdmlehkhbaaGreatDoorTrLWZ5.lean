/- Part 5 of what the law's proof needs: rules of the walk, contracts of functions, plain laws. No condition. -/
import Derived.Test.YtkoijdmlehkhbaaGreatDoorTrLWZ4
import Derived.Test.YtkoijdmlehkhbaaGreatDoorRows
import Derived.Lib.SliceRun
set_option linter.unusedSimpArgs false
set_option linter.unusedVariables false
set_option linter.unusedSectionVars false
set_option maxRecDepth 20000
set_option maxHeartbeats 4000000
namespace Go.Proofs.YtkoijdmlehkhbaaGreatDoor
open Go Go.J
namespace Cell
open Ev
theorem ext {a b : Cell} (h1 : a.n = b.n) (h2 : a.F = b.F) (h3 : a.L = b.L) (h4 : a.I = b.I) (h5 : a.R = b.R) (h6 : a.G = b.G) (h7 : a.X = b.X) : a = b := by
  cases a; cases b; cases h1; cases h2; cases h3; cases h4; cases h5; cases h6; cases h7; rfl
instance : DecidableEq Cell := fun a b => decidable_of_iff (a.n = b.n ∧ a.F = b.F ∧ a.L = b.L ∧ a.I = b.I ∧ a.R = b.R ∧ a.G = b.G ∧ a.X = b.X)
  ⟨fun ⟨h1, h2, h3, h4, h5, h6, h7⟩ => ext h1 h2 h3 h4 h5 h6 h7, fun h => h ▸ ⟨rfl, rfl, rfl, rfl, rfl, rfl, rfl⟩⟩
/-- a right cell that is not zero -/
structure Full (c : Cell) : Prop where
  n : 1 ≤ c.n
  F : c.F.ok
  L : c.L.ok
  one : c.n = 1 → c.F = c.L
  lt : 1 < c.n → c.F.T < c.L.T
  len : c.n - 1 ≤ c.L.T - c.F.T
  R : 0 ≤ c.R
  G : 0 ≤ c.G
  RG : c.R + c.G ≤ c.n - 1
  X : 0 ≤ c.X
  XL : c.X ≤ c.L.T - c.F.T
  I : c.I ≤ 18446744073709551615 * (c.n - 1).toNat
def ok (c : Cell) : Prop := c = z ∨ Full c
theorem Full.ne {c : Cell} (h : Full c) : c ≠ z := fun e => by
  have := h.n
  rw [e] at this
  exact absurd this (by decide)
theorem Full.le {c : Cell} (h : Full c) : c.F.T ≤ c.L.T := by
  have h1 := h.n
  have h2 := h.len
  omega
instance (c : Cell) : Decidable (Full c) := decidable_of_iff (1 ≤ c.n ∧ c.F.ok ∧ c.L.ok ∧ (c.n = 1 → c.F = c.L) ∧ (1 < c.n → c.F.T < c.L.T) ∧ c.n - 1 ≤ c.L.T - c.F.T ∧ 0 ≤ c.R ∧ 0 ≤ c.G ∧ c.R + c.G ≤ c.n - 1 ∧ 0 ≤ c.X ∧ c.X ≤ c.L.T - c.F.T ∧ c.I ≤ 18446744073709551615 * (c.n - 1).toNat)
  ⟨fun ⟨h1, h2, h3, h4, h5, h6, h7, h8, h9, h10, h11, h12⟩ => ⟨h1, h2, h3, h4, h5, h6, h7, h8, h9, h10, h11, h12⟩, fun h => ⟨h.n, h.F, h.L, h.one, h.lt, h.len, h.R, h.G, h.RG, h.X, h.XL, h.I⟩⟩
instance (c : Cell) : Decidable (ok c) := by unfold ok; infer_instance
def chk (c : Cell) : Int := if ok c then 0 else 2
def one (e : Ev) : Cell := ⟨1, e, e, 0, 0, 0, 0⟩
theorem one_full {e : Ev} (h : e.ok) : Full (one e) := by
  refine ⟨?_, h, h, fun _ => rfl, ?_, ?_, ?_, ?_, ?_, ?_, ?_, ?_⟩ <;> dsimp only [one] <;> omega
def join (a b : Cell) : Cell := ⟨a.n + b.n, a.F, b.L, a.I + (btw a.L b.F).1.I + b.I, a.R + (btw a.L b.F).1.R + b.R, a.G + (btw a.L b.F).1.G + b.G, a.X + (btw a.L b.F).1.X + b.X⟩
def mrg (a b : Cell) : Cell × Int := if ¬ (ok a ∧ ok b) then (z, 2) else if a = z then (b, 0) else if b = z then (a, 0) else if b.F.T ≤ a.L.T then (z, 9) else (join a b, 0)
structure Btw (p c : Ev) : Prop where
  w : (btw p c).2 = 0
  R : 0 ≤ (btw p c).1.R
  G : 0 ≤ (btw p c).1.G
  RG : (btw p c).1.R + (btw p c).1.G ≤ 1
  X : 0 ≤ (btw p c).1.X
  XL : (btw p c).1.X ≤ c.T - p.T
  I : (btw p c).1.I ≤ c.V
theorem btw_bd {p c : Ev} (hp : p.ok) (hc : c.ok) (h : p.T < c.T) : Btw p c := by
  have ⟨h21, h22, h23, h24, h25⟩ := hc
  have e : btw p c = if c.S = true then (z, 0) else if p.T < c.C then (mk' c.V 1 0 (c.T - c.C), 0) else if p.S = true then (mk' 0 0 1 0, 0) else if c.V < p.V then (mk' c.V 1 0 (c.T - p.T), 0) else (mk' (c.V - p.V) 0 0 (c.T - p.T), 0) := by
    unfold btw
    rw [if_neg (not_not_intro (show two p c from ⟨hp, hc⟩)), if_neg (by omega)]
  by_cases a1 : c.S = true
  · rw [if_pos a1] at e
    constructor <;> rw [e] <;> first | rfl | (dsimp only [mk', Cell.z]; omega)
  rw [if_neg a1] at e
  by_cases a2 : p.T < c.C
  · rw [if_pos a2] at e
    constructor <;> rw [e] <;> first | rfl | (dsimp only [mk', Cell.z]; omega)
  rw [if_neg a2] at e
  by_cases a3 : p.S = true
  · rw [if_pos a3] at e
    constructor <;> rw [e] <;> first | rfl | (dsimp only [mk', Cell.z]; omega)
  rw [if_neg a3] at e
  by_cases a4 : c.V < p.V
  · rw [if_pos a4] at e
    constructor <;> rw [e] <;> first | rfl | (dsimp only [mk', Cell.z]; omega)
  · rw [if_neg a4] at e
    constructor <;> rw [e] <;> first | rfl | (dsimp only [mk', Cell.z]; omega)
theorem join_full {a b : Cell} (ha : Full a) (hb : Full b) (h : a.L.T < b.F.T) (hV : b.F.V < 18446744073709551616) : Full (join a b) := by
  obtain ⟨w, xR, xG, xRG, xX, xXL, xI⟩ := btw_bd ha.L hb.F h
  obtain ⟨a1, a2, a3, a4, a5, a6, a7, a8, a9, a10, a11, a12⟩ := ha
  obtain ⟨b1, b2, b3, b4, b5, b6, b7, b8, b9, b10, b11, b12⟩ := hb
  have hn : (join a b).n = a.n + b.n := rfl
  have hF : (join a b).F = a.F := rfl
  have hL : (join a b).L = b.L := rfl
  have e1 : (a.n + b.n - 1).toNat = (a.n - 1).toNat + (b.n - 1).toNat + 1 := by omega
  refine ⟨by rw [hn]; omega, a2, b3, fun h => by rw [hn] at h; omega, fun _ => by rw [hF, hL]; omega, by rw [hn, hF, hL]; omega, ?_, ?_, ?_, ?_, ?_, ?_⟩
  · show 0 ≤ a.R + (btw a.L b.F).1.R + b.R; omega
  · show 0 ≤ a.G + (btw a.L b.F).1.G + b.G; omega
  · show a.R + (btw a.L b.F).1.R + b.R + (a.G + (btw a.L b.F).1.G + b.G) ≤ a.n + b.n - 1; omega
  · show 0 ≤ a.X + (btw a.L b.F).1.X + b.X; omega
  · show a.X + (btw a.L b.F).1.X + b.X ≤ b.L.T - a.F.T; omega
  · show a.I + (btw a.L b.F).1.I + b.I ≤ 18446744073709551615 * (a.n + b.n - 1).toNat
    rw [e1]; omega
theorem join_assoc (a b c : Cell) : join (join a b) c = join a (join b c) := by
  refine ext ?_ rfl rfl ?_ ?_ ?_ ?_
  · show a.n + b.n + c.n = a.n + (b.n + c.n); omega
  · show a.I + (btw a.L b.F).1.I + b.I + (btw b.L c.F).1.I + c.I = a.I + (btw a.L b.F).1.I + (b.I + (btw b.L c.F).1.I + c.I); omega
  · show a.R + (btw a.L b.F).1.R + b.R + (btw b.L c.F).1.R + c.R = a.R + (btw a.L b.F).1.R + (b.R + (btw b.L c.F).1.R + c.R); omega
  · show a.G + (btw a.L b.F).1.G + b.G + (btw b.L c.F).1.G + c.G = a.G + (btw a.L b.F).1.G + (b.G + (btw b.L c.F).1.G + c.G); omega
  · show a.X + (btw a.L b.F).1.X + b.X + (btw b.L c.F).1.X + c.X = a.X + (btw a.L b.F).1.X + (b.X + (btw b.L c.F).1.X + c.X); omega
theorem mrg_cases {a b : Cell} : (mrg a b = (z, 2) ∧ ¬ (ok a ∧ ok b)) ∨ (mrg a b = (b, 0) ∧ a = z ∧ ok b) ∨ (mrg a b = (a, 0) ∧ Full a ∧ b = z) ∨ (mrg a b = (z, 9) ∧ Full a ∧ Full b ∧ b.F.T ≤ a.L.T) ∨ (mrg a b = (join a b, 0) ∧ Full a ∧ Full b ∧ a.L.T < b.F.T) := by
  unfold mrg
  by_cases h : ok a ∧ ok b
  · rw [if_neg (not_not_intro h)]
    obtain ⟨h1, h2⟩ := h
    by_cases ha : a = z
    · rw [if_pos ha]; exact .inr (.inl ⟨rfl, ha, h2⟩)
    · rw [if_neg ha]
      have fa := h1.resolve_left ha
      by_cases hb : b = z
      · rw [if_pos hb]; exact .inr (.inr (.inl ⟨rfl, fa, hb⟩))
      · rw [if_neg hb]
        have fb := h2.resolve_left hb
        by_cases ht : b.F.T ≤ a.L.T
        · rw [if_pos ht]; exact .inr (.inr (.inr (.inl ⟨rfl, fa, fb, ht⟩)))
        · rw [if_neg ht]; exact .inr (.inr (.inr (.inr ⟨rfl, fa, fb, by omega⟩)))
  · rw [if_pos h]; exact .inl ⟨rfl, h⟩
theorem mrg_join {a b : Cell} (ha : Full a) (hb : Full b) (h : a.L.T < b.F.T) : mrg a b = (join a b, 0) := by
  unfold mrg
  rw [if_neg (not_not_intro ⟨.inr ha, .inr hb⟩), if_neg ha.ne, if_neg hb.ne, if_neg (by omega)]
theorem mrg_zl {b : Cell} (h : ok b) : mrg z b = (b, 0) := by
  unfold mrg
  rw [if_neg (not_not_intro ⟨.inl rfl, h⟩), if_pos rfl]
theorem mrg_zr {a : Cell} (h : ok a) : mrg a z = (a, 0) := by
  by_cases ha : a = z
  · subst ha; exact mrg_zl (.inl rfl)
  · unfold mrg
    rw [if_neg (not_not_intro ⟨h, .inl rfl⟩), if_neg ha, if_pos rfl]
/-! ### events -/
def add (c : Cell) (e : Ev) : Cell := if c = z then one e else join c (one e)
def ofL (l : List Ev) : Cell × Int := if Mrg.chk l ≠ 0 then (z, Mrg.chk l) else (l.foldl add z, 0)
theorem add_full {c : Cell} {e : Ev} (hc : c = z ∨ (Full c ∧ c.L.T < e.T)) (he : e.ok) (hV : e.V < 18446744073709551616) : Full (add c e) ∧ (add c e).L = e ∧ mrg c (one e) = (add c e, 0) := by
  rcases hc with rfl | ⟨h1, h2⟩
  · rw [show add z e = one e from if_pos rfl]
    exact ⟨one_full he, rfl, mrg_zl (.inr (one_full he))⟩
  · rw [show add c e = join c (one e) from if_neg h1.ne]
    exact ⟨join_full h1 (one_full he) h2 hV, rfl, mrg_join h1 (one_full he) h2⟩
theorem fold_join (c d : Cell) : ∀ (l : List Ev), Full c → Full d → c.L.T < d.F.T → d.F.V < 18446744073709551616 → (∀ e ∈ l, e.ok ∧ e.V < 18446744073709551616) → (∀ e ∈ l, d.L.T < e.T) → Mrg.Asc l → l.foldl add (join c d) = join c (l.foldl add d)
  | [], _, _, _, _, _, _, _ => rfl
  | e :: l, hc, hd, h, hV, ho, hl, ha => by
    obtain ⟨o1, o2⟩ := ho e (List.mem_cons_self ..)
    obtain ⟨a1, a2⟩ := List.pairwise_cons.1 ha
    have h1 := hl e (List.mem_cons_self ..)
    have fj := join_full hc hd h hV
    have e1 : add (join c d) e = join c (join d (one e)) := by rw [show add (join c d) e = join (join c d) (one e) from if_neg fj.ne, join_assoc]
    have e2 : add d e = join d (one e) := if_neg hd.ne
    rw [List.foldl_cons, List.foldl_cons, e1, e2]
    exact fold_join c (join d (one e)) l hc (join_full hd (one_full o1) h1 o2) h hV (fun x hx => ho x (List.mem_cons_of_mem _ hx)) (fun x hx => a1 x hx) a2
theorem fold_full : ∀ (l : List Ev) (c : Cell), (c = z ∨ (Full c ∧ ∀ e ∈ l, c.L.T < e.T)) → (∀ e ∈ l, e.ok ∧ e.V < 18446744073709551616) → Mrg.Asc l → (l = [] ∧ l.foldl add c = c) ∨ (∃ h : l ≠ [], Full (l.foldl add c) ∧ (l.foldl add c).L = l.getLast h)
  | [], _, _, _, _ => .inl ⟨rfl, rfl⟩
  | e :: l, c, hc, ho, ha => by
    obtain ⟨o1, o2⟩ := ho e (List.mem_cons_self ..)
    obtain ⟨a1, a2⟩ := List.pairwise_cons.1 ha
    obtain ⟨f1, f2, _⟩ := add_full (hc.imp_right fun ⟨h1, h2⟩ => ⟨h1, h2 e (List.mem_cons_self ..)⟩) o1 o2
    refine .inr ⟨by simp, ?_⟩
    rw [List.foldl_cons]
    rcases fold_full l (add c e) (.inr ⟨f1, fun x hx => by rw [f2]; exact a1 x hx⟩) (fun x hx => ho x (List.mem_cons_of_mem _ hx)) a2 with ⟨rfl, h⟩ | ⟨h, h1, h2⟩
    · exact ⟨by rw [h]; exact f1, by rw [h, f2]; rfl⟩
    · exact ⟨h1, by rw [h2, List.getLast_cons h]⟩
theorem fold_F : ∀ (l : List Ev) (c : Cell), Full c → (∀ e ∈ l, e.ok ∧ e.V < 18446744073709551616) → (∀ e ∈ l, c.L.T < e.T) → Mrg.Asc l → (l.foldl add c).F = c.F
  | [], _, _, _, _, _ => rfl
  | e :: l, c, hc, ho, hl, ha => by
    obtain ⟨o1, o2⟩ := ho e (List.mem_cons_self ..)
    obtain ⟨a1, a2⟩ := List.pairwise_cons.1 ha
    obtain ⟨f1, f2, _⟩ := add_full (.inr ⟨hc, hl e (List.mem_cons_self ..)⟩) o1 o2
    rw [List.foldl_cons, fold_F l _ f1 (fun x hx => ho x (List.mem_cons_of_mem _ hx)) (fun x hx => by rw [f2]; exact a1 x hx) a2, show add c e = join c (one e) from if_neg hc.ne]
    rfl
theorem fold_mrg {a b : List Ev} (h : ∀ e ∈ a ++ b, e.ok ∧ e.V < 18446744073709551616) (hs : Mrg.Asc (a ++ b)) : mrg (a.foldl add z) (b.foldl add z) = ((a ++ b).foldl add z, 0) := by
  obtain ⟨s1, s2, s3⟩ := List.pairwise_append.1 hs
  have oa : ∀ e ∈ a, e.ok ∧ e.V < 18446744073709551616 := fun e he => h e (List.mem_append_left _ he)
  have ob : ∀ e ∈ b, e.ok ∧ e.V < 18446744073709551616 := fun e he => h e (List.mem_append_right _ he)
  rw [List.foldl_append]
  rcases fold_full a z (.inl rfl) oa s1 with ⟨rfl, g⟩ | ⟨na, g1, g2⟩
  · show mrg z _ = _
    rw [mrg_zl]
    · rfl
    · rcases fold_full b z (.inl rfl) ob s2 with ⟨rfl, g⟩ | ⟨_, k1, _⟩
      · exact .inl rfl
      · exact .inr k1
  · rcases b with _ | ⟨e, b⟩
    · exact mrg_zr (.inr g1)
    · obtain ⟨a1, a2⟩ := List.pairwise_cons.1 s2
      obtain ⟨o1, o2⟩ := ob e (List.mem_cons_self ..)
      have fo := one_full o1
      have hlt : (a.foldl add z).L.T < e.T := by rw [g2]; exact s3 _ (List.getLast_mem na) e (List.mem_cons_self ..)
      have ob' : ∀ x ∈ b, x.ok ∧ x.V < 18446744073709551616 := fun x hx => ob x (List.mem_cons_of_mem _ hx)
      have e1 : add z e = one e := if_pos rfl
      have e2 : add (a.foldl add z) e = join (a.foldl add z) (one e) := if_neg g1.ne
      rw [List.foldl_cons, List.foldl_cons, e1, e2, fold_join _ _ b g1 fo hlt o2 ob' a1 a2]
      refine mrg_join g1 ?_ ?_
      · rcases fold_full b (one e) (.inr ⟨fo, a1⟩) ob' a2 with ⟨rfl, g⟩ | ⟨_, k1, _⟩
        · exact fo
        · exact k1
      · rw [fold_F b (one e) fo ob' a1 a2]; exact hlt
end Cell
end Go.Proofs.YtkoijdmlehkhbaaGreatDoor
namespace Go.J
open Go
section
variable {P : Program} {n : Nat} {w0 : World} {F : Fr} {m : Mem} {Rs : List Res} {Q : Exit → Act → World → Prop} {α : Type} [Inhabited α] {f : α → List Value} {sz : Nat}
theorem addr_add0 (a : Addr) : a.add 0 = a := by cases a; simp [Addr.add]
theorem subp0 (p : Option Addr) (c sz : Nat) : subp p c 0 sz = p := by
  unfold subp
  split
  · rfl
  · rw [Nat.zero_mul]; cases p <;> simp [addr_add0]
end
end Go.J
namespace Go.J
open Go
section
variable {P : Program} {m : Mem} {Rs : List Res} {α : Type} [Inhabited α] {f : α → List Value} {sz : Nat}
theorem HW.freeze {w0 w : World} {E : TypeId} {p : Option Addr} {c : Nat} {l : List α} (hf : Fl f sz) (hw : HW w0 m (.own f sz E p c l :: Rs) w) : ∃ m', m.le m' ∧ Sl m' f sz p c l ∧ HW w0 m' Rs w := by
  have k := At.own_freeze (n := 0) (w0 := w0) (F := []) (m := m) (Rs := .own f sz E p c l :: Rs) (K := fun _ w => ∃ m', m.le m' ∧ Sl m' f sz p c l ∧ HW w0 m' Rs w) hf pk0
    (fun m' hm' sl => by
      unfold At
      intro a w1 _ hw1
      exact ⟨m', hm', sl, hw1⟩)
  unfold At at k
  exact k ⟨#[], []⟩ w ⟨rfl, rfl, fun _ _ h => by cases h⟩ hw
theorem Ct.freezeG {g : FuncId} {args : Array Value} {E : TypeId} {p : Option Addr} {c : Nat} {l : List α} {R : Value → Mem → List Res → Prop} (hf : Fl f sz) (h : ∀ m', m.le m' → Sl m' f sz p c l → Ct P g args m' Rs R) :
    Ct P g args m (.own f sz E p c l :: Rs) R := by
  unfold Ct at h ⊢
  intro w0 Rest w hw
  obtain ⟨m', hm', sl, hw'⟩ := HW.freeze hf hw
  exact (h m' hm' sl w0 Rest w hw').mono fun _ _ ⟨v, m2, B, h1, h2, h3, h4⟩ => ⟨v, m2, B, h1, Mem.le_trans hm' h2, h3, h4⟩
theorem Ct.slice {g : FuncId} {args : Array Value} {A B0 : List Res} {E : TypeId} {l : List α} {R : Value → Option Addr → Nat → Prop} (hf : Fl f sz) (h : Ct P g args m A (fun v m' B => ∃ p c, R v p c ∧ B = .own f sz E p c l :: B0)) :
    Ct P g args m A (fun v m' B => B = B0 ∧ ∃ p c, R v p c ∧ Sl m' f sz p c l) := by
  unfold Ct at h ⊢
  intro w0 Rest w hw
  refine (h w0 Rest w hw).mono fun _ _ ⟨v, m2, B, h1, h2, ⟨p, c, h3, hB⟩, h4⟩ => ?_
  subst hB
  obtain ⟨m3, hm3, sl, hw3⟩ := HW.freeze hf h4
  exact ⟨v, m3, B0, h1, Mem.le_trans h2 hm3, ⟨rfl, p, c, h3, sl⟩, hw3⟩
/-- a slice's literal, that stays -/
theorem At.litF {n : Nat} {w0 : World} {F : Fr} {Q : Exit → Act → World → Prop} {ops : Array Oper} {rest : List Oper} {d : Nat} {t E : TypeId} {len : Nat} {xs : List (Nat × Operand)} {ps : List (Nat × Value)} {ty : TypeId} {pos : String} {aft : Array Edge}
    (f : α → List Value) (l : List α) (hf : Fl f sz) (ht : P.underlying t = some (.slice E)) (he : elemB P E sz = true) (hx : evps F xs = some ps) (hsm : Nat.ble (len * sz) 16777216 = true) (hl : l.length = len)
    (hb : litL P E sz len ps = flat (l.flatMap f)) (hd : Nat.blt d n = true)
    (h : ∀ b m', m.le m' → Sl m' f sz (some ⟨b, 0, none⟩) len l → At n w0 ((d, .slice (some ⟨b, 0, none⟩) len len) :: F) m' Rs (wpList P ops Q rest)) :
    At n w0 F m Rs (wpList P ops Q (⟨some d, .buildSlice t len xs.toArray, ty, pos, aft, none⟩ :: rest)) :=
  At.lit f l hf ht he hx hsm hl hb hd (fun b => At.own_freeze hf pk0 fun m' hm' sl => h b m' hm' sl)
end
end Go.J
namespace Go.Proofs.YtkoijdmlehkhbaaGreatDoor
open Go Go.J
attribute [local irreducible] At AtQ AtM AtM1 PR Ct Pu Rd Res.blk Res.own Res.ex RVs RV
namespace Cell
open Ev Wide
theorem wide_ext {a b : Nat} (h1 : ((a / 18446744073709551616 : Nat) : Int) = ((b / 18446744073709551616 : Nat) : Int)) (h2 : ((a % 18446744073709551616 : Nat) : Int) = ((b % 18446744073709551616 : Nat) : Int)) : a = b := by omega
theorem and_cell (a b : Cell) : andL [decide (a.n = b.n), decide (a.F.T = b.F.T), decide ((a.F.V : Int) = (b.F.V : Int)), decide (a.F.C = b.F.C), a.F.S == b.F.S, decide (a.L.T = b.L.T), decide ((a.L.V : Int) = (b.L.V : Int)), decide (a.L.C = b.L.C), a.L.S == b.L.S,
    decide (((a.I / 18446744073709551616 : Nat) : Int) = ((b.I / 18446744073709551616 : Nat) : Int)), decide (((a.I % 18446744073709551616 : Nat) : Int) = ((b.I % 18446744073709551616 : Nat) : Int)), decide (a.R = b.R), decide (a.G = b.G), decide (a.X = b.X)] = decide (a = b) := by
  by_cases h : a = b
  · subst h; simp [andL_cons, andL_nil]
  · rw [decide_eq_false h]
    cases hb : andL [decide (a.n = b.n), decide (a.F.T = b.F.T), decide ((a.F.V : Int) = (b.F.V : Int)), decide (a.F.C = b.F.C), a.F.S == b.F.S, decide (a.L.T = b.L.T), decide ((a.L.V : Int) = (b.L.V : Int)), decide (a.L.C = b.L.C), a.L.S == b.L.S,
    decide (((a.I / 18446744073709551616 : Nat) : Int) = ((b.I / 18446744073709551616 : Nat) : Int)), decide (((a.I % 18446744073709551616 : Nat) : Int) = ((b.I % 18446744073709551616 : Nat) : Int)), decide (a.R = b.R), decide (a.G = b.G), decide (a.X = b.X)] with
    | false => rfl
    | true =>
      simp only [andL_cons, andL_nil, Bool.and_eq_true, decide_eq_true_eq, beq_iff_eq] at hb
      obtain ⟨h1, h2, h3, h4, h5, h6, h7, h8, h9, h10, h11, h12, h13, h14, _⟩ := hb
      exact absurd (ext h1 (Mrg.ev_ext h2 (Int.ofNat.inj h3) h4 h5) (Mrg.ev_ext h6 (Int.ofNat.inj h7) h8 h9) (wide_ext h10 h11) h12 h13 h14) h
theorem pr_ceq {n : Nat} {F : Fr} {C : World → Prop} {x y : Operand} {u : TypeId} {a b : Cell} (hx : ev F x = some a.v) (hy : ev F y = some b.v) : PR Tryz.prog n F C (.binOp .eql 59 x y u) (.bool (decide (a = b))) := by
  rw [← and_cell]
  exact pr_aggeq2 hx hy (by rfl) (by kernel_rfl) (by kernel_rfl) (by rfl)
theorem none_ (c : Cell) : Pu Tryz.prog 103 #[c.v] (.bool (decide (c = z))) := Pu.intro fun m => by
  refine Ct.enterV (by rfl) Tryz.func103 rfl Tryz.ntmps103 rfl (fun w0 Rest => ?_)
  (repeat' (first | refine zss ?_ | ((first | (with_reducible first | apply At.val | apply AtQ.val)); (exact pr_ceq (b := z) (by rfl) (by rfl)); exact rfl) | refine zs0 ?_ | ((with_reducible apply At.box (d := 1)); exact rfl; exact rfl; exact rfl; intro b1) | (refine zsp ?_ ?_ <;> (intro hc; (try simp only [zhcs, reduceCtorEq] at hc); (try (exfalso; first | contradiction | omega | exact absurd rfl hc | exact absurd (by decide) hc))))))
  all_goals ((with_reducible apply At.retB1 (B := [])); exact rfl; exact rfl; exact zml; exact zkp; exact ⟨rfl, rfl, rfl⟩)
theorem in_ (n k : Int) : Pu Tryz.prog 152 #[.int .i64 n, .int .i64 k] (.bool (decide (0 ≤ n ∧ n ≤ k))) := Pu.intro fun m => by
  refine Ct.enterV (by rfl) Tryz.func152 rfl Tryz.ntmps152 rfl (fun w0 Rest => ?_)
  (repeat' (first | refine zss ?_ | refine zs0 ?_ | (refine zsp ?_ ?_ <;> (intro hc; (try simp only [zhcs, reduceCtorEq] at hc); (try (exfalso; first | contradiction | omega | exact absurd rfl hc | exact absurd (by decide) hc))))))
  all_goals ((with_reducible apply At.retB1 (B := [])); exact rfl; exact rfl; exact zml; exact zkp; exact ⟨congrArg Value.bool (by simp [hc]), rfl, rfl⟩)
/-- a cell's events may be its first and its last -/
def spn (c : Cell) : Prop := (c.n = 1 ∧ c.F = c.L ∧ c.F.ok) ∨ (1 < c.n ∧ c.F.ok ∧ c.L.ok ∧ c.F.T < c.L.T ∧ c.n - 1 ≤ c.L.T - c.F.T)
instance (c : Cell) : Decidable (spn c) := by unfold spn; infer_instance
theorem spans (c : Cell) (hn : -9223372036854775808 ≤ c.n ∧ c.n ≤ 9223372036854775807) : Pu Tryz.prog 151 #[c.v] (.bool (decide (spn c))) := Pu.intro fun m => by
  have hk := Ev.check c.F
  by_cases h1 : c.n = 1
  · by_cases h2 : c.F = c.L
    · by_cases h3 : c.F.ok
      · rw [show c.F.chk = 0 from if_pos h3] at hk
        rw [decide_eq_true (show spn c from .inl ⟨h1, h2, h3⟩)]
        refine Ct.enterV (by rfl) Tryz.func151 rfl Tryz.ntmps151 rfl (fun w0 Rest => ?_)
        (repeat' (first | refine zss ?_ | ((first | (with_reducible first | apply At.val | apply AtQ.val)); (exact Mrg.pr_eveq (a := c.F) (b := c.L) (by rfl) (by rfl)); exact rfl) | refine zs0 ?_ | ((with_reducible first | apply AtM1.callp | apply AtQ.callp | apply At.callp); kernel_rfl; exact rfl; exact rfl; exact hk) | ((with_reducible apply At.box (d := 1)); exact rfl; exact rfl; exact rfl; intro b1) | (refine zsp ?_ ?_ <;> (intro hc; (try simp only [zhcs, reduceCtorEq] at hc); (try (exfalso; first | (first | omega | exact absurd h2 hc) | contradiction | omega | exact absurd rfl hc | exact absurd (by decide) hc))))))
        all_goals ((with_reducible apply At.retB1 (B := [])); exact rfl; exact rfl; exact zml; exact zkp; exact ⟨rfl, rfl, rfl⟩)
      · rw [show c.F.chk = 2 from if_neg h3] at hk
        rw [decide_eq_false (show ¬ spn c from fun h => h.elim (fun h => h3 h.2.2) (fun h => by omega))]
        refine Ct.enterV (by rfl) Tryz.func151 rfl Tryz.ntmps151 rfl (fun w0 Rest => ?_)
        (repeat' (first | refine zss ?_ | ((first | (with_reducible first | apply At.val | apply AtQ.val)); (exact Mrg.pr_eveq (a := c.F) (b := c.L) (by rfl) (by rfl)); exact rfl) | refine zs0 ?_ | ((with_reducible first | apply AtM1.callp | apply AtQ.callp | apply At.callp); kernel_rfl; exact rfl; exact rfl; exact hk) | ((with_reducible apply At.box (d := 1)); exact rfl; exact rfl; exact rfl; intro b1) | (refine zsp ?_ ?_ <;> (intro hc; (try simp only [zhcs, reduceCtorEq] at hc); (try (exfalso; first | (first | omega | exact absurd h2 hc) | contradiction | omega | exact absurd rfl hc | exact absurd (by decide) hc))))))
        all_goals ((with_reducible apply At.retB1 (B := [])); exact rfl; exact rfl; exact zml; exact zkp; exact ⟨rfl, rfl, rfl⟩)
    · rw [decide_eq_false (show ¬ spn c from fun h => h.elim (fun h => h2 h.2.1) (fun h => by omega))]
      refine Ct.enterV (by rfl) Tryz.func151 rfl Tryz.ntmps151 rfl (fun w0 Rest => ?_)
      (repeat' (first | refine zss ?_ | ((first | (with_reducible first | apply At.val | apply AtQ.val)); (exact Mrg.pr_eveq (a := c.F) (b := c.L) (by rfl) (by rfl)); exact rfl) | refine zs0 ?_ | ((with_reducible apply At.box (d := 1)); exact rfl; exact rfl; exact rfl; intro b1) | (refine zsp ?_ ?_ <;> (intro hc; (try simp only [zhcs, reduceCtorEq] at hc); (try (exfalso; first | (first | omega | exact absurd hc h2) | contradiction | omega | exact absurd rfl hc | exact absurd (by decide) hc))))))
      all_goals ((with_reducible apply At.retB1 (B := [])); exact rfl; exact rfl; exact zml; exact zkp; exact ⟨rfl, rfl, rfl⟩)
  · by_cases h2 : 1 < c.n
    · have hf := Ev.follow c.F c.L
      by_cases h3 : c.F.ok ∧ c.L.ok ∧ c.F.T < c.L.T
      · obtain ⟨o1, o2, o3⟩ := h3
        rw [show fol c.F c.L = true by unfold fol; rw [decide_eq_true (show two c.F c.L from ⟨o1, o2⟩), decide_eq_true o3]; rfl] at hf
        have ⟨p1, p2, _⟩ := o1
        have ⟨p3, p4, _⟩ := o2
        by_cases h4 : c.n - 1 ≤ c.L.T - c.F.T
        · rw [decide_eq_true (show spn c from .inr ⟨h2, o1, o2, o3, h4⟩)]
          refine Ct.enterV (by rfl) Tryz.func151 rfl Tryz.ntmps151 rfl (fun w0 Rest => ?_)
          (repeat' (first | refine zss ?_ | refine zs0 ?_ | ((with_reducible first | apply AtM1.callp | apply AtQ.callp | apply At.callp); kernel_rfl; exact rfl; exact rfl; exact hf) | ((with_reducible apply At.box (d := 1)); exact rfl; exact rfl; exact rfl; intro b1) | (refine zsp ?_ ?_ <;> (intro hc; (try simp only [zhcs, reduceCtorEq] at hc); (try (exfalso; first | omega | contradiction | omega | exact absurd rfl hc | exact absurd (by decide) hc))))))
          all_goals ((with_reducible apply At.retB1 (B := [])); exact rfl; exact rfl; exact zml; exact zkp; exact ⟨congrArg Value.bool (decide_eq_true h4), rfl, rfl⟩)
        · rw [decide_eq_false (show ¬ spn c from fun h => h.elim (fun h => h1 h.1) (fun h => h4 h.2.2.2.2))]
          refine Ct.enterV (by rfl) Tryz.func151 rfl Tryz.ntmps151 rfl (fun w0 Rest => ?_)
          (repeat' (first | refine zss ?_ | refine zs0 ?_ | ((with_reducible first | apply AtM1.callp | apply AtQ.callp | apply At.callp); kernel_rfl; exact rfl; exact rfl; exact hf) | ((with_reducible apply At.box (d := 1)); exact rfl; exact rfl; exact rfl; intro b1) | (refine zsp ?_ ?_ <;> (intro hc; (try simp only [zhcs, reduceCtorEq] at hc); (try (exfalso; first | omega | contradiction | omega | exact absurd rfl hc | exact absurd (by decide) hc))))))
          all_goals ((with_reducible apply At.retB1 (B := [])); exact rfl; exact rfl; exact zml; exact zkp; exact ⟨congrArg Value.bool (decide_eq_false h4), rfl, rfl⟩)
      · rw [show fol c.F c.L = false by
          unfold fol
          by_cases ht : two c.F c.L
          · rw [decide_eq_false (show ¬ c.F.T < c.L.T from fun h => h3 ⟨ht.1, ht.2, h⟩), Bool.and_false]
          · rw [decide_eq_false ht, Bool.false_and]] at hf
        rw [decide_eq_false (show ¬ spn c from fun h => h.elim (fun h => h1 h.1) (fun h => h3 ⟨h.2.1, h.2.2.1, h.2.2.2.1⟩))]
        refine Ct.enterV (by rfl) Tryz.func151 rfl Tryz.ntmps151 rfl (fun w0 Rest => ?_)
        (repeat' (first | refine zss ?_ | refine zs0 ?_ | ((with_reducible first | apply AtM1.callp | apply AtQ.callp | apply At.callp); kernel_rfl; exact rfl; exact rfl; exact hf) | ((with_reducible apply At.box (d := 1)); exact rfl; exact rfl; exact rfl; intro b1) | (refine zsp ?_ ?_ <;> (intro hc; (try simp only [zhcs, reduceCtorEq] at hc); (try (exfalso; first | omega | contradiction | omega | exact absurd rfl hc | exact absurd (by decide) hc))))))
        all_goals ((with_reducible apply At.retB1 (B := [])); exact rfl; exact rfl; exact zml; exact zkp; exact ⟨rfl, rfl, rfl⟩)
    · rw [decide_eq_false (show ¬ spn c from fun h => h.elim (fun h => h1 h.1) (fun h => h2 h.1))]
      refine Ct.enterV (by rfl) Tryz.func151 rfl Tryz.ntmps151 rfl (fun w0 Rest => ?_)
      (repeat' (first | refine zss ?_ | refine zs0 ?_ | ((with_reducible apply At.box (d := 1)); exact rfl; exact rfl; exact rfl; intro b1) | (refine zsp ?_ ?_ <;> (intro hc; (try simp only [zhcs, reduceCtorEq] at hc); (try (exfalso; first | omega | contradiction | omega | exact absurd rfl hc | exact absurd (by decide) hc))))))
      all_goals ((with_reducible apply At.retB1 (B := [])); exact rfl; exact rfl; exact zml; exact zkp; exact ⟨rfl, rfl, rfl⟩)
end Cell
end Go.Proofs.YtkoijdmlehkhbaaGreatDoor
namespace Go.Proofs.YtkoijdmlehkhbaaGreatDoor
open Go Go.J
attribute [local irreducible] At AtQ AtM AtM1 PR Ct Pu Rd Res.blk Res.own Res.ex RVs RV
namespace Cell
open Ev Wide
theorem spn_pos {c : Cell} (h : spn c) : 1 ≤ c.n ∧ c.n ≤ 35184372088833 ∧ c.F.ok ∧ c.L.ok ∧ (c.n = 1 → c.F = c.L) ∧ (1 < c.n → c.F.T < c.L.T) ∧ c.n - 1 ≤ c.L.T - c.F.T := by
  rcases h with ⟨h1, h2, h3⟩ | ⟨h1, h2, h3, h4, h5⟩
  · exact ⟨by omega, by omega, h3, h2 ▸ h3, fun _ => h2, fun h => by omega, by rw [h2]; omega⟩
  · have ⟨p1, p2, _⟩ := h2
    have ⟨p3, p4, _⟩ := h3
    exact ⟨by omega, by omega, h2, h3, fun h => by omega, fun _ => h4, h5⟩
theorem full_iff {c : Cell} {k : Nat} (hk : c.n - 1 = (k : Int)) (hs : spn c) : Full c ↔ c.I ≤ 18446744073709551615 * k ∧ (0 ≤ c.G ∧ c.G ≤ (k : Int)) ∧ (0 ≤ c.R ∧ c.R ≤ (k : Int) - c.G) ∧ 0 ≤ c.X ∧ c.X ≤ c.L.T - c.F.T := by
  obtain ⟨a1, a2, a3, a4, a5, a6, a7⟩ := spn_pos hs
  have e : (c.n - 1).toNat = k := by omega
  constructor
  · intro h
    have h1 := h.I
    have h2 := h.G
    have h3 := h.R
    have h4 := h.RG
    have h5 := h.X
    have h6 := h.XL
    rw [e] at h1
    exact ⟨h1, ⟨h2, by omega⟩, ⟨h3, by omega⟩, h5, h6⟩
  · rintro ⟨h1, ⟨h2, h3⟩, ⟨h4, h5⟩, h6, h7⟩
    exact ⟨a1, a3, a4, a5, a6, a7, h4, h2, by omega, h6, h7, by rw [e]; exact h1⟩
theorem full_spn {c : Cell} (h : Full c) : spn c := by
  by_cases h1 : c.n = 1
  · exact .inl ⟨h1, h.one h1, h.F⟩
  · have := h.n
    exact .inr ⟨by omega, h.F, h.L, h.lt (by omega), h.len⟩
theorem sV_small {x : Nat} (h : x < 340282366920938463463374607431768211456) : sV x = x ∧ sE x = 0 := ⟨if_pos h, if_pos h⟩
set_option maxHeartbeats 1000000 in
theorem check (c : Cell) (hn : -9223372036854775808 ≤ c.n ∧ c.n ≤ 9223372036854775807) : Pu Tryz.prog 102 #[c.v] (.int .i64 (chk c)) := Pu.of_le fun m => by
  have k1 := none_ c
  have k2 := spans c hn
  by_cases hz : c = z
  · rw [show chk c = 0 from if_pos (.inl hz)]
    rw [decide_eq_true hz] at k1
    refine Ct.enterV (by rfl) Tryz.func102 rfl Tryz.ntmps102 rfl (fun w0 Rest => ?_)
    (repeat' (first | refine zss ?_ | refine zs0 ?_ | ((with_reducible first | apply AtM1.callp | apply AtQ.callp | apply At.callp); kernel_rfl; exact rfl; exact rfl; exact k1) | ((with_reducible apply At.box (d := 1)); exact rfl; exact rfl; exact rfl; intro b1) | ((with_reducible apply At.alloc (d := 4)); exact rfl; exact rfl; intro b4) | (refine zsp ?_ ?_ <;> (intro hc; (try simp only [zhcs, reduceCtorEq] at hc); (try (exfalso; first | omega | contradiction | omega | exact absurd rfl hc | exact absurd (by decide) hc))))))
    all_goals ((with_reducible apply At.retB1 (B := [])); exact rfl; exact rfl; exact zml; exact zkp; exact ⟨rfl, Mem.le_refl _, rfl⟩)
  · rw [decide_eq_false hz] at k1
    by_cases hs : spn c
    · rw [decide_eq_true hs] at k2
      obtain ⟨a1, a2, a3, a4, a5, a6, a7⟩ := spn_pos hs
      obtain ⟨k, hk⟩ : ∃ k : Nat, c.n - 1 = (k : Int) := ⟨(c.n - 1).toNat, by omega⟩
      have hf := full_iff hk hs
      have ⟨p1, p2, _⟩ := a3
      have ⟨p3, p4, _⟩ := a4
      have ht := Wide.times 18446744073709551615 k (by decide) (by omega)
      obtain ⟨e1, e2⟩ := sV_small (x := 18446744073709551615 * k) (by omega)
      rw [e1, e2] at ht
      have ho := Wide.of_ 18446744073709551615 (by decide)
      obtain ⟨T, hT⟩ : ∃ T, 18446744073709551615 * k = T := ⟨_, rfl⟩
      rw [hT] at ht hf
      have hl := Wide.less T c.I
      have hsub : IntKind.wrap .i64 (c.n - 1) = (k : Int) := by rw [hk]; exact IntWalk.i64_in _ (by omega)
      have hcv : IntKind.wrap .u64 (k : Int) = (k : Int) := IntWalk.u64_in _ (by omega)
      by_cases hF : Full c
      · rw [show chk c = 0 from if_pos (.inr hF)]
        obtain ⟨h1, ⟨h2, h3⟩, ⟨h4, h5⟩, h6, h7⟩ := hf.1 hF
        rw [decide_eq_false (by omega)] at hl
        refine Ct.enterV (by rfl) Tryz.func102 rfl Tryz.ntmps102 rfl (fun w0 Rest => ?_)
        (repeat' (first | refine zss ?_ | ((first | (with_reducible first | apply At.val | apply AtQ.val)); (first | exact pr_sub (by rfl) (by rfl) hsub | exact pr_conv ⟨_, rfl⟩ (by rfl) (by rfl) hcv); exact rfl) | refine zs0 ?_ | ((with_reducible first | apply AtM1.callp | apply AtQ.callp | apply At.callp); kernel_rfl; exact rfl; exact rfl; exact k1) | ((with_reducible first | apply AtM1.callp | apply AtQ.callp | apply At.callp); kernel_rfl; exact rfl; exact rfl; exact k2) | ((with_reducible first | apply AtM1.callp | apply AtQ.callp | apply At.callp); kernel_rfl; exact rfl; exact rfl; exact ho) | ((with_reducible first | apply AtM1.callp | apply AtQ.callp | apply At.callp); kernel_rfl; exact rfl; exact rfl; exact ht) | ((with_reducible first | apply AtM1.callp | apply AtQ.callp | apply At.callp); kernel_rfl; exact rfl; exact rfl; exact hl) | ((with_reducible first | apply AtM1.callp | apply AtQ.callp | apply At.callp); kernel_rfl; exact rfl; exact rfl; exact in_ _ _) | ((with_reducible apply At.box (d := 1)); exact rfl; exact rfl; exact rfl; intro b1) | ((with_reducible apply At.alloc (d := 4)); exact rfl; exact rfl; intro b4) | (refine zsp ?_ ?_ <;> (intro hc; (try simp only [zhcs, reduceCtorEq] at hc); (try (exfalso; first | omega | contradiction | omega | exact absurd rfl hc | exact absurd (by decide) hc))))))
        all_goals ((with_reducible apply At.retB1 (B := [])); exact rfl; exact rfl; exact zml; exact zkp; exact ⟨rfl, Mem.le_refl _, rfl⟩)
      · rw [show chk c = 2 from if_neg (fun h => h.elim hz hF)]
        rw [hf] at hF
        refine Ct.enterV (by rfl) Tryz.func102 rfl Tryz.ntmps102 rfl (fun w0 Rest => ?_)
        (repeat' (first | refine zss ?_ | ((first | (with_reducible first | apply At.val | apply AtQ.val)); (first | exact pr_sub (by rfl) (by rfl) hsub | exact pr_conv ⟨_, rfl⟩ (by rfl) (by rfl) hcv); exact rfl) | refine zs0 ?_ | ((with_reducible first | apply AtM1.callp | apply AtQ.callp | apply At.callp); kernel_rfl; exact rfl; exact rfl; exact k1) | ((with_reducible first | apply AtM1.callp | apply AtQ.callp | apply At.callp); kernel_rfl; exact rfl; exact rfl; exact k2) | ((with_reducible first | apply AtM1.callp | apply AtQ.callp | apply At.callp); kernel_rfl; exact rfl; exact rfl; exact ho) | ((with_reducible first | apply AtM1.callp | apply AtQ.callp | apply At.callp); kernel_rfl; exact rfl; exact rfl; exact ht) | ((with_reducible first | apply AtM1.callp | apply AtQ.callp | apply At.callp); kernel_rfl; exact rfl; exact rfl; exact hl) | ((with_reducible first | apply AtM1.callp | apply AtQ.callp | apply At.callp); kernel_rfl; exact rfl; exact rfl; exact in_ _ _) | ((with_reducible apply At.box (d := 1)); exact rfl; exact rfl; exact rfl; intro b1) | ((with_reducible apply At.alloc (d := 4)); exact rfl; exact rfl; intro b4) | (refine zsp ?_ ?_ <;> (intro hc; (try simp only [zhcs, reduceCtorEq] at hc); (try (exfalso; first | (first | omega | exact hF ⟨by omega, by omega, by omega, by omega, by omega⟩) | contradiction | omega | exact absurd rfl hc | exact absurd (by decide) hc))))))
        all_goals ((with_reducible apply At.retB1 (B := [])); exact rfl; exact rfl; exact zml; exact zkp; exact ⟨rfl, Mem.le_refl _, rfl⟩)
    · rw [show chk c = 2 from if_neg (fun h => h.elim hz (fun h => hs (full_spn h)))]
      rw [decide_eq_false hs] at k2
      refine Ct.enterV (by rfl) Tryz.func102 rfl Tryz.ntmps102 rfl (fun w0 Rest => ?_)
      (repeat' (first | refine zss ?_ | refine zs0 ?_ | ((with_reducible first | apply AtM1.callp | apply AtQ.callp | apply At.callp); kernel_rfl; exact rfl; exact rfl; exact k1) | ((with_reducible first | apply AtM1.callp | apply AtQ.callp | apply At.callp); kernel_rfl; exact rfl; exact rfl; exact k2) | ((with_reducible apply At.box (d := 1)); exact rfl; exact rfl; exact rfl; intro b1) | ((with_reducible apply At.alloc (d := 4)); exact rfl; exact rfl; intro b4) | (refine zsp ?_ ?_ <;> (intro hc; (try simp only [zhcs, reduceCtorEq] at hc); (try (exfalso; first | omega | contradiction | omega | exact absurd rfl hc | exact absurd (by decide) hc))))))
      all_goals ((with_reducible apply At.retB1 (B := [])); exact rfl; exact rfl; exact zml; exact zkp; exact ⟨rfl, Mem.le_refl _, rfl⟩)
end Cell
end Go.Proofs.YtkoijdmlehkhbaaGreatDoor
namespace Go.Proofs.YtkoijdmlehkhbaaGreatDoor
open Go Go.J
attribute [local irreducible] At AtQ PR Ct Pu
namespace Win
def ofOk (t w : Int) : Prop := 0 ≤ t ∧ t ≤ 35184372088831 ∧ 1 ≤ w ∧ w ≤ 1099511627776
instance (t w : Int) : Decidable (ofOk t w) := by unfold ofOk; infer_instance
def ofV (t w : Int) : Int := if ofOk t w then t / w else 0
def ofE (t w : Int) : Int := if ofOk t w then 0 else 1
def beginOk (i w : Int) : Prop := 1 ≤ w ∧ w ≤ 1099511627776 ∧ 0 ≤ i ∧ i ≤ 35184372088832 / w
instance (t w : Int) : Decidable (beginOk t w) := by unfold beginOk; infer_instance
def oldOk (t w n : Int) : Prop := ofOk t w ∧ 1 ≤ n ∧ n ≤ 4096
instance (t w n : Int) : Decidable (oldOk t w n) := by unfold oldOk; infer_instance
def oldV (t w n : Int) : Int := if oldOk t w n then (if 0 < t / w + 1 - n then t / w + 1 - n else 0) else 0
def oldE (t w n : Int) : Int := if oldOk t w n then 0 else 1
def slotV (i n : Int) : Int := if i < 0 ∨ n < 1 then 0 else i % n
def goneV (t now w n : Int) : Bool := decide (ofE t w = 0 ∧ oldE now w n = 0 ∧ ofV t w < oldV now w n)
theorem ofE_cases (t w : Int) : (ofOk t w ∧ ofE t w = 0 ∧ ofV t w = t / w) ∨ (¬ ofOk t w ∧ ofE t w = 1 ∧ ofV t w = 0) := by
  unfold ofE ofV; by_cases h : ofOk t w <;> simp [h]
theorem ofV_bd (t w : Int) : 0 ≤ ofV t w ∧ ofV t w ≤ 35184372088831 := by
  unfold ofV; split
  · rename_i h; obtain ⟨h1, h2, h3, h4⟩ := h
    have := Int.ediv_nonneg h1 (by omega : 0 ≤ w)
    have := Int.ediv_le_self w h1
    omega
  · omega
theorem mod_bd {t w : Int} (h3 : 1 ≤ w) : 0 ≤ t % w ∧ t % w < w := ⟨Int.emod_nonneg t (by omega), Int.emod_lt_of_pos t (by omega)⟩
end Win
open Win
theorem win_in64 (n a b : Int) : Pu Tryz.prog 193 #[.int .i64 n, .int .i64 a, .int .i64 b] (.bool (decide (a ≤ n ∧ n ≤ b))) := Pu.intro fun m => by
  refine Ct.enterV (by rfl) Tryz.func193 rfl Tryz.ntmps193 rfl (fun w0 Rest => ?_)
  (repeat' (first | refine zss ?_ | refine zs0 ?_ | (refine zsp ?_ ?_ <;> (intro hc; (try simp only [zhcs, reduceCtorEq] at hc); (try (exfalso; first | contradiction | omega | exact absurd rfl hc | exact absurd (by decide) hc))))))
  all_goals (refine At.ret1 rfl (by rfl) (Mem.le_refl _) ⟨?_, rfl, rfl⟩ (Ent.refl _); simp [hc])
theorem win_in (n a b : Int) : Pu Tryz.prog 222 #[.int .i64 n, .int .i64 a, .int .i64 b] (.bool (decide (a ≤ n ∧ n ≤ b))) := Pu.intro fun m => by
  refine Ct.enterV (by rfl) Tryz.func222 rfl Tryz.ntmps222 rfl (fun w0 Rest => ?_)
  (repeat' (first | refine zss ?_ | refine zs0 ?_ | (refine zsp ?_ ?_ <;> (intro hc; (try simp only [zhcs, reduceCtorEq] at hc); (try (exfalso; first | contradiction | omega | exact absurd rfl hc | exact absurd (by decide) hc))))))
  all_goals (refine At.ret1 rfl (by rfl) (Mem.le_refl _) ⟨?_, rfl, rfl⟩ (Ent.refl _); simp [hc])
theorem win_width (w : Int) : Pu Tryz.prog 147 #[.int .i64 w] (.bool (decide (1 ≤ w ∧ w ≤ 1099511627776))) := Pu.intro fun m => by
  refine Ct.enterV (by rfl) Tryz.func147 rfl Tryz.ntmps147 rfl (fun w0 Rest => ?_)
  (repeat' (first | refine zss ?_ | refine zs0 ?_ | ((with_reducible first | apply AtM1.callp | apply AtQ.callp | apply At.callp); kernel_rfl; exact rfl; exact rfl; exact win_in64 _ _ _) | (refine zsp ?_ ?_ <;> (intro hc; (try simp only [zhcs, reduceCtorEq] at hc); (try (exfalso; first | contradiction | omega | exact absurd rfl hc | exact absurd (by decide) hc))))))
  all_goals (refine At.ret1 rfl (by rfl) (Mem.le_refl _) ⟨?_, rfl, rfl⟩ (Ent.refl _); rfl)
theorem win_of (t w : Int) : Pu Tryz.prog 190 #[.int .i64 t, .int .i64 w] (.tuple #[.int .i64 (ofV t w), .int .i64 (ofE t w)]) := Pu.intro fun m => by
  refine Ct.enterV (by rfl) Tryz.func190 rfl Tryz.ntmps190 rfl (fun w0 Rest => ?_)
  (repeat' (first | refine zss ?_ | refine zs0 ?_ | ((with_reducible first | apply AtM1.callp | apply AtQ.callp | apply At.callp); kernel_rfl; exact rfl; exact rfl; exact win_in64 _ _ _) | ((with_reducible first | apply AtM1.callp | apply AtQ.callp | apply At.callp); kernel_rfl; exact rfl; exact rfl; exact win_width _) | (refine zsp ?_ ?_ <;> (intro hc; (try simp only [zhcs, reduceCtorEq] at hc); (try (exfalso; first | contradiction | omega | exact absurd rfl hc | exact absurd (by decide) hc))))))
  all_goals (refine At.ret2 rfl (by rfl) (by rfl) (Mem.le_refl _) ⟨?_, rfl, rfl⟩ (Ent.refl _); (first | (have hif : ofOk t w := (by unfold ofOk; omega); simp only [ofV, ofE, if_pos hif]; done) | (have hif : ¬ ofOk t w := (by unfold ofOk; omega); simp only [ofV, ofE, if_neg hif]; done)))
theorem win_oldest (t w n : Int) : Pu Tryz.prog 191 #[.int .i64 t, .int .i64 w, .int .i64 n] (.tuple #[.int .i64 (oldV t w n), .int .i64 (oldE t w n)]) := Pu.intro fun m => by
  have hb := ofV_bd t w
  rcases ofE_cases t w with ⟨h1, h2, h3⟩ | ⟨h1, h2, h3⟩
  all_goals (refine Ct.enterV (by rfl) Tryz.func191 rfl Tryz.ntmps191 rfl (fun w0 Rest => ?_); (repeat' (first | refine zss ?_ | refine zs0 ?_ | ((with_reducible first | apply AtM1.callp | apply AtQ.callp | apply At.callp); kernel_rfl; exact rfl; exact rfl; exact win_of _ _) | ((with_reducible first | apply AtM1.callp | apply AtQ.callp | apply At.callp); kernel_rfl; exact rfl; exact rfl; exact win_in _ _ _) | (refine zsp ?_ ?_ <;> (intro hc; (try simp only [zhcs, reduceCtorEq] at hc); (try (exfalso; first | contradiction | omega | exact absurd rfl hc | exact absurd (by decide) hc)))))))
  all_goals (refine At.ret2 rfl (by rfl) (by rfl) (Mem.le_refl _) ⟨?_, rfl, rfl⟩ (Ent.refl _))
  all_goals first
    | (have hif : oldOk t w n := ⟨h1, by omega⟩; simp only [oldV, oldE, if_pos hif, h3]; done)
    | (have hif : ¬ oldOk t w n := (fun h => by first | exact h1 h.1 | (have := h.2; omega)); simp only [oldV, oldE, if_neg hif]; done)
theorem win_slot (i n : Int) (hi : -9223372036854775808 ≤ i ∧ i ≤ 9223372036854775807) (hn : -9223372036854775808 ≤ n ∧ n ≤ 9223372036854775807) : Pu Tryz.prog 223 #[.int .i64 i, .int .i64 n] (.int .i64 (slotV i n)) := Pu.intro fun m => by
  have hm := @mod_bd i n
  refine Ct.enterV (by rfl) Tryz.func223 rfl Tryz.ntmps223 rfl (fun w0 Rest => ?_)
  (repeat' (first | refine zss ?_ | refine zs0 ?_ | (refine zsp ?_ ?_ <;> (intro hc; (try simp only [zhcs, reduceCtorEq] at hc); (try (exfalso; first | contradiction | omega | exact absurd rfl hc | exact absurd (by decide) hc))))))
  all_goals (refine At.ret1 rfl (by rfl) (Mem.le_refl _) ⟨?_, rfl, rfl⟩ (Ent.refl _); (first | (have hif : (i < 0 ∨ n < 1) := (by omega); simp only [slotV, if_pos hif]; done) | (have hif : ¬ (i < 0 ∨ n < 1) := (by omega); simp only [slotV, if_neg hif]; done)))
theorem win_gone (t now w n : Int) : Pu Tryz.prog 144 #[.int .i64 t, .int .i64 now, .int .i64 w, .int .i64 n] (.bool (goneV t now w n)) := Pu.intro fun m => by
  refine Ct.enterV (by rfl) Tryz.func144 rfl Tryz.ntmps144 rfl (fun w0 Rest => ?_)
  (repeat' (first | refine zss ?_ | refine zs0 ?_ | ((with_reducible first | apply AtM1.callp | apply AtQ.callp | apply At.callp); kernel_rfl; exact rfl; exact rfl; exact win_of _ _) | ((with_reducible first | apply AtM1.callp | apply AtQ.callp | apply At.callp); kernel_rfl; exact rfl; exact rfl; exact win_oldest _ _ _) | (refine zsp ?_ ?_ <;> (intro hc; (try simp only [zhcs, reduceCtorEq] at hc); (try (exfalso; first | contradiction | omega | exact absurd rfl hc | exact absurd (by decide) hc))))))
  all_goals (refine At.ret1 rfl (by rfl) (Mem.le_refl _) ⟨?_, rfl, rfl⟩ (Ent.refl _); simp [goneV, *])
end Go.Proofs.YtkoijdmlehkhbaaGreatDoor
namespace Go.J
open Go
theorem pr_index_agg {P : Program} {n : Nat} {F : Fr} {C : World → Prop} {x y : Operand} {t e : TypeId} {len k : Nat} {ki : IntKind} {cs : List Value} {v : Value} (hx : ev F x = some (.agg cs.toArray)) (hy : ev F y = some (.int ki (k : Int)))
    (ht : P.underlying t = some (.array len e)) (hs : sizeB P e = some 1) (hg : isAggB P e = some false) (hk : Nat.blt k len = true) (hv : nthl cs k = some v) : PR P n F C (.index t x y) v := fun _ _ _ _ _ a w ha _ => by
  have hk' : k < len := Nat.le_of_ble_eq_true hk
  have hr : ∀ w, (underlying t).run P w = .ok (.array len e) w := fun w => by simp only [underlying, program, bind, Sem.bind, Sem.run, ht]; rfl
  have hv' : cs[k]? = some v := by rw [nthl_eq] at hv; exact hv
  have : (Instr.index t (.agg cs.toArray) (.int ki (k : Int))).run P w = .ok v w := by
    unfold Instr.index
    have hb : (0 : Int) ≤ (k : Int) ∧ (k : Int) < (len : Int) := ⟨by omega, by omega⟩
    simp only [asIntOf, pure, Sem.run_bind, Sem.run, Result.andThen, hr, hb, and_self, if_true, run_sizeOf hs, Int.toNat_natCast, Nat.mul_one]
    unfold part
    simp only [Sem.run_bind, run_isAgg hg, Result.andThen]
    simp [hv', pure, Sem.run]
  simp only [execOp, ha.ev hx, ha.ev hy, Sem.run_bind]
  rw [this]
  rfl
def buildAL (P : Program) (t : TypeId) (ps : List (Nat × Value)) : Option (List Value) := match P.underlying t with
  | some (.array _ e) => match zeroL P t with
    | some z => match P.info? e with
      | some ie => match fillL (fun i => some (i * ie.size, ie.size)) z ps with
        | some r => flat r
        | none => none
      | none => none
    | none => none
  | _ => none
theorem buildAL_eq {P : Program} {t : TypeId} {ps : List (Nat × Value)} {r : List Value} (h : buildAL P t ps = some r) : P.built t ps = some r.toArray := by
  unfold buildAL at h
  unfold Program.built
  cases hu : P.underlying t with
  | none => rw [hu] at h; cases h
  | some d =>
    rw [hu] at h
    cases d <;> simp at h
    rename_i n e
    cases hz : zeroL P t with
    | none => rw [hz] at h; simp at h
    | some zs =>
      obtain ⟨i, z, hi, hzz, hzc⟩ := zeroL_spec hz
      rw [hz] at h
      simp only at h
      cases hie : P.info? e with
      | none => rw [hie] at h; simp at h
      | some ie =>
        rw [hie] at h
        simp only at h
        cases hf : fillL (fun i => some (i * ie.size, ie.size)) zs ps with
        | none => rw [hf] at h; cases h
        | some r' =>
          rw [hf] at h
          have := flat_eq _ _ h
          subst this
          simp only [hi, hzz, hie, hzc]
          exact fillL_eq _ _ _ _ hf
theorem pr_buildArr {P : Program} {n : Nat} {F : Fr} {C : World → Prop} {t : TypeId} {xs : List (Nat × Operand)} {ps : List (Nat × Value)} {r : List Value} (hx : evps F xs = some ps) (hb : buildAL P t ps = some r) : PR P n F C (.build t xs.toArray) (.agg r.toArray) := fun _ _ _ _ _ a w ha _ => by
  have e : (xs.toArray.map fun (i, x) => (i, a.eval x)) = ps.toArray := by simp [evps_map ha xs ps hx]
  simp only [execOp, e, Sem.run_bind]
  rw [run_build w t ps.toArray r.toArray (by simpa using buildAL_eq hb)]
  rfl
theorem nine {L : List Int} (h : L.length = 9) : ∃ r a b d x y w c g, L = [r, a, b, d, x, y, w, c, g] := by
  match L, h with
  | [r, a, b, d, x, y, w, c, g], _ => exact ⟨r, a, b, d, x, y, w, c, g, rfl⟩
end Go.J
namespace Go.J
open Go
section
variable {P : Program} {n : Nat} {F : Fr} {C : World → Prop}
theorem run_equal_slnil {t e : TypeId} {p : Option Addr} {l c l2 c2 : Nat} (ht : P.underlying t = some (.slice e)) (w : World) : (Op.equal t (.slice p l c) (.slice none l2 c2)).run P w = .ok p.isNone w := by
  simp [Op.equal, Op.maxDepth, Lib.run_equalIn_slice_nil w 9999 t e p l c l2 c2 ht]
theorem pr_sleql {x y : Operand} {p : Option Addr} {l c l2 c2 : Nat} {t u e : TypeId} (ht : P.underlying t = some (.slice e)) (hx : ev F x = some (.slice p l c)) (hy : ev F y = some (.slice none l2 c2)) : PR P n F C (.binOp .eql t x y u) (.bool p.isNone) :=
  pr_eql_of hx hy (fun _ => rfl) (by cases p <;> rfl) (fun w _ => run_equal_slnil ht w)
def zeroOneB (P : Program) (e : TypeId) : Bool := match P.info? e with
  | some i => match i.zero with
    | some z => z.cells.toList.all oneCell
    | none => false
  | none => false
end
section
variable {P : Program} {n : Nat} {w0 : World} {F : Fr} {m : Mem} {Rs : List Res} {Q : Exit → Act → World → Prop} {α : Type} [Inhabited α] {f : α → List Value} {sz : Nat} {E : TypeId} {p : Option Addr} {c : Nat} {l : List α} {Rs' : List Res}
theorem pr_slice_own {x z : Operand} {t : TypeId} {ln hi : Nat} {k : IntKind} (hx : ev F x = some (.slice p ln c)) (hz : ev F z = some (.int k (hi : Int))) (hp : Pick Rs (.own f sz E p c l) Rs') (hl : l.length = hi) (ht : P.underlying t = some (.slice E)) (hs : sizeB P E = some sz) :
    PR P n F (HW w0 m Rs) (.slice t x none (some z) none) (.slice (subp p c 0 sz) (hi - 0) (c - 0)) := by
  subst hl
  exact fun d ty pos aft g a w ha hC => pr_slice_h hx hz ht hs (own_le hp w hC) d ty pos aft g a w ha hC
theorem zeroCells_one {z : Array Value} (h : z.toList.all oneCell = true) (k : Nat) : ∀ v ∈ (Builtin.zeroCells z k).toList, v.oneCell' = true := fun v hv => by
  simp only [Builtin.zeroCells, Array.toList_map, Array.toList_range, List.mem_map, List.mem_range] at hv
  obtain ⟨i, hi, rfl⟩ := hv
  have hz : 0 < z.size := by
    rcases Nat.eq_zero_or_pos z.size with e | e
    · rw [e] at hi; simp at hi
    · exact e
  have hm := Nat.mod_lt i hz
  have := List.all_eq_true.1 h z[i % z.size]! (by
    rw [getElem!_pos z _ hm]
    exact Array.getElem_mem_toList hm)
  generalize z[i % z.size]! = u at this
  cases u <;> first | rfl | (simp [oneCell] at this)
/-- the end of what one owns is cleared: the rest stays -/
theorem At.clearW {ops : Array Oper} {rest : List Oper} {d : Option Nat} {x : Operand} {t : TypeId} {ty : TypeId} {pos : String} {aft : Array Edge} {ln c2 : Nat} {q : Option Addr}
    (lo : Nat) (hx : ev F x = some (.slice q ln c2)) (hp : Pick Rs (.own f sz E p c l) Rs') (hq : q = subp p c lo sz) (hf : Fl f sz) (ht : P.underlying t = some (.slice E)) (he : elemB P E sz = true) (hz1 : zeroOneB P E = true) (hlo : lo ≤ l.length) (hln : ln = l.length - lo) (hd : d = none)
    (h : At n w0 F m (.own f sz E p c (l.take lo) :: Rs') (wpList P ops Q rest)) :
    At n w0 F m Rs (wpList P ops Q (⟨d, .call ⟨.builtin .clear, #[x], #[t]⟩, ty, pos, aft, none⟩ :: rest)) := fun a w ha hw =>
  wpList_plain rfl fun K hK => by
    subst hln hd hq
    obtain ⟨i, z, hi, hz, hsz, hbt, hzs⟩ := elemB_spec he
    have hone : z.cells.toList.all oneCell = true := by
      unfold zeroOneB at hz1; rw [hi] at hz1; simp only [hz] at hz1; exact hz1
    have hrow : ∀ s, (Res.own f sz E p c l).p w s → ∃ w', (Builtin.clear_ #[t] ty #[.slice (subp p c lo sz) (l.length - lo) c2]).run P w = .ok (.tuple #[]) w' ∧ (Res.own f sz E p c (l.take lo)).p w' s ∧ w'.os = w.os ∧ w'.tape = w.tape ∧ w'.output = w.output ∧ w.heap.size ≤ w'.heap.size ∧ (∀ k, k < w.heap.size → ¬ s k → w'.heap[k]? = w.heap[k]?) := fun s hown => by
      by_cases hz0 : l.length - lo = 0
      · have hl : l.take lo = l := List.take_of_length_le (by omega)
        rw [hz0, hl]
        refine ⟨w, ?_, hown, rfl, rfl, rfl, Nat.le_refl _, fun _ _ _ => rfl⟩
        cases subp p c lo sz <;> simp [Builtin.clear_, run_underlying ht]
      · rcases hown with ⟨rfl, rfl, rfl, hno⟩ | ⟨g, o, cur, rfl, h4, h5, h6, h7, h8, hgs⟩
        · simp at hz0
        · have hne : c ≠ lo := by omega
          have hsub : subp (some ⟨g, o, none⟩) c lo sz = some ⟨g, o + lo * sz, none⟩ := by unfold subp; rw [if_neg hne]; simp [Addr.add_eq]
          rw [hsub]
          have hlen : (Builtin.zeroCells z.cells (l.length - lo)).toList.length = (l.length - lo) * sz := by rw [Array.length_toList, size_zeroCells, hzs]
          have hcs : l.length * sz ≤ c * sz := Nat.mul_le_mul_right _ h5
          have hsp : (l.length - lo) * sz + lo * sz = l.length * sz := by rw [← Nat.add_mul]; congr 1; omega
          have hst := run_storeCells_at P g (o + lo * sz) E (Builtin.zeroCells z.cells (l.length - lo)).toList 0 cur w h4 (by omega) (zeroCells_one hone _)
          simp only [Nat.add_zero] at hst
          refine ⟨w.setRow g (cur.toList.take (o + lo * sz) ++ (Builtin.zeroCells z.cells (l.length - lo)).toList ++ cur.toList.drop (o + lo * sz + (Builtin.zeroCells z.cells (l.length - lo)).toList.length)).toArray, ?_, .inr ⟨g, o, (cur.toList.take (o + lo * sz) ++ (Builtin.zeroCells z.cells (l.length - lo)).toList ++ cur.toList.drop (o + lo * sz + (Builtin.zeroCells z.cells (l.length - lo)).toList.length)).toArray, rfl, setRow_heap w g cur _ E _ h4, by simp only [List.length_take]; omega, h6, ?_, fun j hj => ?_, hgs⟩, rfl, rfl, rfl, by simp, fun i _ hi => setRow_other w g i _ (fun e => hi ((hgs i).2 e))⟩
          · obtain ⟨k, hk⟩ : ∃ k, l.length - lo = k + 1 := ⟨l.length - lo - 1, by omega⟩
            have hzv : ∀ w, (zeroValue E).run P w = .ok z w := fun w => by simp [zeroValue, typeInfo, hi, hz]
            rw [hk] at hst ⊢
            simp [Builtin.clear_, run_underlying ht, hzv, hst]
          · simp only [List.size_toArray, List.length_append, List.length_take, List.length_drop, Array.length_toList, size_zeroCells, hzs]
            omega
          · have hj2 : j < lo * sz := by rw [List.length_take] at hj; exact Nat.lt_of_lt_of_le hj (Nat.mul_le_mul_right _ (Nat.min_le_left _ _))
            have hll : lo * sz ≤ l.length * sz := Nat.mul_le_mul_right _ hlo
            rw [List.getElem?_toArray, List.append_assoc, List.getElem?_append_left (by simp only [List.length_take, Array.length_toList]; omega), List.getElem?_take, if_pos (by omega), Array.getElem?_toList, h8 j (by omega)]
            have e : l.flatMap f = (l.take lo).flatMap f ++ (l.drop lo).flatMap f := by rw [← List.flatMap_append, List.take_append_drop]
            rw [e, List.getElem?_append_left (by rw [flatMap_length hf.len]; exact hj)]
    obtain ⟨s0, hown⟩ := hw.get hp
    obtain ⟨w', hr', _⟩ := hrow s0 hown
    have hrun' : (execOp a.eval ⟨none, .call ⟨.builtin .clear, #[x], #[t]⟩, ty, pos, aft, none⟩).run P w = .ok (.value (.tuple #[])) w' := by
      rw [BigFrame.execOp_builtin]
      simp [BigFrame.builtin_clear, ha.ev hx, hr']
    unfold Oper.wp
    rw [hrun']
    refine hK _ _ (h _ _ ha (hw.turn hp fun s hs => ?_))
    obtain ⟨w2, hr2, h2, g1, g2, g3, g4, g5⟩ := hrow s hs
    rw [hr'] at hr2
    injection hr2 with _ e2
    subst e2
    exact ⟨s, h2, g1, g2, g3, g4, g5, fun k hk => .inl hk⟩
end
end Go.J
namespace Go.Proofs.YtkoijdmlehkhbaaGreatDoor
open Go Go.J
attribute [local irreducible] At AtQ AtM AtM1 PR Ct Pu Rd Res.blk Res.own Res.ex RVs RV
namespace Ls
abbrev fI : Int → List Value := fun x => [.int .i64 x]
instance : Fl fI 1 := ⟨fun _ => rfl, fun _ v h => by simp at h; subst h; rfl, by decide⟩
abbrev fS : List UInt8 → List Value := fun x => [.string (str x)]
instance : Fl fS 1 := ⟨fun _ => rfl, fun _ v h => by simp at h; subst h; rfl, by decide⟩
abbrev fO : Bool → List Value := fun x => [.bool x]
instance : Fl fO 1 := ⟨fun _ => rfl, fun _ v h => by simp at h; subst h; rfl, by decide⟩
abbrev fH : Nat → List Value := fun x => [.int .u16 (x : Int)]
instance : Fl fH 1 := ⟨fun _ => rfl, fun _ v h => by simp at h; subst h; rfl, by decide⟩
/-- a slice that stands in a slice -/
structure SX (α : Type) where
  (l : List α) (p : Option Addr) (c : Nat)
instance {α : Type} : Inhabited (SX α) := ⟨⟨[], none, 0⟩⟩
abbrev fX {α : Type} : SX α → List Value := fun x => [.slice x.p x.l.length x.c]
instance {α : Type} : Fl (fX (α := α)) 1 := ⟨fun _ => rfl, fun _ v h => by simp at h; subst h; rfl, by decide⟩
theorem ext! {α : Type} [Inhabited α] {a b : List α} (hl : a.length = b.length) (h : ∀ i, i < a.length → a[i]! = b[i]!) : a = b :=
  List.ext_getElem hl fun i h1 h2 => by have := h i h1; rwa [getElem!_pos a i h1, getElem!_pos b i h2] at this
theorem take_snoc {α : Type} [Inhabited α] {l : List α} {i : Nat} (h : i < l.length) : l.take (i + 1) = l.take i ++ [l[i]!] := by
  rw [getElem!_pos l i h, List.take_succ_eq_append_getElem h]
theorem mem! {α : Type} [Inhabited α] {l : List α} {i : Nat} (h : i < l.length) : l[i]! ∈ l := by
  rw [getElem!_pos l i h]; exact List.getElem_mem h
end Ls
end Go.Proofs.YtkoijdmlehkhbaaGreatDoor
namespace Go.Proofs.YtkoijdmlehkhbaaGreatDoor
open Go Go.J
attribute [local irreducible] At AtQ AtM AtM1 PR Ct Pu Rd Res.blk Res.own Res.ex RVs RV
structure Slot where
  (w : Int) (c : Cell)
namespace Slot
abbrev cells : Slot → List Value := fun s => .int .i64 s.w :: Cell.cells s.c
abbrev v (s : Slot) : Value := .agg (cells s).toArray
instance : Fl cells 15 := ⟨fun _ => rfl, fun x v h => by simp at h; rcases h with rfl | rfl | rfl | rfl | rfl | rfl | rfl | rfl | rfl | rfl | rfl | rfl | rfl | rfl | rfl <;> rfl, by decide⟩
abbrev z : Slot := ⟨0, Cell.z⟩
instance : Inhabited Slot := ⟨z⟩
theorem ext {a b : Slot} (h1 : a.w = b.w) (h2 : a.c = b.c) : a = b := by cases a; cases b; cases h1; cases h2; rfl
instance : DecidableEq Slot := fun a b => decidable_of_iff (a.w = b.w ∧ a.c = b.c) ⟨fun h => ext h.1 h.2, fun h => by subst h; exact ⟨rfl, rfl⟩⟩
def In (s : Slot) : Prop := (-9223372036854775808 ≤ s.w ∧ s.w ≤ 9223372036854775807) ∧ (-9223372036854775808 ≤ s.c.n ∧ s.c.n ≤ 9223372036854775807) ∧ s.c.F.V < 18446744073709551616 ∧ s.c.L.V < 18446744073709551616 ∧ s.c.I < 340282366920938463463374607431768211456
end Slot
namespace Ti
open Slot Win
theorem and_slot (a b : Slot) : andL [decide (a.w = b.w), decide (a.c.n = b.c.n), decide (a.c.F.T = b.c.F.T), decide ((a.c.F.V : Int) = (b.c.F.V : Int)), decide (a.c.F.C = b.c.F.C), a.c.F.S == b.c.F.S, decide (a.c.L.T = b.c.L.T), decide ((a.c.L.V : Int) = (b.c.L.V : Int)), decide (a.c.L.C = b.c.L.C), a.c.L.S == b.c.L.S,
    decide (((a.c.I / 18446744073709551616 : Nat) : Int) = ((b.c.I / 18446744073709551616 : Nat) : Int)), decide (((a.c.I % 18446744073709551616 : Nat) : Int) = ((b.c.I % 18446744073709551616 : Nat) : Int)), decide (a.c.R = b.c.R), decide (a.c.G = b.c.G), decide (a.c.X = b.c.X)] = decide (a = b) := by
  rw [andL_cons, Cell.and_cell, ← Bool.decide_and]
  exact decide_eq_decide.2 ⟨fun h => ext h.1 h.2, fun h => by subst h; exact ⟨rfl, rfl⟩⟩
theorem pr_sleq {n : Nat} {F : Fr} {C : World → Prop} {x y : Operand} {u : TypeId} {a b : Slot} (hx : ev F x = some a.v) (hy : ev F y = some b.v) : PR Tryz.prog n F C (.binOp .eql 61 x y u) (.bool (decide (a = b))) := by
  rw [← and_slot]
  exact pr_aggeq2 hx hy (by rfl) (by kernel_rfl) (by kernel_rfl) (by rfl)
theorem pr_slne {n : Nat} {F : Fr} {C : World → Prop} {x y : Operand} {u : TypeId} {a b : Slot} (hx : ev F x = some a.v) (hy : ev F y = some b.v) : PR Tryz.prog n F C (.binOp .neq 61 x y u) (.bool (!decide (a = b))) := by
  rw [← and_slot]
  exact pr_aggne2 hx hy (by rfl) (by kernel_rfl) (by kernel_rfl) (by rfl)
/-- a cell may be a window's -/
def fits (c : Cell) (w i : Int) : Prop := c.n ≠ 0 ∧ Cell.chk c = 0 ∧ (ofE c.F.T w = 0 ∧ ofV c.F.T w = i) ∧ ofE c.L.T w = 0 ∧ ofV c.L.T w = i
instance (c : Cell) (w i : Int) : Decidable (fits c w i) := by unfold fits; infer_instance
theorem none_ (s : Slot) : Pu Tryz.prog 209 #[s.v] (.bool (decide (s = z))) := Pu.intro fun m => by
  refine Ct.enterV (by rfl) Tryz.func209 rfl Tryz.ntmps209 rfl (fun w0 Rest => ?_)
  (repeat' (first | refine zss ?_ | ((first | (with_reducible first | apply At.val | apply AtQ.val)); (exact pr_sleq (b := z) (by rfl) (by rfl)); exact rfl) | refine zs0 ?_ | ((with_reducible apply At.box (d := 1)); exact rfl; exact rfl; exact rfl; intro b1) | (refine zsp ?_ ?_ <;> (intro hc; (try simp only [zhcs, reduceCtorEq] at hc); (try (exfalso; first | contradiction | omega | exact absurd rfl hc | exact absurd (by decide) hc))))))
  all_goals ((with_reducible apply At.retB1 (B := [])); exact rfl; exact rfl; exact zml; exact zkp; exact ⟨rfl, rfl, rfl⟩)
theorem fitsT (c : Cell) (w i : Int) (hn : -9223372036854775808 ≤ c.n ∧ c.n ≤ 9223372036854775807) : Pu Tryz.prog 165 #[c.v, .int .i64 w, .int .i64 i] (.bool (decide (fits c w i))) := Pu.intro fun m => by
  have k1 := Cell.check c hn
  have k2 := win_of c.F.T w
  have k3 := win_of c.L.T w
  by_cases h0 : c.n = 0
  · rw [decide_eq_false (fun h : fits c w i => h.1 h0)]
    refine Ct.enterV (by rfl) Tryz.func165 rfl Tryz.ntmps165 rfl (fun w0 Rest => ?_)
    (repeat' (first | refine zss ?_ | refine zs0 ?_ | ((with_reducible apply At.box (d := 3)); exact rfl; exact rfl; exact rfl; intro b3) | (refine zsp ?_ ?_ <;> (intro hc; (try simp only [zhcs, reduceCtorEq] at hc); (try (exfalso; first | (first | omega | exact absurd h0 hc) | contradiction | omega | exact absurd rfl hc | exact absurd (by decide) hc))))))
    all_goals ((with_reducible apply At.retB1 (B := [])); exact rfl; exact rfl; exact zml; exact zkp; exact ⟨rfl, rfl, rfl⟩)
  by_cases h1 : Cell.chk c = 0
  rotate_left
  · rw [decide_eq_false (fun h : fits c w i => h1 h.2.1)]
    generalize Cell.chk c = e at k1 h1
    refine Ct.enterV (by rfl) Tryz.func165 rfl Tryz.ntmps165 rfl (fun w0 Rest => ?_)
    (repeat' (first | refine zss ?_ | refine zs0 ?_ | ((with_reducible first | apply AtM1.callp | apply AtQ.callp | apply At.callp); kernel_rfl; exact rfl; exact rfl; exact k1) | ((with_reducible apply At.box (d := 3)); exact rfl; exact rfl; exact rfl; intro b3) | (refine zsp ?_ ?_ <;> (intro hc; (try simp only [zhcs, reduceCtorEq] at hc); (try (exfalso; first | (first | omega | exact absurd hc h0 | exact absurd hc h1) | contradiction | omega | exact absurd rfl hc | exact absurd (by decide) hc))))))
    all_goals ((with_reducible apply At.retB1 (B := [])); exact rfl; exact rfl; exact zml; exact zkp; exact ⟨rfl, rfl, rfl⟩)
  rw [h1] at k1
  refine Ct.enterV (by rfl) Tryz.func165 rfl Tryz.ntmps165 rfl (fun w0 Rest => ?_)
  (repeat' (first | refine zss ?_ | ((first | (with_reducible first | apply At.val | apply AtQ.val)); (exact pr_buildArr (by rfl) (by rfl)); exact rfl) | refine zs0 ?_ | ((with_reducible first | apply AtM1.callp | apply AtQ.callp | apply At.callp); kernel_rfl; exact rfl; exact rfl; exact k1) | ((with_reducible apply At.box (d := 3)); exact rfl; exact rfl; exact rfl; intro b3) | (refine zsp ?_ ?_ <;> (intro hc; (try simp only [zhcs, reduceCtorEq] at hc); (try (exfalso; first | (first | omega | exact absurd hc h0) | contradiction | omega | exact absurd rfl hc | exact absurd (by decide) hc))))))
  (refine At.loopk (σ := Nat) [1, 2, 25] (fun s F0 => (26, .int .i64 (s : Int)) :: F0) (fun s => m) (fun s => Rest) (fun s => s ≤ 2 ∧ (0 < s → ofE c.F.T w = 0 ∧ ofV c.F.T w = i) ∧ (1 < s → ofE c.L.T w = 0 ∧ ofV c.L.T w = i)) (fun s => 2 - s) 0 (by rfl) ?_ zsubs zml zente ?_)
  · exact ⟨Nat.zero_le _, fun h => absurd h (by decide), fun h => absurd h (by decide)⟩
  rintro s ⟨hs, g1, g2⟩
  rcases (show s = 0 ∨ s = 1 ∨ s = 2 by omega) with rfl | rfl | rfl
  · by_cases e : ofE c.F.T w = 0 ∧ ofV c.F.T w = i
    · obtain ⟨e1, e2⟩ := e
      (repeat' (first | refine zss ?_ | ((first | (with_reducible first | apply At.val | apply AtQ.val)); (exact pr_index_agg (k := 0) (by rfl) (by rfl) (by rfl) (by rfl) (by rfl) (by rfl) (by rfl)); exact rfl) | refine zs0 ?_ | ((with_reducible first | apply AtM1.callp | apply AtQ.callp | apply At.callp); kernel_rfl; exact rfl; exact rfl; exact k2) | ((with_reducible apply At.box (d := 3)); exact rfl; exact rfl; exact rfl; intro b3) | (refine zsp ?_ ?_ <;> (intro hc; (try simp only [zhcs, reduceCtorEq] at hc); (try (exfalso; first | (first | omega | exact absurd e1 hc | exact absurd e2 hc) | contradiction | omega | exact absurd rfl hc | exact absurd (by decide) hc))))))
      all_goals ((with_reducible refine At.reachk (1) ?_ ?_ ?_ ?_); exact zsubs; exact zml; exact zente; exact ⟨⟨by decide, fun _ => ⟨e1, e2⟩, fun h => absurd h (by decide)⟩, by decide⟩)
    · rw [decide_eq_false (fun h : fits c w i => e h.2.2.1)]
      by_cases e1 : ofE c.F.T w = 0
      · have e2 : ¬ ofV c.F.T w = i := fun h => e ⟨e1, h⟩
        (repeat' (first | refine zss ?_ | ((first | (with_reducible first | apply At.val | apply AtQ.val)); (exact pr_index_agg (k := 0) (by rfl) (by rfl) (by rfl) (by rfl) (by rfl) (by rfl) (by rfl)); exact rfl) | refine zs0 ?_ | ((with_reducible first | apply AtM1.callp | apply AtQ.callp | apply At.callp); kernel_rfl; exact rfl; exact rfl; exact k2) | ((with_reducible apply At.box (d := 3)); exact rfl; exact rfl; exact rfl; intro b3) | (refine zsp ?_ ?_ <;> (intro hc; (try simp only [zhcs, reduceCtorEq] at hc); (try (exfalso; first | (first | omega | exact absurd e1 hc | exact absurd hc e2) | contradiction | omega | exact absurd rfl hc | exact absurd (by decide) hc))))))
        all_goals ((with_reducible apply At.retB1 (B := [])); exact rfl; exact rfl; exact zml; exact zkp; exact ⟨rfl, rfl, rfl⟩)
      · (repeat' (first | refine zss ?_ | ((first | (with_reducible first | apply At.val | apply AtQ.val)); (exact pr_index_agg (k := 0) (by rfl) (by rfl) (by rfl) (by rfl) (by rfl) (by rfl) (by rfl)); exact rfl) | refine zs0 ?_ | ((with_reducible first | apply AtM1.callp | apply AtQ.callp | apply At.callp); kernel_rfl; exact rfl; exact rfl; exact k2) | ((with_reducible apply At.box (d := 3)); exact rfl; exact rfl; exact rfl; intro b3) | (refine zsp ?_ ?_ <;> (intro hc; (try simp only [zhcs, reduceCtorEq] at hc); (try (exfalso; first | (first | omega | exact absurd hc e1) | contradiction | omega | exact absurd rfl hc | exact absurd (by decide) hc))))))
        all_goals ((with_reducible apply At.retB1 (B := [])); exact rfl; exact rfl; exact zml; exact zkp; exact ⟨rfl, rfl, rfl⟩)
  · by_cases e : ofE c.L.T w = 0 ∧ ofV c.L.T w = i
    · obtain ⟨e1, e2⟩ := e
      (repeat' (first | refine zss ?_ | ((first | (with_reducible first | apply At.val | apply AtQ.val)); (exact pr_index_agg (k := 1) (by rfl) (by rfl) (by rfl) (by rfl) (by rfl) (by rfl) (by rfl)); exact rfl) | refine zs0 ?_ | ((with_reducible first | apply AtM1.callp | apply AtQ.callp | apply At.callp); kernel_rfl; exact rfl; exact rfl; exact k3) | ((with_reducible apply At.box (d := 3)); exact rfl; exact rfl; exact rfl; intro b3) | (refine zsp ?_ ?_ <;> (intro hc; (try simp only [zhcs, reduceCtorEq] at hc); (try (exfalso; first | (first | omega | exact absurd e1 hc | exact absurd e2 hc) | contradiction | omega | exact absurd rfl hc | exact absurd (by decide) hc))))))
      all_goals ((with_reducible refine At.reachk (2) ?_ ?_ ?_ ?_); exact zsubs; exact zml; exact zente; exact ⟨⟨by decide, fun _ => g1 (by decide), fun _ => ⟨e1, e2⟩⟩, by decide⟩)
    · rw [decide_eq_false (fun h : fits c w i => e h.2.2.2)]
      by_cases e1 : ofE c.L.T w = 0
      · have e2 : ¬ ofV c.L.T w = i := fun h => e ⟨e1, h⟩
        (repeat' (first | refine zss ?_ | ((first | (with_reducible first | apply At.val | apply AtQ.val)); (exact pr_index_agg (k := 1) (by rfl) (by rfl) (by rfl) (by rfl) (by rfl) (by rfl) (by rfl)); exact rfl) | refine zs0 ?_ | ((with_reducible first | apply AtM1.callp | apply AtQ.callp | apply At.callp); kernel_rfl; exact rfl; exact rfl; exact k3) | ((with_reducible apply At.box (d := 3)); exact rfl; exact rfl; exact rfl; intro b3) | (refine zsp ?_ ?_ <;> (intro hc; (try simp only [zhcs, reduceCtorEq] at hc); (try (exfalso; first | (first | omega | exact absurd e1 hc | exact absurd hc e2) | contradiction | omega | exact absurd rfl hc | exact absurd (by decide) hc))))))
        all_goals ((with_reducible apply At.retB1 (B := [])); exact rfl; exact rfl; exact zml; exact zkp; exact ⟨rfl, rfl, rfl⟩)
      · (repeat' (first | refine zss ?_ | ((first | (with_reducible first | apply At.val | apply AtQ.val)); (exact pr_index_agg (k := 1) (by rfl) (by rfl) (by rfl) (by rfl) (by rfl) (by rfl) (by rfl)); exact rfl) | refine zs0 ?_ | ((with_reducible first | apply AtM1.callp | apply AtQ.callp | apply At.callp); kernel_rfl; exact rfl; exact rfl; exact k3) | ((with_reducible apply At.box (d := 3)); exact rfl; exact rfl; exact rfl; intro b3) | (refine zsp ?_ ?_ <;> (intro hc; (try simp only [zhcs, reduceCtorEq] at hc); (try (exfalso; first | (first | omega | exact absurd hc e1) | contradiction | omega | exact absurd rfl hc | exact absurd (by decide) hc))))))
        all_goals ((with_reducible apply At.retB1 (B := [])); exact rfl; exact rfl; exact zml; exact zkp; exact ⟨rfl, rfl, rfl⟩)
  · rw [decide_eq_true (show fits c w i from ⟨h0, h1, g1 (by decide), g2 (by decide)⟩)]
    (repeat' (first | refine zss ?_ | refine zs0 ?_ | ((with_reducible apply At.box (d := 3)); exact rfl; exact rfl; exact rfl; intro b3) | (refine zsp ?_ ?_ <;> (intro hc; (try simp only [zhcs, reduceCtorEq] at hc); (try (exfalso; first | omega | contradiction | omega | exact absurd rfl hc | exact absurd (by decide) hc))))))
    all_goals ((with_reducible apply At.retB1 (B := [])); exact rfl; exact rfl; exact zml; exact zkp; exact ⟨rfl, rfl, rfl⟩)
/-- a slot may stand where it does -/
def okS (l : List Slot) (w : Int) (k : Nat) : Prop := l[k]! = z ∨ (slotV l[k]!.w (l.length : Int) = (k : Int) ∧ fits l[k]!.c w l[k]!.w)
instance (l : List Slot) (w : Int) (k : Nat) : Decidable (okS l w k) := by unfold okS; infer_instance
def okT (l : List Slot) (w : Int) : Prop := (1 ≤ l.length ∧ l.length ≤ 4096) ∧ (1 ≤ w ∧ w ≤ 1099511627776) ∧ ∀ k, k < l.length → okS l w k
instance (l : List Slot) (w : Int) : Decidable (okT l w) := by unfold okT; infer_instance
def chk (l : List Slot) (w : Int) : Int := if okT l w then 0 else 2
theorem check {m : Mem} (p : Option Addr) (c : Nat) (l : List Slot) (w : Int) (hI : ∀ s ∈ l, Slot.In s) (sl0 : Sl m cells 15 p c l) :
    Rd Tryz.prog 200 #[.slice p l.length c, .int .i64 w] m [] (.int .i64 (chk l w)) := by
  unfold Rd
  by_cases h0 : (1 ≤ l.length ∧ l.length ≤ 4096) ∧ (1 ≤ w ∧ w ≤ 1099511627776)
  rotate_left
  · rw [show chk l w = 2 from if_neg (fun h => h0 ⟨h.1, h.2.1⟩)]
    refine Ct.enterV (by rfl) Tryz.func200 rfl Tryz.ntmps200 rfl (fun w0 Rest => ?_)
    (repeat' (first | refine zss ?_ | refine zsM ?_ | ((with_reducible apply At.alloc (d := 6)); exact rfl; exact rfl; intro b6) | (refine zsp ?_ ?_ <;> (intro hc; (try simp only [zhcs, reduceCtorEq] at hc); (try (exfalso; first | omega | contradiction | omega | exact absurd rfl hc | exact absurd (by decide) hc))))))
    all_goals ((with_reducible apply At.retB1 (B := [])); exact rfl; exact rfl; exact zml; exact zkp; exact ⟨rfl, rfl, rfl⟩)
  obtain ⟨h1, h2⟩ := h0
  refine Ct.enterV (by rfl) Tryz.func200 rfl Tryz.ntmps200 rfl (fun w0 Rest => ?_)
  (repeat' (first | refine zss ?_ | refine zsM ?_ | ((with_reducible apply At.alloc (d := 6)); exact rfl; exact rfl; intro b6) | (refine zsp ?_ ?_ <;> (intro hc; (try simp only [zhcs, reduceCtorEq] at hc); (try (exfalso; first | omega | contradiction | omega | exact absurd rfl hc | exact absurd (by decide) hc))))))
  (refine At.loopk (σ := Nat) [0, 1, 23, 24] (fun s F0 => (25, .int .i64 (s : Int)) :: F0) (fun s => m) (fun s => Rest) (fun s => s ≤ l.length ∧ ∀ k, k < s → okS l w k) (fun s => l.length - s) 0 (by rfl) ?_ zsubs zml zente ?_)
  · exact ⟨Nat.zero_le _, fun k h => absurd h (Nat.not_lt_zero k)⟩
  rintro s ⟨hs, hn⟩
  by_cases h : s < l.length
  · have hi := hI l[s]! (by rw [getElem!_pos l s h]; exact List.getElem_mem h)
    have k1 := none_ l[s]!
    have k2 := win_slot l[s]!.w (l.length : Int) hi.1 (by omega)
    have k3 := fitsT l[s]!.c w l[s]!.w hi.2.1
    have hstep : okS l w s → ∀ k, k < s + 1 → okS l w k := fun ho k hk => by
      by_cases e : k = s
      · subst e; exact ho
      · exact hn k (by omega)
    have hbad : ¬ okS l w s → chk l w = 2 := fun ho => if_neg fun hh => ho (hh.2.2 s h)
    unfold okS at hstep hbad
    clear hI hi hn
    by_cases hz : l[s]! = z
    · rw [decide_eq_true hz] at k1
      (repeat' (first | refine zss ?_ | refine zsM ?_ | ((with_reducible first | apply AtM1.callp | apply AtQ.callp | apply At.callp); kernel_rfl; exact rfl; exact rfl; exact k1) | ((with_reducible apply At.alloc (d := 6)); exact rfl; exact rfl; intro b6) | (refine zsp ?_ ?_ <;> (intro hc; (try simp only [zhcs, reduceCtorEq] at hc); (try (exfalso; first | omega | contradiction | omega | exact absurd rfl hc | exact absurd (by decide) hc))))))
      all_goals ((with_reducible refine At.reachk ((s + 1)) ?_ ?_ ?_ ?_); exact zsubs; exact zml; exact zente; exact ⟨⟨h, hstep (.inl hz)⟩, by omega⟩)
    rw [decide_eq_false hz] at k1
    by_cases e1 : slotV l[s]!.w (l.length : Int) = (s : Int)
    rotate_left
    · rw [hbad (fun ho => ho.elim hz (fun ho => e1 ho.1))]
      generalize slotV l[s]!.w (l.length : Int) = q at k2 e1
      (repeat' (first | refine zss ?_ | refine zsM ?_ | ((with_reducible first | apply AtM1.callp | apply AtQ.callp | apply At.callp); kernel_rfl; exact rfl; exact rfl; exact k1) | ((with_reducible first | apply AtM1.callp | apply AtQ.callp | apply At.callp); kernel_rfl; exact rfl; exact rfl; exact k2) | ((with_reducible apply At.alloc (d := 6)); exact rfl; exact rfl; intro b6) | (refine zsp ?_ ?_ <;> (intro hc; (try simp only [zhcs, reduceCtorEq] at hc); (try (exfalso; first | (first | omega | exact absurd hc e1) | contradiction | omega | exact absurd rfl hc | exact absurd (by decide) hc))))))
      all_goals ((with_reducible apply At.retB1 (B := [])); exact rfl; exact rfl; exact zml; exact zkp; exact ⟨rfl, rfl, rfl⟩)
    by_cases e2 : fits l[s]!.c w l[s]!.w
    · rw [decide_eq_true e2] at k3
      have hst := hstep (.inr ⟨e1, e2⟩)
      rw [e1] at k2
      clear hstep hbad e1
      (repeat' (first | refine zss ?_ | refine zsM ?_ | ((with_reducible first | apply AtM1.callp | apply AtQ.callp | apply At.callp); kernel_rfl; exact rfl; exact rfl; exact k1) | ((with_reducible first | apply AtM1.callp | apply AtQ.callp | apply At.callp); kernel_rfl; exact rfl; exact rfl; exact k2) | ((with_reducible first | apply AtM1.callp | apply AtQ.callp | apply At.callp); kernel_rfl; exact rfl; exact rfl; exact k3) | ((with_reducible apply At.alloc (d := 6)); exact rfl; exact rfl; intro b6) | (refine zsp ?_ ?_ <;> (intro hc; (try simp only [zhcs, reduceCtorEq] at hc); (try (exfalso; first | (first | omega | exact absurd rfl hc) | contradiction | omega | exact absurd rfl hc | exact absurd (by decide) hc))))))
      all_goals ((with_reducible refine At.reachk ((s + 1)) ?_ ?_ ?_ ?_); exact zsubs; exact zml; exact zente; exact ⟨⟨h, hst⟩, by omega⟩)
    · rw [hbad (fun ho => ho.elim hz (fun ho => e2 ho.2))]
      rw [decide_eq_false e2] at k3
      rw [e1] at k2
      clear hstep hbad e1
      (repeat' (first | refine zss ?_ | refine zsM ?_ | ((with_reducible first | apply AtM1.callp | apply AtQ.callp | apply At.callp); kernel_rfl; exact rfl; exact rfl; exact k1) | ((with_reducible first | apply AtM1.callp | apply AtQ.callp | apply At.callp); kernel_rfl; exact rfl; exact rfl; exact k2) | ((with_reducible first | apply AtM1.callp | apply AtQ.callp | apply At.callp); kernel_rfl; exact rfl; exact rfl; exact k3) | ((with_reducible apply At.alloc (d := 6)); exact rfl; exact rfl; intro b6) | (refine zsp ?_ ?_ <;> (intro hc; (try simp only [zhcs, reduceCtorEq] at hc); (try (exfalso; first | (first | omega | exact absurd rfl hc) | contradiction | omega | exact absurd rfl hc | exact absurd (by decide) hc))))))
      all_goals ((with_reducible apply At.retB1 (B := [])); exact rfl; exact rfl; exact zml; exact zkp; exact ⟨rfl, rfl, rfl⟩)
  · rw [show chk l w = 0 from if_pos ⟨h1, h2, fun k hk => hn k (by omega)⟩]
    (repeat' (first | refine zss ?_ | refine zsM ?_ | ((with_reducible apply At.alloc (d := 6)); exact rfl; exact rfl; intro b6) | (refine zsp ?_ ?_ <;> (intro hc; (try simp only [zhcs, reduceCtorEq] at hc); (try (exfalso; first | omega | contradiction | omega | exact absurd rfl hc | exact absurd (by decide) hc))))))
    all_goals ((with_reducible apply At.retB1 (B := [])); exact rfl; exact rfl; exact zml; exact zkp; exact ⟨rfl, rfl, rfl⟩)
end Ti
end Go.Proofs.YtkoijdmlehkhbaaGreatDoor
namespace Go.Proofs.YtkoijdmlehkhbaaGreatDoor
open Go Go.J
attribute [local irreducible] At AtQ AtM AtM1 PR Ct Pu Rd Res.blk Res.own Res.ex RVs RV
namespace Conf
abbrev gi : Int → Value := fun x => .int .i64 x
abbrev cv (L : List Int) : Value := .agg (L.map gi).toArray
theorem in_ (n a b : Int) : Pu Tryz.prog 111 #[.int .i64 n, .int .i64 a, .int .i64 b] (.bool (decide (a ≤ n ∧ n ≤ b))) := Pu.intro fun m => by
  refine Ct.enterV (by rfl) Tryz.func111 rfl Tryz.ntmps111 rfl (fun w0 Rest => ?_)
  (repeat' (first | refine zss ?_ | refine zs0 ?_ | (refine zsp ?_ ?_ <;> (intro hc; (try simp only [zhcs, reduceCtorEq] at hc); (try (exfalso; first | contradiction | omega | exact absurd rfl hc | exact absurd (by decide) hc))))))
  all_goals ((with_reducible apply At.retB1 (B := [])); exact rfl; exact rfl; exact zml; exact zkp; exact ⟨congrArg Value.bool (by simp [hc]), rfl, rfl⟩)
theorem in64 (n a b : Int) : Pu Tryz.prog 112 #[.int .i64 n, .int .i64 a, .int .i64 b] (.bool (decide (a ≤ n ∧ n ≤ b))) := Pu.intro fun m => by
  refine Ct.enterV (by rfl) Tryz.func112 rfl Tryz.ntmps112 rfl (fun w0 Rest => ?_)
  (repeat' (first | refine zss ?_ | refine zs0 ?_ | (refine zsp ?_ ?_ <;> (intro hc; (try simp only [zhcs, reduceCtorEq] at hc); (try (exfalso; first | contradiction | omega | exact absurd rfl hc | exact absurd (by decide) hc))))))
  all_goals ((with_reducible apply At.retB1 (B := [])); exact rfl; exact rfl; exact zml; exact zkp; exact ⟨congrArg Value.bool (by simp [hc]), rfl, rfl⟩)
theorem parts (n by_ : Int) (h1 : 1 ≤ n) (h2 : n ≤ 100000) (h3 : 1 ≤ by_) (h4 : by_ ≤ 1000) : Pu Tryz.prog 159 #[.int .i64 n, .int .i64 by_] (.int .i64 ((n + by_ - 1) / by_)) := Pu.intro fun m => by
  refine Ct.enterV (by rfl) Tryz.func159 rfl Tryz.ntmps159 rfl (fun w0 Rest => ?_)
  (repeat' (first | refine zss ?_ | refine zs0 ?_ | (refine zsp ?_ ?_ <;> (intro hc; (try simp only [zhcs, reduceCtorEq] at hc); (try (exfalso; first | omega | contradiction | omega | exact absurd rfl hc | exact absurd (by decide) hc))))))
  all_goals ((with_reducible apply At.retB1 (B := [])); exact rfl; exact rfl; exact zml; exact zkp; exact ⟨rfl, rfl, rfl⟩)
def acc (L : List Int) : Nat → Int
  | 0 => 1 + (L[0]! + 16 - 1) / 16
  | s + 1 => acc L s + (L[4 + s]! + 4 - 1) / 4
def plc (L : List Int) : Int := acc L 3
/-- numbers that may be -/
def okA (L : List Int) (s : Nat) : Prop := (1 ≤ L[0]! ∧ L[0]! ≤ 4096) ∧ (1 ≤ L[7]! ∧ L[7]! ≤ 65536) ∧ (1 ≤ L[8]! ∧ L[8]! ≤ 8192) ∧ ∀ i, i < s → (1 ≤ L[1 + i]! ∧ L[1 + i]! ≤ 1099511627776) ∧ (1 ≤ L[4 + i]! ∧ L[4 + i]! ≤ 4096)
instance (L : List Int) (s : Nat) : Decidable (okA L s) := by unfold okA; infer_instance
theorem okA_succ (L : List Int) (s : Nat) : okA L (s + 1) ↔ okA L s ∧ (1 ≤ L[1 + s]! ∧ L[1 + s]! ≤ 1099511627776) ∧ (1 ≤ L[4 + s]! ∧ L[4 + s]! ≤ 4096) := by
  unfold okA
  constructor
  · rintro ⟨h1, h2, h3, h4⟩
    exact ⟨⟨h1, h2, h3, fun i hi => h4 i (by omega)⟩, h4 s (by omega)⟩
  · rintro ⟨⟨h1, h2, h3, h4⟩, h5⟩
    refine ⟨h1, h2, h3, fun i hi => ?_⟩
    by_cases e : i = s
    · subst e; exact h5
    · exact h4 i (by omega)
theorem place (L : List Int) (hL : L.length = 9) (h : okA L 3) : Pu Tryz.prog 113 #[cv L] (.int .i64 (plc L)) := Pu.intro fun m => by
  obtain ⟨r, a, b, d, x, y, w, c, g, rfl⟩ := nine hL
  obtain ⟨⟨r1, r2⟩, _, _, h4⟩ := h
  obtain ⟨_, x1, x2⟩ := h4 0 (by decide)
  obtain ⟨_, y1, y2⟩ := h4 1 (by decide)
  obtain ⟨_, w1, w2⟩ := h4 2 (by decide)
  replace x1 : 1 ≤ x := x1
  replace x2 : x ≤ 4096 := x2
  replace y1 : 1 ≤ y := y1
  replace y2 : y ≤ 4096 := y2
  replace w1 : 1 ≤ w := w1
  replace w2 : w ≤ 4096 := w2
  replace r1 : 1 ≤ r := r1
  replace r2 : r ≤ 4096 := r2
  have e0 : acc [r, a, b, d, x, y, w, c, g] 0 = 1 + (r + 16 - 1) / 16 := rfl
  have e1 : acc [r, a, b, d, x, y, w, c, g] 1 = acc [r, a, b, d, x, y, w, c, g] 0 + (x + 4 - 1) / 4 := rfl
  have e2 : acc [r, a, b, d, x, y, w, c, g] 2 = acc [r, a, b, d, x, y, w, c, g] 1 + (y + 4 - 1) / 4 := rfl
  have e3 : acc [r, a, b, d, x, y, w, c, g] 3 = acc [r, a, b, d, x, y, w, c, g] 2 + (w + 4 - 1) / 4 := rfl
  have p0 := parts r 16 r1 (by omega) (by decide) (by decide)
  have p1 := parts x 4 x1 (by omega) (by decide) (by decide)
  have p2 := parts y 4 y1 (by omega) (by decide) (by decide)
  have p3 := parts w 4 w1 (by omega) (by decide) (by decide)
  show Ct _ _ _ _ _ (fun v m' B => v = .int .i64 (acc [r, a, b, d, x, y, w, c, g] 3) ∧ _ ∧ _)
  unfold cv
  simp only [List.map]
  refine Ct.enterV (by rfl) Tryz.func113 rfl Tryz.ntmps113 rfl (fun w0 Rest => ?_)
  (repeat' (first | refine zss ?_ | refine zs0 ?_ | ((with_reducible first | apply AtM1.callp | apply AtQ.callp | apply At.callp); kernel_rfl; exact rfl; exact rfl; exact p0) | ((with_reducible apply At.box (d := 1)); exact rfl; exact rfl; exact rfl; intro b1) | (refine zsp ?_ ?_ <;> (intro hc; (try simp only [zhcs, reduceCtorEq] at hc); (try (exfalso; first | omega | contradiction | omega | exact absurd rfl hc | exact absurd (by decide) hc))))))
  trace_state
  (refine At.loopk (σ := Nat) [11] (fun s F0 => (12, .int .i64 (s : Int)) :: (3, .int .i64 (acc [r, a, b, d, x, y, w, c, g] s)) :: F0) (fun s => m) (fun s => .blk b1 25 [gi r, gi a, gi b, gi d, gi x, gi y, gi w, gi c, gi g] :: Rest) (fun s => s ≤ 3) (fun s => 3 - s) 0 (by rfl) ?_ zsubs zml zente ?_)
  · exact Nat.zero_le _
  intro s hs
  rcases (show s = 0 ∨ s = 1 ∨ s = 2 ∨ s = 3 by omega) with rfl | rfl | rfl | rfl
  · (repeat' (first | refine zss ?_ | ((first | (with_reducible first | apply At.val | apply AtQ.val)); (exact pr_index_agg (k := 0) (by rfl) (by rfl) (by rfl) (by rfl) (by rfl) (by rfl) (by rfl)); exact rfl) | refine zs0 ?_ | ((with_reducible first | apply AtM1.callp | apply AtQ.callp | apply At.callp); kernel_rfl; exact rfl; exact rfl; exact p1) | ((with_reducible apply At.box (d := 1)); exact rfl; exact rfl; exact rfl; intro b1) | (refine zsp ?_ ?_ <;> (intro hc; (try simp only [zhcs, reduceCtorEq] at hc); (try (exfalso; first | omega | contradiction | omega | exact absurd rfl hc | exact absurd (by decide) hc))))))
    all_goals ((with_reducible refine At.reachk (1) ?_ ?_ ?_ ?_); exact zsubs; exact zml; exact zente; exact ⟨by decide, by decide⟩)
  · (repeat' (first | refine zss ?_ | ((first | (with_reducible first | apply At.val | apply AtQ.val)); (exact pr_index_agg (k := 1) (by rfl) (by rfl) (by rfl) (by rfl) (by rfl) (by rfl) (by rfl)); exact rfl) | refine zs0 ?_ | ((with_reducible first | apply AtM1.callp | apply AtQ.callp | apply At.callp); kernel_rfl; exact rfl; exact rfl; exact p2) | ((with_reducible apply At.box (d := 1)); exact rfl; exact rfl; exact rfl; intro b1) | (refine zsp ?_ ?_ <;> (intro hc; (try simp only [zhcs, reduceCtorEq] at hc); (try (exfalso; first | omega | contradiction | omega | exact absurd rfl hc | exact absurd (by decide) hc))))))
    all_goals ((with_reducible refine At.reachk (2) ?_ ?_ ?_ ?_); exact zsubs; exact zml; exact zente; exact ⟨by decide, by decide⟩)
  · (repeat' (first | refine zss ?_ | ((first | (with_reducible first | apply At.val | apply AtQ.val)); (exact pr_index_agg (k := 2) (by rfl) (by rfl) (by rfl) (by rfl) (by rfl) (by rfl) (by rfl)); exact rfl) | refine zs0 ?_ | ((with_reducible first | apply AtM1.callp | apply AtQ.callp | apply At.callp); kernel_rfl; exact rfl; exact rfl; exact p3) | ((with_reducible apply At.box (d := 1)); exact rfl; exact rfl; exact rfl; intro b1) | (refine zsp ?_ ?_ <;> (intro hc; (try simp only [zhcs, reduceCtorEq] at hc); (try (exfalso; first | omega | contradiction | omega | exact absurd rfl hc | exact absurd (by decide) hc))))))
    all_goals ((with_reducible refine At.reachk (3) ?_ ?_ ?_ ?_); exact zsubs; exact zml; exact zente; exact ⟨by decide, by decide⟩)
  · (repeat' (first | refine zss ?_ | refine zs0 ?_ | ((with_reducible apply At.box (d := 1)); exact rfl; exact rfl; exact rfl; intro b1) | (refine zsp ?_ ?_ <;> (intro hc; (try simp only [zhcs, reduceCtorEq] at hc); (try (exfalso; first | omega | contradiction | omega | exact absurd rfl hc | exact absurd (by decide) hc))))))
    all_goals ((with_reducible apply At.retB1 (B := [])); exact rfl; exact rfl; exact zml; exact zkp; exact ⟨rfl, rfl, rfl⟩)
end Conf
end Go.Proofs.YtkoijdmlehkhbaaGreatDoor
namespace Go.Proofs.YtkoijdmlehkhbaaGreatDoor
open Go Go.J
attribute [local irreducible] At AtQ AtM AtM1 PR Ct Pu Rd Res.blk Res.own Res.ex RVs RV
namespace Conf
def okB (L : List Int) (s : Nat) : Prop := okA L 3 ∧ (1 < s → L[2]! % L[1]! = 0 ∧ L[2]! / L[1]! ≤ L[4]!) ∧ (2 < s → L[3]! % L[2]! = 0 ∧ L[3]! / L[2]! ≤ L[5]!)
instance (L : List Int) (s : Nat) : Decidable (okB L s) := by unfold okB; infer_instance
def okC (L : List Int) : Prop := okB L 3 ∧ plc L < L[8]!
instance (L : List Int) : Decidable (okC L) := by unfold okC; infer_instance
def chk (L : List Int) : Int := if okC L then 0 else 2
theorem okA_zero (r a b d x y w c g : Int) : okA [r, a, b, d, x, y, w, c, g] 0 ↔ (1 ≤ r ∧ r ≤ 4096) ∧ (1 ≤ c ∧ c ≤ 65536) ∧ (1 ≤ g ∧ g ≤ 8192) :=
  ⟨fun h => ⟨h.1, h.2.1, h.2.2.1⟩, fun h => ⟨h.1, h.2.1, h.2.2, fun i hi => absurd hi (Nat.not_lt_zero i)⟩⟩
theorem okB_one (L : List Int) : okB L 1 ↔ okA L 3 := ⟨fun h => h.1, fun h => ⟨h, fun h => absurd h (by decide), fun h => absurd h (by decide)⟩⟩
theorem okB_two (r a b d x y w c g : Int) : okB [r, a, b, d, x, y, w, c, g] 2 ↔ okB [r, a, b, d, x, y, w, c, g] 1 ∧ (b % a = 0 ∧ b / a ≤ x) :=
  ⟨fun h => ⟨(okB_one _).2 h.1, h.2.1 (by decide)⟩, fun h => ⟨h.1.1, fun _ => h.2, fun h => absurd h (by decide)⟩⟩
theorem okB_three (r a b d x y w c g : Int) : okB [r, a, b, d, x, y, w, c, g] 3 ↔ okB [r, a, b, d, x, y, w, c, g] 2 ∧ (d % b = 0 ∧ d / b ≤ y) :=
  ⟨fun h => ⟨⟨h.1, fun _ => h.2.1 (by decide), fun h => absurd h (by decide)⟩, h.2.2 (by decide)⟩, fun h => ⟨h.1.1, fun _ => h.1.2.1 (by decide), fun _ => h.2⟩⟩
theorem and_false' {p q r : Prop} [Decidable r] (h : r ↔ p ∧ q) (hp : ¬ p) : false = decide r := (decide_eq_false fun hr => hp (h.1 hr).1).symm
theorem and_mid {p q s r : Prop} [Decidable r] (h : r ↔ p ∧ q ∧ s) (hq : ¬ q) : false = decide r := (decide_eq_false fun hr => hq (h.1 hr).2.1).symm
theorem and_last {p q s r : Prop} [Decidable r] [Decidable s] (h : r ↔ p ∧ q ∧ s) (hp : p) (hq : q) : decide s = decide r := decide_eq_decide.2 ⟨fun hs => h.2 ⟨hp, hq, hs⟩, fun hr => (h.1 hr).2.2⟩
set_option maxHeartbeats 2000000 in
theorem check (L : List Int) (hL : L.length = 9) : Pu Tryz.prog 58 #[cv L] (.int .i64 (chk L)) := Pu.intro fun m => by
  have hpl := place L hL
  obtain ⟨r, a, b, d, x, y, w, c, g, rfl⟩ := nine hL
  have z0 := okA_zero r a b d x y w c g
  have a1 : okA [r, a, b, d, x, y, w, c, g] 1 ↔ okA [r, a, b, d, x, y, w, c, g] 0 ∧ (1 ≤ a ∧ a ≤ 1099511627776) ∧ (1 ≤ x ∧ x ≤ 4096) := okA_succ _ 0
  have a2 : okA [r, a, b, d, x, y, w, c, g] 2 ↔ okA [r, a, b, d, x, y, w, c, g] 1 ∧ (1 ≤ b ∧ b ≤ 1099511627776) ∧ (1 ≤ y ∧ y ≤ 4096) := okA_succ _ 1
  have a3 : okA [r, a, b, d, x, y, w, c, g] 3 ↔ okA [r, a, b, d, x, y, w, c, g] 2 ∧ (1 ≤ d ∧ d ≤ 1099511627776) ∧ (1 ≤ w ∧ w ≤ 4096) := okA_succ _ 2
  have ob1 := okB_one [r, a, b, d, x, y, w, c, g]
  have ob2 := okB_two r a b d x y w c g
  have ob3 := okB_three r a b d x y w c g
  have hch : chk [r, a, b, d, x, y, w, c, g] = if okB [r, a, b, d, x, y, w, c, g] 3 ∧ plc [r, a, b, d, x, y, w, c, g] < g then 0 else 2 := rfl
  unfold cv at hpl ⊢
  simp only [List.map] at hpl ⊢
  generalize hL0 : [r, a, b, d, x, y, w, c, g] = L at z0 a1 a2 a3 ob1 ob2 ob3 hch hpl hL ⊢
  have v10 : IntKind.wrap .i64 (((1 : Nat) : Int) - 1) = ((0 : Nat) : Int) := rfl
  have v21 : IntKind.wrap .i64 (((2 : Nat) : Int) - 1) = ((1 : Nat) : Int) := rfl
  have hno : ∀ s, ¬ okB L s → chk L = 2 := fun s hs => by
    rw [hch]
    exact if_neg (fun h => hs ⟨h.1.1, fun _ => h.1.2.1 (by decide), fun _ => h.1.2.2 (by decide)⟩)
  have h2 : g ≤ plc L → chk L = 2 := fun h => by
    rw [hch]
    exact if_neg (fun hh => absurd hh.2 (by omega))
  have h0 : okB L 3 → ¬ g ≤ plc L → chk L = 0 := fun h1 h2 => by
    rw [hch]
    exact if_pos ⟨h1, by omega⟩
  have hbd : okA L 3 → (1 ≤ a ∧ a ≤ 1099511627776) ∧ (1 ≤ b ∧ b ≤ 1099511627776) ∧ (1 ≤ d ∧ d ≤ 1099511627776) := fun h => ⟨(a1.1 (a2.1 (a3.1 h).1).1).2.1, (a2.1 (a3.1 h).1).2.1, (a3.1 h).2.1⟩
  refine Ct.enterV (by rfl) Tryz.func58 rfl Tryz.ntmps58 rfl (fun w0 Rest => ?_)
  (repeat' (first | refine zss ?_ | refine zs0 ?_ | ((with_reducible first | apply AtM1.callp | apply AtQ.callp | apply At.callp); kernel_rfl; exact rfl; exact rfl; exact in_ _ _ _) | ((with_reducible apply At.box (d := 1)); exact rfl; exact rfl; exact rfl; intro b1) | (refine zsp ?_ ?_ <;> (intro hc; (try simp only [zhcs, reduceCtorEq] at hc); (try (exfalso; first | omega | contradiction | omega | exact absurd rfl hc | exact absurd (by decide) hc))))))
  all_goals (refine At.note (t := 3) (v' := .bool (decide (okA L 0))) (by rfl) (congrArg Value.bool (by first | exact and_false' z0 (by assumption) | exact and_mid z0 (by assumption) | exact and_last z0 (by assumption) (by assumption))) ?_)
  all_goals (refine At.loopk (σ := Nat) [1] (fun s F0 => (19, .int .i64 (s : Int)) :: (3, .bool (decide (okA L s))) :: F0) (fun s => m) (fun s => .blk b1 25 [gi r, gi a, gi b, gi d, gi x, gi y, gi w, gi c, gi g] :: Rest) (fun s => s ≤ 3) (fun s => 3 - s) 0 (by rfl) ?_ zsubs zml zente ?_)
  all_goals try exact Nat.zero_le _
  all_goals (intro s hs; rcases (show s = 0 ∨ s = 1 ∨ s = 2 ∨ s = 3 by omega) with rfl | rfl | rfl | rfl)
  all_goals (repeat' (first | refine zss ?_ | ((first | (with_reducible first | apply At.val | apply AtQ.val)); (exact pr_indexArr (by rfl) (by rfl) (by rfl) (by rfl) (by decide)); exact rfl) | refine zs0 ?_ | ((with_reducible first | apply AtM1.callp | apply AtQ.callp | apply At.callp); kernel_rfl; exact rfl; exact rfl; exact in64 _ _ _) | ((with_reducible first | apply AtM1.callp | apply AtQ.callp | apply At.callp); kernel_rfl; exact rfl; exact rfl; exact in_ _ _ _) | ((with_reducible apply At.box (d := 1)); exact rfl; exact rfl; exact rfl; intro b1) | (refine zsp ?_ ?_ <;> (intro hc; (try simp only [zhcs, reduceCtorEq] at hc); (try (exfalso; first | omega | contradiction | omega | exact absurd rfl hc | exact absurd (by decide) hc))))))
  all_goals try first
    | (refine At.note (t := 3) (v' := .bool (decide (okA L 1))) (by rfl) (congrArg Value.bool (by first | exact and_false' a1 (by assumption) | exact and_mid a1 (by assumption) | exact and_last a1 (by assumption) (by assumption))) ?_; ((with_reducible refine At.reachk (1) ?_ ?_ ?_ ?_); exact zsubs; exact zml; exact zente; exact ⟨by decide, by decide⟩))
    | (refine At.note (t := 3) (v' := .bool (decide (okA L 2))) (by rfl) (congrArg Value.bool (by first | exact and_false' a2 (by assumption) | exact and_mid a2 (by assumption) | exact and_last a2 (by assumption) (by assumption))) ?_; ((with_reducible refine At.reachk (2) ?_ ?_ ?_ ?_); exact zsubs; exact zml; exact zente; exact ⟨by decide, by decide⟩))
    | (refine At.note (t := 3) (v' := .bool (decide (okA L 3))) (by rfl) (congrArg Value.bool (by first | exact and_false' a3 (by assumption) | exact and_mid a3 (by assumption) | exact and_last a3 (by assumption) (by assumption))) ?_; ((with_reducible refine At.reachk (3) ?_ ?_ ?_ ?_); exact zsubs; exact zml; exact zente; exact ⟨by decide, by decide⟩))
  all_goals (refine At.note (t := 3) (v' := .bool (decide (okB L 1))) (by rfl) (congrArg Value.bool (decide_eq_decide.2 ob1.symm)) ?_)
  all_goals (refine At.loopk (σ := Nat) [1] (fun s F0 => (5, .int .i64 (s : Int)) :: (3, .bool (decide (okB L s))) :: F0) (fun s => m) (fun s => .blk b1 25 [gi r, gi a, gi b, gi d, gi x, gi y, gi w, gi c, gi g] :: Rest) (fun s => 1 ≤ s ∧ s ≤ 3) (fun s => 3 - s) 1 (by rfl) ?_ zsubs zml zente ?_)
  all_goals try exact ⟨by decide, by decide⟩
  all_goals (rintro s ⟨hs, hs2⟩; by_cases hB : okB L s)
  all_goals (try have hx := hbd hB.1)
  all_goals (try have hv := hno s hB)
  all_goals (rcases (show s = 1 ∨ s = 2 ∨ s = 3 by omega) with rfl | rfl | rfl)
  all_goals (repeat' (first | refine zss ?_ | ((first | (with_reducible first | apply At.val | apply AtQ.val)); (first | exact pr_sub (by rfl) (by rfl) v10 | exact pr_sub (by rfl) (by rfl) v21 | exact pr_indexArr (by rfl) (by rfl) (by rfl) (by rfl) (by decide)); exact rfl) | refine zs0 ?_ | ((with_reducible first | apply AtM1.callp | apply AtQ.callp | apply At.callp); kernel_rfl; exact rfl; exact rfl; exact hpl hB.1) | ((with_reducible apply At.box (d := 1)); exact rfl; exact rfl; exact rfl; intro b1) | (refine zsp ?_ ?_ <;> (intro hc; (try simp only [zhcs, reduceCtorEq] at hc); (try (exfalso; first | omega | contradiction | omega | exact absurd rfl hc | exact absurd (by decide) hc))))))
  all_goals first
    | (refine At.note (t := 3) (v' := .bool (decide (okB L 2))) (by rfl) (congrArg Value.bool (by first | exact and_false' ob2 (by assumption) | exact and_mid ob2 (by assumption) | exact and_last ob2 (by assumption) (by assumption))) ?_; ((with_reducible refine At.reachk (2) ?_ ?_ ?_ ?_); exact zsubs; exact zml; exact zente; exact ⟨⟨by decide, by decide⟩, by decide⟩))
    | (refine At.note (t := 3) (v' := .bool (decide (okB L 3))) (by rfl) (congrArg Value.bool (by first | exact and_false' ob3 (by assumption) | exact and_mid ob3 (by assumption) | exact and_last ob3 (by assumption) (by assumption))) ?_; ((with_reducible refine At.reachk (3) ?_ ?_ ?_ ?_); exact zsubs; exact zml; exact zente; exact ⟨⟨by decide, by decide⟩, by decide⟩))
    | ((with_reducible apply At.retB1 (B := [])); exact rfl; exact rfl; exact zml; exact zkp; exact ⟨congrArg (Value.int .i64) (Eq.symm (by first | assumption | exact h2 (by assumption) | exact h0 hB (by assumption))), rfl, rfl⟩)
end Conf
end Go.Proofs.YtkoijdmlehkhbaaGreatDoor
