/- Cells: right ones, how they merge, what events have: the plain law. -/
import Derived.Test.YtlnhfhejcjfmjaaEvL
set_option linter.unusedSimpArgs false
set_option linter.unusedVariables false
set_option linter.unusedSectionVars false
set_option maxRecDepth 20000
namespace Go.Proofs.Ytlnhfhejcjfmjaa
open Go Go.J
namespace Cell
open Ev
theorem ext {a b : Cell} (h1 : a.n = b.n) (h2 : a.F = b.F) (h3 : a.L = b.L) (h4 : a.I = b.I) (h5 : a.R = b.R) (h6 : a.G = b.G) (h7 : a.X = b.X) : a = b := by
  cases a; cases b; cases h1; cases h2; cases h3; cases h4; cases h5; cases h6; cases h7; rfl
instance : DecidableEq Cell := fun a b => decidable_of_iff (a.n = b.n ∧ a.F = b.F ∧ a.L = b.L ∧ a.I = b.I ∧ a.R = b.R ∧ a.G = b.G ∧ a.X = b.X)
  ⟨fun ⟨h1, h2, h3, h4, h5, h6, h7⟩ => ext h1 h2 h3 h4 h5 h6 h7, fun h => h ▸ ⟨rfl, rfl, rfl, rfl, rfl, rfl, rfl⟩⟩
/-- a right cell that is not zero -/
structure Full (c : Cell) : Prop where
  n : 1 ≤ c.n
  F : c.F.ok
  L : c.L.ok
  one : c.n = 1 → c.F = c.L
  lt : 1 < c.n → c.F.T < c.L.T
  len : c.n - 1 ≤ c.L.T - c.F.T
  R : 0 ≤ c.R
  G : 0 ≤ c.G
  RG : c.R + c.G ≤ c.n - 1
  X : 0 ≤ c.X
  XL : c.X ≤ c.L.T - c.F.T
  I : c.I ≤ 18446744073709551615 * (c.n - 1).toNat
def ok (c : Cell) : Prop := c = z ∨ Full c
theorem Full.ne {c : Cell} (h : Full c) : c ≠ z := fun e => by
  have := h.n
  rw [e] at this
  exact absurd this (by decide)
theorem Full.le {c : Cell} (h : Full c) : c.F.T ≤ c.L.T := by
  have h1 := h.n
  have h2 := h.len
  omega
instance (c : Cell) : Decidable (Full c) := decidable_of_iff (1 ≤ c.n ∧ c.F.ok ∧ c.L.ok ∧ (c.n = 1 → c.F = c.L) ∧ (1 < c.n → c.F.T < c.L.T) ∧ c.n - 1 ≤ c.L.T - c.F.T ∧ 0 ≤ c.R ∧ 0 ≤ c.G ∧ c.R + c.G ≤ c.n - 1 ∧ 0 ≤ c.X ∧ c.X ≤ c.L.T - c.F.T ∧ c.I ≤ 18446744073709551615 * (c.n - 1).toNat)
  ⟨fun ⟨h1, h2, h3, h4, h5, h6, h7, h8, h9, h10, h11, h12⟩ => ⟨h1, h2, h3, h4, h5, h6, h7, h8, h9, h10, h11, h12⟩, fun h => ⟨h.n, h.F, h.L, h.one, h.lt, h.len, h.R, h.G, h.RG, h.X, h.XL, h.I⟩⟩
instance (c : Cell) : Decidable (ok c) := by unfold ok; infer_instance
def chk (c : Cell) : Int := if ok c then 0 else 2
def one (e : Ev) : Cell := ⟨1, e, e, 0, 0, 0, 0⟩
theorem one_full {e : Ev} (h : e.ok) : Full (one e) := by
  refine ⟨?_, h, h, fun _ => rfl, ?_, ?_, ?_, ?_, ?_, ?_, ?_, ?_⟩ <;> dsimp only [one] <;> omega
def join (a b : Cell) : Cell := ⟨a.n + b.n, a.F, b.L, a.I + (btw a.L b.F).1.I + b.I, a.R + (btw a.L b.F).1.R + b.R, a.G + (btw a.L b.F).1.G + b.G, a.X + (btw a.L b.F).1.X + b.X⟩
def mrg (a b : Cell) : Cell × Int := if ¬ (ok a ∧ ok b) then (z, 2) else if a = z then (b, 0) else if b = z then (a, 0) else if b.F.T ≤ a.L.T then (z, 9) else (join a b, 0)
structure Btw (p c : Ev) : Prop where
  w : (btw p c).2 = 0
  R : 0 ≤ (btw p c).1.R
  G : 0 ≤ (btw p c).1.G
  RG : (btw p c).1.R + (btw p c).1.G ≤ 1
  X : 0 ≤ (btw p c).1.X
  XL : (btw p c).1.X ≤ c.T - p.T
  I : (btw p c).1.I ≤ c.V
theorem btw_bd {p c : Ev} (hp : p.ok) (hc : c.ok) (h : p.T < c.T) : Btw p c := by
  have ⟨h21, h22, h23, h24, h25⟩ := hc
  have e : btw p c = if c.S = true then (z, 0) else if p.T < c.C then (mk' c.V 1 0 (c.T - c.C), 0) else if p.S = true then (mk' 0 0 1 0, 0) else if c.V < p.V then (mk' c.V 1 0 (c.T - p.T), 0) else (mk' (c.V - p.V) 0 0 (c.T - p.T), 0) := by
    unfold btw
    rw [if_neg (not_not_intro (show two p c from ⟨hp, hc⟩)), if_neg (by omega)]
  by_cases a1 : c.S = true
  · rw [if_pos a1] at e
    constructor <;> rw [e] <;> first | rfl | (dsimp only [mk', Cell.z]; omega)
  rw [if_neg a1] at e
  by_cases a2 : p.T < c.C
  · rw [if_pos a2] at e
    constructor <;> rw [e] <;> first | rfl | (dsimp only [mk', Cell.z]; omega)
  rw [if_neg a2] at e
  by_cases a3 : p.S = true
  · rw [if_pos a3] at e
    constructor <;> rw [e] <;> first | rfl | (dsimp only [mk', Cell.z]; omega)
  rw [if_neg a3] at e
  by_cases a4 : c.V < p.V
  · rw [if_pos a4] at e
    constructor <;> rw [e] <;> first | rfl | (dsimp only [mk', Cell.z]; omega)
  · rw [if_neg a4] at e
    constructor <;> rw [e] <;> first | rfl | (dsimp only [mk', Cell.z]; omega)
theorem join_full {a b : Cell} (ha : Full a) (hb : Full b) (h : a.L.T < b.F.T) (hV : b.F.V < 18446744073709551616) : Full (join a b) := by
  obtain ⟨w, xR, xG, xRG, xX, xXL, xI⟩ := btw_bd ha.L hb.F h
  obtain ⟨a1, a2, a3, a4, a5, a6, a7, a8, a9, a10, a11, a12⟩ := ha
  obtain ⟨b1, b2, b3, b4, b5, b6, b7, b8, b9, b10, b11, b12⟩ := hb
  have hn : (join a b).n = a.n + b.n := rfl
  have hF : (join a b).F = a.F := rfl
  have hL : (join a b).L = b.L := rfl
  have e1 : (a.n + b.n - 1).toNat = (a.n - 1).toNat + (b.n - 1).toNat + 1 := by omega
  refine ⟨by rw [hn]; omega, a2, b3, fun h => by rw [hn] at h; omega, fun _ => by rw [hF, hL]; omega, by rw [hn, hF, hL]; omega, ?_, ?_, ?_, ?_, ?_, ?_⟩
  · show 0 ≤ a.R + (btw a.L b.F).1.R + b.R; omega
  · show 0 ≤ a.G + (btw a.L b.F).1.G + b.G; omega
  · show a.R + (btw a.L b.F).1.R + b.R + (a.G + (btw a.L b.F).1.G + b.G) ≤ a.n + b.n - 1; omega
  · show 0 ≤ a.X + (btw a.L b.F).1.X + b.X; omega
  · show a.X + (btw a.L b.F).1.X + b.X ≤ b.L.T - a.F.T; omega
  · show a.I + (btw a.L b.F).1.I + b.I ≤ 18446744073709551615 * (a.n + b.n - 1).toNat
    rw [e1]; omega
theorem join_assoc (a b c : Cell) : join (join a b) c = join a (join b c) := by
  refine ext ?_ rfl rfl ?_ ?_ ?_ ?_
  · show a.n + b.n + c.n = a.n + (b.n + c.n); omega
  · show a.I + (btw a.L b.F).1.I + b.I + (btw b.L c.F).1.I + c.I = a.I + (btw a.L b.F).1.I + (b.I + (btw b.L c.F).1.I + c.I); omega
  · show a.R + (btw a.L b.F).1.R + b.R + (btw b.L c.F).1.R + c.R = a.R + (btw a.L b.F).1.R + (b.R + (btw b.L c.F).1.R + c.R); omega
  · show a.G + (btw a.L b.F).1.G + b.G + (btw b.L c.F).1.G + c.G = a.G + (btw a.L b.F).1.G + (b.G + (btw b.L c.F).1.G + c.G); omega
  · show a.X + (btw a.L b.F).1.X + b.X + (btw b.L c.F).1.X + c.X = a.X + (btw a.L b.F).1.X + (b.X + (btw b.L c.F).1.X + c.X); omega
/-- numbers that fit -/
def Fits (c : Cell) : Prop := c.F.V < 18446744073709551616 ∧ c.L.V < 18446744073709551616
theorem mrg_cases {a b : Cell} : (mrg a b = (z, 2) ∧ ¬ (ok a ∧ ok b)) ∨ (mrg a b = (b, 0) ∧ a = z ∧ ok b) ∨ (mrg a b = (a, 0) ∧ Full a ∧ b = z) ∨ (mrg a b = (z, 9) ∧ Full a ∧ Full b ∧ b.F.T ≤ a.L.T) ∨ (mrg a b = (join a b, 0) ∧ Full a ∧ Full b ∧ a.L.T < b.F.T) := by
  unfold mrg
  by_cases h : ok a ∧ ok b
  · rw [if_neg (not_not_intro h)]
    obtain ⟨h1, h2⟩ := h
    by_cases ha : a = z
    · rw [if_pos ha]; exact .inr (.inl ⟨rfl, ha, h2⟩)
    · rw [if_neg ha]
      have fa := h1.resolve_left ha
      by_cases hb : b = z
      · rw [if_pos hb]; exact .inr (.inr (.inl ⟨rfl, fa, hb⟩))
      · rw [if_neg hb]
        have fb := h2.resolve_left hb
        by_cases ht : b.F.T ≤ a.L.T
        · rw [if_pos ht]; exact .inr (.inr (.inr (.inl ⟨rfl, fa, fb, ht⟩)))
        · rw [if_neg ht]; exact .inr (.inr (.inr (.inr ⟨rfl, fa, fb, by omega⟩)))
  · rw [if_pos h]; exact .inl ⟨rfl, h⟩
theorem mrg_join {a b : Cell} (ha : Full a) (hb : Full b) (h : a.L.T < b.F.T) : mrg a b = (join a b, 0) := by
  unfold mrg
  rw [if_neg (not_not_intro ⟨.inr ha, .inr hb⟩), if_neg ha.ne, if_neg hb.ne, if_neg (by omega)]
theorem mrg_zl {b : Cell} (h : ok b) : mrg z b = (b, 0) := by
  unfold mrg
  rw [if_neg (not_not_intro ⟨.inl rfl, h⟩), if_pos rfl]
theorem mrg_zr {a : Cell} (h : ok a) : mrg a z = (a, 0) := by
  by_cases ha : a = z
  · subst ha; exact mrg_zl (.inl rfl)
  · unfold mrg
    rw [if_neg (not_not_intro ⟨h, .inl rfl⟩), if_neg ha, if_pos rfl]
/-- what right ones merge to -/
theorem mrg_right {a b : Cell} (hb : Fits b) (h : (mrg a b).2 = 0) : ok (mrg a b).1 ∧ mrg z a = (a, 0) ∧ (mrg a b).1.n = a.n + b.n := by
  rcases mrg_cases (a := a) (b := b) with ⟨e, _⟩ | ⟨e, h1, h2⟩ | ⟨e, h1, h2⟩ | ⟨e, _⟩ | ⟨e, h1, h2, h3⟩
  · rw [e] at h; exact absurd h (by show ¬ (2 : Int) = 0; decide)
  · rw [e]; subst h1; exact ⟨h2, mrg_zl (.inl rfl), by show b.n = 0 + b.n; omega⟩
  · rw [e]; subst h2; exact ⟨.inr h1, mrg_zl (.inr h1), by show a.n = a.n + 0; omega⟩
  · rw [e] at h; exact absurd h (by show ¬ (9 : Int) = 0; decide)
  · rw [e]; exact ⟨.inr (join_full h1 h2 h3 hb.1), mrg_zl (.inr h1), rfl⟩
theorem mrg_bad {a b : Cell} (h : (mrg a b).2 ≠ 0) : (mrg a b).1 = z := by
  rcases mrg_cases (a := a) (b := b) with ⟨e, _⟩ | ⟨e, _⟩ | ⟨e, _⟩ | ⟨e, _⟩ | ⟨e, _⟩ <;> rw [e] at h ⊢
  · exact absurd rfl h
  · exact absurd rfl h
  · exact absurd rfl h
theorem mrg_assoc {a b c : Cell} (hb : Fits b) (hc : Fits c) (h1 : (mrg a b).2 = 0) (h2 : (mrg b c).2 = 0) : mrg (mrg a b).1 c = mrg a (mrg b c).1 := by
  rcases mrg_cases (a := a) (b := b) with ⟨e, _⟩ | ⟨e, g1, g2⟩ | ⟨e, g1, g2⟩ | ⟨e, _⟩ | ⟨e, g1, g2, g3⟩
  · rw [e] at h1; exact absurd h1 (by show ¬ (2 : Int) = 0; decide)
  · subst g1
    have hr := mrg_right hc h2
    rw [e, mrg_zl hr.1]
    show mrg b c = _
    rw [← h2]
  · subst g2
    rw [mrg_zl (mrg_right hc h2 |>.1 |> fun _ => by
      rcases mrg_cases (a := z) (b := c) with ⟨e2, _⟩ | ⟨_, _, h⟩ | ⟨_, h, _⟩ | ⟨_, h, _⟩ | ⟨_, h, _⟩
      · rw [e2] at h2; exact absurd h2 (by show ¬ (2 : Int) = 0; decide)
      · exact h
      · exact absurd rfl h.ne
      · exact absurd rfl h.ne
      · exact absurd rfl h.ne), e]
  · rw [e] at h1; exact absurd h1 (by show ¬ (9 : Int) = 0; decide)
  · rw [e]
    have fj := join_full g1 g2 g3 hb.1
    rcases mrg_cases (a := b) (b := c) with ⟨e2, _⟩ | ⟨e2, k1, k2⟩ | ⟨e2, k1, k2⟩ | ⟨e2, _⟩ | ⟨e2, k1, k2, k3⟩
    · rw [e2] at h2; exact absurd h2 (by show ¬ (2 : Int) = 0; decide)
    · exact absurd k1 g2.ne
    · subst k2
      rw [e2, mrg_zr (.inr fj)]
      exact e.symm
    · rw [e2] at h2; exact absurd h2 (by show ¬ (9 : Int) = 0; decide)
    · rw [e2, mrg_join fj k2 k3, mrg_join g1 (join_full k1 k2 k3 hc.1) g3, join_assoc]
/-! ### events -/
def add (c : Cell) (e : Ev) : Cell := if c = z then one e else join c (one e)
def ofL (l : List Ev) : Cell × Int := if Mrg.chk l ≠ 0 then (z, Mrg.chk l) else (l.foldl add z, 0)
theorem add_full {c : Cell} {e : Ev} (hc : c = z ∨ (Full c ∧ c.L.T < e.T)) (he : e.ok) (hV : e.V < 18446744073709551616) : Full (add c e) ∧ (add c e).L = e ∧ mrg c (one e) = (add c e, 0) := by
  rcases hc with rfl | ⟨h1, h2⟩
  · rw [show add z e = one e from if_pos rfl]
    exact ⟨one_full he, rfl, mrg_zl (.inr (one_full he))⟩
  · rw [show add c e = join c (one e) from if_neg h1.ne]
    exact ⟨join_full h1 (one_full he) h2 hV, rfl, mrg_join h1 (one_full he) h2⟩
theorem fold_join (c d : Cell) : ∀ (l : List Ev), Full c → Full d → c.L.T < d.F.T → d.F.V < 18446744073709551616 → (∀ e ∈ l, e.ok ∧ e.V < 18446744073709551616) → (∀ e ∈ l, d.L.T < e.T) → Mrg.Asc l → l.foldl add (join c d) = join c (l.foldl add d)
  | [], _, _, _, _, _, _, _ => rfl
  | e :: l, hc, hd, h, hV, ho, hl, ha => by
    obtain ⟨o1, o2⟩ := ho e (List.mem_cons_self ..)
    obtain ⟨a1, a2⟩ := List.pairwise_cons.1 ha
    have h1 := hl e (List.mem_cons_self ..)
    have fj := join_full hc hd h hV
    have e1 : add (join c d) e = join c (join d (one e)) := by rw [show add (join c d) e = join (join c d) (one e) from if_neg fj.ne, join_assoc]
    have e2 : add d e = join d (one e) := if_neg hd.ne
    rw [List.foldl_cons, List.foldl_cons, e1, e2]
    exact fold_join c (join d (one e)) l hc (join_full hd (one_full o1) h1 o2) h hV (fun x hx => ho x (List.mem_cons_of_mem _ hx)) (fun x hx => a1 x hx) a2
theorem fold_full : ∀ (l : List Ev) (c : Cell), (c = z ∨ (Full c ∧ ∀ e ∈ l, c.L.T < e.T)) → (∀ e ∈ l, e.ok ∧ e.V < 18446744073709551616) → Mrg.Asc l → (l = [] ∧ l.foldl add c = c) ∨ (∃ h : l ≠ [], Full (l.foldl add c) ∧ (l.foldl add c).L = l.getLast h)
  | [], _, _, _, _ => .inl ⟨rfl, rfl⟩
  | e :: l, c, hc, ho, ha => by
    obtain ⟨o1, o2⟩ := ho e (List.mem_cons_self ..)
    obtain ⟨a1, a2⟩ := List.pairwise_cons.1 ha
    obtain ⟨f1, f2, _⟩ := add_full (hc.imp_right fun ⟨h1, h2⟩ => ⟨h1, h2 e (List.mem_cons_self ..)⟩) o1 o2
    refine .inr ⟨by simp, ?_⟩
    rw [List.foldl_cons]
    rcases fold_full l (add c e) (.inr ⟨f1, fun x hx => by rw [f2]; exact a1 x hx⟩) (fun x hx => ho x (List.mem_cons_of_mem _ hx)) a2 with ⟨rfl, h⟩ | ⟨h, h1, h2⟩
    · exact ⟨by rw [h]; exact f1, by rw [h, f2]; rfl⟩
    · exact ⟨h1, by rw [h2, List.getLast_cons h]⟩
theorem fold_F : ∀ (l : List Ev) (c : Cell), Full c → (∀ e ∈ l, e.ok ∧ e.V < 18446744073709551616) → (∀ e ∈ l, c.L.T < e.T) → Mrg.Asc l → (l.foldl add c).F = c.F
  | [], _, _, _, _, _ => rfl
  | e :: l, c, hc, ho, hl, ha => by
    obtain ⟨o1, o2⟩ := ho e (List.mem_cons_self ..)
    obtain ⟨a1, a2⟩ := List.pairwise_cons.1 ha
    obtain ⟨f1, f2, _⟩ := add_full (.inr ⟨hc, hl e (List.mem_cons_self ..)⟩) o1 o2
    rw [List.foldl_cons, fold_F l _ f1 (fun x hx => ho x (List.mem_cons_of_mem _ hx)) (fun x hx => by rw [f2]; exact a1 x hx) a2, show add c e = join c (one e) from if_neg hc.ne]
    rfl
theorem fold_mrg {a b : List Ev} (h : ∀ e ∈ a ++ b, e.ok ∧ e.V < 18446744073709551616) (hs : Mrg.Asc (a ++ b)) : mrg (a.foldl add z) (b.foldl add z) = ((a ++ b).foldl add z, 0) := by
  obtain ⟨s1, s2, s3⟩ := List.pairwise_append.1 hs
  have oa : ∀ e ∈ a, e.ok ∧ e.V < 18446744073709551616 := fun e he => h e (List.mem_append_left _ he)
  have ob : ∀ e ∈ b, e.ok ∧ e.V < 18446744073709551616 := fun e he => h e (List.mem_append_right _ he)
  rw [List.foldl_append]
  rcases fold_full a z (.inl rfl) oa s1 with ⟨rfl, g⟩ | ⟨na, g1, g2⟩
  · show mrg z _ = _
    rw [mrg_zl]
    · rfl
    · rcases fold_full b z (.inl rfl) ob s2 with ⟨rfl, g⟩ | ⟨_, k1, _⟩
      · exact .inl rfl
      · exact .inr k1
  · rcases b with _ | ⟨e, b⟩
    · exact mrg_zr (.inr g1)
    · obtain ⟨a1, a2⟩ := List.pairwise_cons.1 s2
      obtain ⟨o1, o2⟩ := ob e (List.mem_cons_self ..)
      have fo := one_full o1
      have hlt : (a.foldl add z).L.T < e.T := by rw [g2]; exact s3 _ (List.getLast_mem na) e (List.mem_cons_self ..)
      have ob' : ∀ x ∈ b, x.ok ∧ x.V < 18446744073709551616 := fun x hx => ob x (List.mem_cons_of_mem _ hx)
      have e1 : add z e = one e := if_pos rfl
      have e2 : add (a.foldl add z) e = join (a.foldl add z) (one e) := if_neg g1.ne
      rw [List.foldl_cons, List.foldl_cons, e1, e2, fold_join _ _ b g1 fo hlt o2 ob' a1 a2]
      refine mrg_join g1 ?_ ?_
      · rcases fold_full b (one e) (.inr ⟨fo, a1⟩) ob' a2 with ⟨rfl, g⟩ | ⟨_, k1, _⟩
        · exact fo
        · exact k1
      · rw [fold_F b (one e) fo ob' a1 a2]; exact hlt
end Cell
end Go.Proofs.Ytlnhfhejcjfmjaa
