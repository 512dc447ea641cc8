/- TopLater, TopRuns: the plain law, and as they are walked. -/
import Derived.Test.YtlnhfhejcjfmjaaCellO
import Derived.Test.YtlnhfhejcjfmjaaEventR
import Derived.Test.YtlnhfhejcjfmjaaLs
set_option linter.unusedSimpArgs false
set_option linter.unusedVariables false
set_option linter.unusedSectionVars false
set_option maxRecDepth 20000
namespace Go.Proofs.Ytlnhfhejcjfmjaa
open Go Go.J
attribute [local irreducible] At AtQ AtM AtM1 PR Ct Pu Rd Res.blk Res.own Res.ex RVs RV
namespace Top4
open Ev Mrg
/-- later by so much -/
def later (by_ : Int) (e : Ev) : Ev := ⟨e.T + by_, e.V, if 0 < e.C then e.C + by_ else e.C, e.S⟩
def lat (b : Int) (c : Cell) : Cell := ⟨c.n, later b c.F, later b c.L, c.I, c.R, c.G, c.X⟩
theorem later_ok {b : Int} (hb : 0 ≤ b) {e : Ev} (h : e.ok) : (later b e).ok ↔ e.T + b < 35184372088832 := by
  obtain ⟨h1, h2, h3, h4, h5⟩ := h
  constructor
  · exact fun h => h.2.1
  · intro h
    refine ⟨by show 0 ≤ e.T + b; omega, h, ?_, ?_, fun hS => ?_⟩
    · show 0 ≤ (if 0 < e.C then e.C + b else e.C); split <;> omega
    · show (if 0 < e.C then e.C + b else e.C) ≤ e.T + b; split <;> omega
    · obtain ⟨g1, g2⟩ := h5 hS
      exact ⟨g1, by show (if 0 < e.C then e.C + b else e.C) = 0; rw [if_neg (by omega)]; exact g2⟩
theorem btw_later {b : Int} (hb : 0 ≤ b) {p c : Ev} (hp : p.ok) (hc : c.ok) (hp' : (later b p).ok) (hc' : (later b c).ok) (h : p.T < c.T) : btw (later b p) (later b c) = btw p c := by
  obtain ⟨p1, _, p3, p4, _⟩ := id hp
  obtain ⟨c1, _, c3, c4, _⟩ := id hc
  have e1 : (later b p).T = p.T + b := rfl
  have e2 : (later b c).T = c.T + b := rfl
  have e3 : (later b c).C = if 0 < c.C then c.C + b else c.C := rfl
  unfold btw
  rw [if_neg (not_not_intro (show two (later b p) (later b c) from ⟨hp', hc'⟩)), if_neg (not_not_intro (show two p c from ⟨hp, hc⟩)), if_neg (show ¬ (later b c).T ≤ (later b p).T by omega), if_neg (show ¬ c.T ≤ p.T by omega)]
  rw [show (later b c).S = c.S from rfl, show (later b p).S = p.S from rfl, show (later b c).V = c.V from rfl, show (later b p).V = p.V from rfl]
  by_cases hS : c.S = true
  · rw [if_pos hS, if_pos hS]
  rw [if_neg hS, if_neg hS]
  by_cases hC : 0 < c.C
  · rw [if_pos hC] at e3
    rw [show (later b c).T - (later b c).C = c.T - c.C by omega, show (later b c).T - (later b p).T = c.T - p.T by omega]
    by_cases hq : p.T < c.C
    · rw [if_pos hq, if_pos (show (later b p).T < (later b c).C by omega)]
    · rw [if_neg hq, if_neg (show ¬ (later b p).T < (later b c).C by omega)]
  · rw [if_neg hC] at e3
    rw [if_neg (show ¬ (later b p).T < (later b c).C by omega), if_neg (show ¬ p.T < c.C by omega), show (later b c).T - (later b p).T = c.T - p.T by omega]
theorem lat_ne {b : Int} {c : Cell} (h : 1 ≤ c.n) : lat b c ≠ Cell.z := fun e => by
  have := congrArg Cell.n e
  have e2 : (lat b c).n = c.n := rfl
  rw [e2] at this
  have e3 : Cell.z.n = 0 := rfl
  omega
theorem add_lat {b : Int} (hb : 0 ≤ b) {c : Cell} {e : Ev} (hc : Cell.Full c) (he : e.ok) (h : c.L.T < e.T) (hL : (later b c.L).ok) (he' : (later b e).ok) : Cell.add (lat b c) (later b e) = lat b (Cell.add c e) := by
  rw [show Cell.add (lat b c) (later b e) = Cell.join (lat b c) (Cell.one (later b e)) from if_neg (lat_ne hc.n), show Cell.add c e = Cell.join c (Cell.one e) from if_neg hc.ne]
  have hbt := btw_later hb hc.L he hL he' h
  unfold Cell.join
  rw [show (lat b c).L = later b c.L from rfl, show (Cell.one (later b e)).F = later b e from rfl, show (Cell.one e).F = e from rfl, hbt]
  rfl
theorem fold_lat {b : Int} (hb : 0 ≤ b) : ∀ (l : List Ev) (c : Cell), Cell.Full c → (later b c.L).ok → (∀ e ∈ l, c.L.T < e.T) → (∀ e ∈ l, e.ok ∧ e.V < 18446744073709551616) → (∀ e ∈ l, (later b e).ok) → Asc l →
    (l.map (later b)).foldl Cell.add (lat b c) = lat b (l.foldl Cell.add c)
  | [], _, _, _, _, _, _, _ => rfl
  | e :: l, c, hc, hL, hl, ho, hk, ha => by
    obtain ⟨o1, o2⟩ := ho e (List.mem_cons_self ..)
    obtain ⟨a1, a2⟩ := List.pairwise_cons.1 ha
    have h1 := hl e (List.mem_cons_self ..)
    have h2 := hk e (List.mem_cons_self ..)
    obtain ⟨f1, f2, _⟩ := Cell.add_full (.inr ⟨hc, h1⟩) o1 o2
    rw [List.map_cons, List.foldl_cons, List.foldl_cons, add_lat hb hc o1 h1 hL h2]
    exact fold_lat hb l _ f1 (by rw [f2]; exact h2) (fun x hx => by rw [f2]; exact a1 x hx) (fun x hx => ho x (List.mem_cons_of_mem _ hx)) (fun x hx => hk x (List.mem_cons_of_mem _ hx)) a2
theorem asc_later {b : Int} {l : List Ev} (h : Asc l) : Asc (l.map (later b)) := List.pairwise_map.2 (h.imp fun {x y} (hx : x.T < y.T) => by show x.T + b < y.T + b; omega)
theorem of_later {b : Int} (hb : 0 ≤ b) {l : List Ev} (h : (Cell.ofL l).2 = 0) (hV : ∀ e ∈ l, e.V < 18446744073709551616) (hk : ∀ e ∈ l, (later b e).ok) :
    (Cell.ofL (l.map (later b))).2 = 0 ∧ (Cell.ofL (l.map (later b))).1.n = (Cell.ofL l).1.n ∧ (Cell.ofL (l.map (later b))).1.I = (Cell.ofL l).1.I ∧ (Cell.ofL (l.map (later b))).1.R = (Cell.ofL l).1.R ∧ (Cell.ofL (l.map (later b))).1.G = (Cell.ofL l).1.G ∧ (Cell.ofL (l.map (later b))).1.X = (Cell.ofL l).1.X ∧
      (l.length ≠ 0 → (Cell.ofL (l.map (later b))).1.F = (l.map (later b))[0]! ∧ (Cell.ofL (l.map (later b))).1.L = (l.map (later b))[l.length - 1]!) := by
  have hc : chk l = 0 := by
    unfold Cell.ofL at h
    by_cases hq : chk l = 0
    · exact hq
    · rw [if_pos hq] at h; exact absurd h hq
  obtain ⟨c1, c2⟩ := chk_zero.1 hc
  have hc' : chk (l.map (later b)) = 0 := chk_zero.2 ⟨fun e he => by
    obtain ⟨x, hx, rfl⟩ := List.mem_map.1 he
    exact hk x hx, asc_later c2⟩
  have e1 : Cell.ofL l = (l.foldl Cell.add Cell.z, 0) := if_neg (not_not_intro hc)
  have e2 : Cell.ofL (l.map (later b)) = ((l.map (later b)).foldl Cell.add Cell.z, 0) := if_neg (not_not_intro hc')
  rw [e1, e2]
  rcases l with _ | ⟨e, l⟩
  · exact ⟨rfl, rfl, rfl, rfl, rfl, rfl, fun h => absurd rfl h⟩
  · obtain ⟨a1, a2⟩ := List.pairwise_cons.1 c2
    have o1 := c1 e (List.mem_cons_self ..)
    have v1 := hV e (List.mem_cons_self ..)
    have k1 := hk e (List.mem_cons_self ..)
    have ho : ∀ x ∈ l, x.ok ∧ x.V < 18446744073709551616 := fun x hx => ⟨c1 x (List.mem_cons_of_mem _ hx), hV x (List.mem_cons_of_mem _ hx)⟩
    have hf := fold_lat hb l (Cell.one e) (Cell.one_full o1) k1 a1 ho (fun x hx => hk x (List.mem_cons_of_mem _ hx)) a2
    have e3 : ((e :: l).map (later b)).foldl Cell.add Cell.z = lat b ((e :: l).foldl Cell.add Cell.z) := by
      rw [List.map_cons, List.foldl_cons, List.foldl_cons, show Cell.add Cell.z e = Cell.one e from if_pos rfl, show Cell.add Cell.z (later b e) = Cell.one (later b e) from if_pos rfl]
      exact hf
    rw [e3]
    refine ⟨rfl, rfl, rfl, rfl, rfl, rfl, fun _ => ⟨?_, ?_⟩⟩
    · show later b ((e :: l).foldl Cell.add Cell.z).F = later b e
      rw [List.foldl_cons, show Cell.add Cell.z e = Cell.one e from if_pos rfl, Cell.fold_F l _ (Cell.one_full o1) ho a1 a2]
      rfl
    · show later b ((e :: l).foldl Cell.add Cell.z).L = _
      rcases Cell.fold_full (e :: l) Cell.z (.inl rfl) (fun x hx => ⟨c1 x hx, hV x hx⟩) c2 with ⟨h, _⟩ | ⟨h, _, h2⟩
      · cases h
      · rw [h2, getElem!_pos _ _ (by simp), List.getElem_map, List.getLast_eq_getElem]
theorem ofC {m : Mem} (p : Option Addr) (c : Nat) (l : List Ev) (k : Nat) (hk : l.length = k) (x : Cell) (w : Int) (hl : l.length ≤ 1000000) (hV : ∀ e ∈ l, e.V < 18446744073709551616) (h : Cell.ofL l = (x, w)) (sl0 : Sl m Ev.cells 4 p c l) :
    Ct Try.prog 6 #[.slice p k c] m [] (fun v m' B => v = .tuple #[x.v, .int .i64 w] ∧ B = []) := by
  have := Cell.of_ p c l hl hV sl0
  rw [h, hk] at this
  exact this.mono fun _ _ _ _ h => ⟨h.1, h.2.2⟩
theorem risC {m : Mem} (p : Option Addr) (c : Nat) (l : List Ev) (k : Nat) (hk : l.length = k) (x : Nat) (w : Int) (hl : l.length ≤ 1000000) (hV : ∀ e ∈ l, e.V < 18446744073709551616) (h : rise l = (x, w)) (sl0 : Sl m Ev.cells 4 p c l) :
    Ct Try.prog 10 #[.slice p k c] m [] (fun v m' B => v = .tuple #[Wide.wv x, .int .i64 w] ∧ B = []) := by
  have := rises p c l hl hV sl0
  rw [h, hk] at this
  exact this
abbrev bA : Ev := ⟨3, 5, 0, false⟩
abbrev bB : Ev := ⟨9, 7, 0, false⟩
abbrev bC : Cell := ⟨2, bA, bB, 2, 0, 0, 6⟩
theorem qb1 : Cell.ofL [bA, bB] = (bC, 0) := by decide
theorem qb2 : rise [bA, bB] = (2, 0) := by decide
theorem chkC (e : Ev) (w : Int) (h : e.chk = w) : Pu Try.prog 7 #[e.v] (.int .i64 w) := h ▸ Ev.check e
set_option maxHeartbeats 1000000 in
theorem begins : Pu Try.prog 5 #[] (.bool true) := Pu.of_le fun m => by
  refine Ct.enterV (by rfl) Try.func5 rfl Try.ntmps5 rfl (fun w0 Rest => ?_)
  (repeat' (first | (with_reducible first | apply At.app0 | apply At.app1 | apply At.app2 | apply At.app3 | apply At.app4 | apply At.app5 | apply At.app6 | apply At.app7) | (with_reducible first | apply At.seq | apply At.nil | apply At.then_n | apply At.then_e | apply At.then_r | apply At.inb_n | apply At.inb_r | apply At.inb_here | apply At.block | apply At.skip | apply At.exit | apply At.ret | apply At.scope | apply At.label | apply At.nog_n | apply At.nog_r | apply At.nog_e | apply AtQ.nil) | ((with_reducible first | apply At.inb_past | apply At.regionf); exact rfl) | ((with_reducible apply At.quiet); exact rfl; kernel_rfl; kernel_rfl) | ((first | (with_reducible first | apply At.val | apply AtQ.val)); (first | ((with_reducible first | apply pr_move | apply pr_assign | apply pr_extract | apply pr_eql | apply pr_pick_t | apply pr_fieldAddr0 | apply pr_build | apply pr_field1) <;> exact rfl) | ((with_reducible first | apply pr_pick_f | apply pr_beql | apply pr_fieldAddrL | apply pr_fieldN) <;> exact rfl) | ((with_reducible first | apply pr_peql | apply pr_fieldAddr_at2) <;> exact rfl) | ((with_reducible first | apply pr_streq | apply pr_fieldAddr_at) <;> exact rfl) | ((with_reducible apply pr_load_blk1); exact rfl; exact rfl; exact (by repeat constructor); exact rfl) | ((with_reducible apply pr_load_blkN); exact rfl; exact rfl; exact rfl; exact (by repeat constructor); exact rfl) | exact pr_load_meme1 (by rfl) (by first | assumption | exact Sl.mono (by assumption) (by assumption)) (by first | omega | (simp only [lns] <;> omega)) (by rfl) (by rfl) | exact pr_load_memeN (by rfl) (by first | assumption | exact Sl.mono (by assumption) (by assumption)) (by first | omega | (simp only [lns] <;> omega)) (by rfl) (by rfl) (by rfl) | exact pr_load_memef (by rfl) (by first | assumption | exact Sl.mono (by assumption) (by assumption)) (by first | omega | (simp only [lns] <;> omega)) (by rfl) (by rfl) (by rfl) | exact pr_load_memefN (by rfl) (by first | assumption | exact Sl.mono (by assumption) (by assumption)) (by first | omega | (simp only [lns] <;> omega)) (by rfl) (by rfl) (by rfl) (by rfl) | ((with_reducible apply pr_aggeq2); exact rfl; exact rfl; exact rfl; kernel_rfl; kernel_rfl; exact rfl)); exact rfl) | ((with_reducible apply At.litF Ev.cells [bA, bB]); exact inferInstance; exact rfl; exact rfl; exact rfl; exact rfl; exact rfl; exact rfl; exact rfl; intro b' m' hm' sl0; (try replace sl0 := Sl.mono sl0 hm')) | ((first | ((with_reducible apply At.callt1); kernel_rfl; exact rfl; exact rfl) | ((with_reducible apply At.callt0); kernel_rfl; exact rfl)); exact ofC _ _ [bA, bB] 2 rfl bC 0 (by decide) (by decide) qb1 sl0; (repeat' (first | exact Take.nil | ((with_reducible apply Take.cons); (focus ((repeat constructor); done))))); rintro v' m' B' hm' ⟨rfl, rfl⟩; (try replace sl0 := Sl.mono sl0 hm'); (try (have hq0 : hm' = Mem.le_refl _ := rfl; clear hq0 hm'))) | ((first | ((with_reducible apply At.callt1); kernel_rfl; exact rfl; exact rfl) | ((with_reducible apply At.callt0); kernel_rfl; exact rfl)); exact risC _ _ [bA, bB] 2 rfl 2 0 (by decide) (by decide) qb2 sl0; (repeat' (first | exact Take.nil | ((with_reducible apply Take.cons); (focus ((repeat constructor); done))))); rintro v' m' B' hm' ⟨rfl, rfl⟩; (try replace sl0 := Sl.mono sl0 hm'); (try (have hq0 : hm' = Mem.le_refl _ := rfl; clear hq0 hm'))) | ((with_reducible first | apply AtM1.callp | apply AtQ.callp | apply At.callp); kernel_rfl; exact rfl; exact rfl; exact Wide.of_ 2 (by decide)) | ((with_reducible first | apply AtM1.callp | apply AtQ.callp | apply At.callp); kernel_rfl; exact rfl; exact rfl; exact chkC ⟨-1, 0, 0, false⟩ 2 (by decide)) | fail | ((with_reducible apply At.storeB); exact rfl; exact rfl; exact rfl; exact rfl; exact rfl; exact rfl; exact (by repeat constructor); exact rfl) | ((with_reducible apply At.alloc (d := 1)); exact rfl; exact rfl; intro b1) | ((with_reducible apply At.alloc (d := 2)); exact rfl; exact rfl; intro b2) | ((with_reducible apply At.alloc (d := 3)); exact rfl; exact rfl; intro b3) | ((with_reducible apply At.alloc (d := 5)); exact rfl; exact rfl; intro b5) | ((with_reducible first | apply AtQ.guard_y | apply At.guard_y); exact rfl; exact rfl; exact rfl) | ((with_reducible first | apply AtQ.guard_nt | apply At.guard_nt); exact rfl; exact rfl; exact rfl) | ((with_reducible first | apply AtQ.guard_nf | apply At.guard_nf); exact rfl; exact rfl; exact rfl) | ((with_reducible first | apply AtQ.guard_nu | apply At.guard_nu); exact rfl; exact rfl; exact rfl) | ((with_reducible first | apply At.cond_t | apply At.cond_f); exact rfl) | ((with_reducible apply At.cond_f); exact rfl) | ((with_reducible apply At.cond); exact rfl; all_goals (intro hc; (try simp only [decide_eq_true_eq, decide_eq_false_iff_not, Bool.not_eq_true', Bool.not_eq_false', Bool.and_eq_true, Bool.or_eq_true, Bool.and_eq_false_iff, Bool.or_eq_false_iff, Bool.not_eq_eq_eq_not, Bool.not_true, Bool.not_false, beq_iff_eq, beq_eq_false_iff_ne, ne_eq, not_true_eq_false, not_false_eq_true, Bool.false_eq_true, Bool.true_eq_false, Option.isNone_none, Option.isNone_some, reduceCtorEq, andL_cons, andL_nil, Bool.and_true, and_true] at hc); (try (exfalso; first | contradiction | omega | exact absurd rfl hc | exact absurd (by decide) hc)))) | ((with_reducible first | apply At.guard_s | apply AtQ.guard_s); exact rfl; exact rfl; all_goals (intro hc; (try simp only [decide_eq_true_eq, decide_eq_false_iff_not, Bool.not_eq_true', Bool.not_eq_false', Bool.and_eq_true, Bool.or_eq_true, Bool.and_eq_false_iff, Bool.or_eq_false_iff, Bool.not_eq_eq_eq_not, Bool.not_true, Bool.not_false, beq_iff_eq, beq_eq_false_iff_ne, ne_eq, not_true_eq_false, not_false_eq_true, Bool.false_eq_true, Bool.true_eq_false, Option.isNone_none, Option.isNone_some, reduceCtorEq, andL_cons, andL_nil, Bool.and_true, and_true] at hc); (try (exfalso; first | contradiction | omega | exact absurd rfl hc | exact absurd (by decide) hc))))))
  all_goals have hle : m.le m' := (by first | exact Mem.le_refl _ | assumption | ((iterate 16 (first | done | exact Mem.le_refl _ | refine Mem.le_trans ?_ (by assumption))); done))
  all_goals ((with_reducible apply At.retB1 (B := [])); exact rfl; exact rfl; (first | exact Mem.le_refl _ | assumption | exact Mem.le_trans (by assumption) (by assumption) | (focus ((iterate 16 (first | done | assumption | refine Mem.le_trans ?_ (by assumption))); done))); (repeat' (first | exact Keep.nil | ((with_reducible apply Keep.cons); exact (by repeat constructor)) | (with_reducible apply Keep.skip))); exact ⟨rfl, hle, rfl⟩)
end Top4
end Go.Proofs.Ytlnhfhejcjfmjaa
