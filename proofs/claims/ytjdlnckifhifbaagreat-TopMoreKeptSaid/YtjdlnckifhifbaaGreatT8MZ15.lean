/- TopMoreKept: a series with room for more tells the same of what the lesser one keeps. No condition. -/
import Derived.Test.YtjdlnckifhifbaaGreatT8MZ14
/- TopMoreKept: a series with room for more tells the same of what the lesser one keeps. No condition. -/
set_option linter.unusedSimpArgs false
set_option linter.unusedVariables false
set_option linter.unusedSectionVars false
set_option maxRecDepth 20000
set_option maxHeartbeats 4000000
namespace Go.J
open Go
theorem pr_max3 {P : Program} {n : Nat} {F : Fr} {C : World → Prop} {x y u : Operand} {k : IntKind} {p q r : Int} {ts : Array TypeId} (hx : ev F x = some (.int k p)) (hy : ev F y = some (.int k q)) (hu : ev F u = some (.int k r)) : PR P n F C (.call ⟨.builtin .max, #[x, y, u], ts⟩) (.int k (if (if p < q then q else p) < r then r else if p < q then q else p)) := fun _ _ _ _ _ a w ha _ => by
  simp [execOp, resolve, invoke, builtin, ha.ev hx, ha.ev hy, ha.ev hu, Builtin.max_, Builtin.max2]
end Go.J
namespace Go.Proofs.YtjdlnckifhifbaaGreat
open Go Go.J
attribute [local irreducible] At AtQ AtM AtM1 PR Ct Pu Rd Res.blk Res.own Res.ex RVs RV
namespace T8
open Slot Ti Gr Se Sv
open Fo hiding pt
structure M4 where
  (a b c d : Nat)
abbrev M4.cells (M : M4) : List Value := [.int .u8 (M.a : Int), .int .u8 (M.b : Int), .int .u8 (M.c : Int), .int .u8 (M.d : Int)]
abbrev M4.v (M : M4) : Value := .agg M.cells.toArray
def M4.In (M : M4) : Prop := M.a < 256 ∧ M.b < 256 ∧ M.c < 256 ∧ M.d < 256
/-- with more room, so far -/
def Dk (K : Cfg) (r x y w : Int) : Nat → Cfg
  | 0 => ⟨r, K.a, K.b, K.d, K.x, K.y, K.w, K.c, 8192⟩
  | 1 => ⟨r, K.a, K.b, K.d, x, K.y, K.w, K.c, 8192⟩
  | 2 => ⟨r, K.a, K.b, K.d, x, y, K.w, K.c, 8192⟩
  | _ => ⟨r, K.a, K.b, K.d, x, y, w, K.c, 8192⟩
theorem rem_n (n q : Nat) (hq : 0 < q) : (n : Int).tmod (q : Int) = ((n % q : Nat) : Int) := by
  rw [Int.tmod_eq_emod_of_nonneg (by omega)]
  exact (Int.natCast_emod n q).symm
theorem listC {m : Mem} (p : Option Addr) (c : Nat) (l : List Ev) (n : Nat) (hn : l.length = n) (q : Option Addr) (d : Nat) (l2 : List Ev) (n2 : Nat) (hn2 : l2.length = n2) (w : Bool) (hl : l.length ≤ 1000000) (hl2 : l2.length ≤ 1000000)
    (h : decide (l = l2) = w) (sl0 : Sl m Ev.cells 4 p c l) (sl1 : Sl m Ev.cells 4 q d l2) :
    Rd Tryz.prog 10 #[.slice p n c, .slice q n2 d] m [] (.bool w) := by
  subst hn hn2
  rw [← h]
  exact Mrg.same p c l q d l2 hl hl2 sl0 sl1
set_option maxRecDepth 100000 in
theorem moreL {m : Mem} (K : Cfg) (p : Option Addr) (c : Nat) (l : List Ev) (M : M4) (hM : M.In) (k i j : Int) (hi : -9223372036854775808 ≤ i ∧ i ≤ 9223372036854775807) (hV : ∀ e ∈ l, e.V < 18446744073709551616) (sl0 : Sl m Ev.cells 4 p c l) :
    Ct Tryz.prog 4 #[K.v, .slice p l.length c, M.v, .int .i64 k, .int .i64 i, .int .i64 j] m [] (fun v m' B => v = .bool true ∧ B = []) := by
  have hlv := fun (m' : Mem) (h : m.le m') => begins8 (m := m')
  have r1 := rem_n M.a 16 (by decide)
  have r2 := rem_n M.b 16 (by decide)
  have r3 := rem_n M.c 16 (by decide)
  have r4 := rem_n M.d 32 (by decide)
  have hb1 : M.a % 16 < 16 := Nat.mod_lt _ (by decide)
  have hb2 : M.b % 16 < 16 := Nat.mod_lt _ (by decide)
  have hb3 : M.c % 16 < 16 := Nat.mod_lt _ (by decide)
  have hb4 : M.d % 32 < 32 := Nat.mod_lt _ (by decide)
  generalize M.a % 16 = n1 at *
  generalize M.b % 16 = n2 at *
  generalize M.c % 16 = n3 at *
  generalize M.d % 32 = n4 at *
  obtain ⟨r', hr'⟩ : ∃ r', IntKind.wrap .i64 (K.r + (n4 : Int)) = r' := ⟨_, rfl⟩
  obtain ⟨x', hx'⟩ : ∃ r', IntKind.wrap .i64 (K.x + (n1 : Int)) = r' := ⟨_, rfl⟩
  obtain ⟨y', hy'⟩ : ∃ r', IntKind.wrap .i64 (K.y + (n2 : Int)) = r' := ⟨_, rfl⟩
  obtain ⟨w', hw'⟩ : ∃ r', IntKind.wrap .i64 (K.w + (n3 : Int)) = r' := ⟨_, rfl⟩
  refine Ct.enterV (by rfl) Tryz.func4 rfl Tryz.ntmps4 rfl (fun w0 Rest => ?_)
  (repeat' (first | refine zss ?_ | ((first | (with_reducible first | apply At.val | apply AtQ.val)); (first | exact pr_indexArr (k := 3) (by rfl) (by rfl) (by rfl) (by rfl) (by decide) | exact pr_rem (by rfl) (by rfl) (by decide) r4 | exact pr_add (by rfl) (by rfl) hr'); exact rfl) | refine zsM ?_ | ((with_reducible first | apply AtM1.cr | apply AtQ.cr | apply At.cr); exact rfl; exact rfl; exact fun _ hmm => hlv _ zml; exact ztk; kernel_rfl) | ((with_reducible apply At.box (d := 6)); exact rfl; exact rfl; exact rfl; intro b6) | ((with_reducible apply At.box (d := 8)); exact rfl; exact rfl; exact rfl; intro b8) | ((with_reducible apply At.alloc (d := 13)); exact rfl; exact rfl; intro b13) | ((with_reducible apply At.alloc (d := 15)); exact rfl; exact rfl; intro b15) | ((with_reducible apply At.alloc (d := 17)); exact rfl; exact rfl; intro b17) | ((with_reducible apply At.alloc (d := 19)); exact rfl; exact rfl; intro b19) | ((with_reducible apply At.alloc (d := 21)); exact rfl; exact rfl; intro b21) | (refine zsp ?_ ?_ <;> (intro hc; (try simp only [zhcs, reduceCtorEq] at hc); (try (exfalso; first | (first | omega | exact absurd rfl hc | exact absurd hc (by decide)) | contradiction | omega | exact absurd rfl hc | exact absurd (by decide) hc))))))
  (refine At.loopk (σ := Nat) [1, 3, 4, 5, 6, 8, 13] (fun s F0 => (36, .int .i64 (s : Int)) :: F0) (fun s => m) (fun s => .blk b13 25 (Dk K r' x' y' w' s).cells :: .blk b8 51 M.cells :: .blk b6 25 K.cells :: Rest) (fun s => s ≤ 3) (fun s => 3 - s) 0 (by rfl) ?_ zsubs zml zente ?_)
  · exact Nat.zero_le _
  rintro s hs
  rcases (show s = 0 ∨ s = 1 ∨ s = 2 ∨ s = 3 by omega) with rfl | rfl | rfl | rfl
  · clear hlv
    dsimp only [Dk]
    (repeat' (first | ((with_reducible apply At.mixed (id := 9) 13 (.q 0 (.q 1 (.q 2 (.q 3 (.q 4 (.q 5 (.q 6 (.q 7 (.q 8 (.q 9 (.q 10 (.q 11 (.x 12 .done)))))))))))))); exact rfl; kernel_rfl; kernel_rfl; kernel_rfl) | refine zsx ?_ | refine zss ?_ | ((with_reducible apply AtM.bo); exact rfl; exact rfl; exact rfl) | ((first | (with_reducible first | apply At.val | apply AtQ.val) | ((with_reducible first | apply AtM1.valz | apply AtM1.val); exact rfl) | ((with_reducible apply AtM1.val); exact rfl)); (first | exact pr_indexArr (k := 0) (by rfl) (by rfl) (by rfl) (by rfl) (by decide) | exact pr_rem (by rfl) (by rfl) (by decide) r1 | exact pr_add (by rfl) (by rfl) hx'); exact rfl) | refine zsM ?_ | refine zxM ?_ | ((with_reducible apply At.box (d := 6)); exact rfl; exact rfl; exact rfl; intro b6) | ((with_reducible apply At.box (d := 8)); exact rfl; exact rfl; exact rfl; intro b8) | ((with_reducible apply At.alloc (d := 13)); exact rfl; exact rfl; intro b13) | ((with_reducible apply At.alloc (d := 15)); exact rfl; exact rfl; intro b15) | ((with_reducible apply At.alloc (d := 17)); exact rfl; exact rfl; intro b17) | ((with_reducible apply At.alloc (d := 19)); exact rfl; exact rfl; intro b19) | ((with_reducible apply At.alloc (d := 21)); exact rfl; exact rfl; intro b21) | (refine zsp ?_ ?_ <;> (intro hc; (try simp only [zhcs, reduceCtorEq] at hc); (try (exfalso; first | omega | contradiction | omega | exact absurd rfl hc | exact absurd (by decide) hc))))))
    all_goals ((with_reducible refine At.reachk (1) ?_ ?_ ?_ ?_); exact zsubs; exact zml; exact zente; exact ⟨by decide, by decide⟩)
  · clear hlv
    dsimp only [Dk]
    (repeat' (first | ((with_reducible apply At.mixed (id := 9) 13 (.q 0 (.q 1 (.q 2 (.q 3 (.q 4 (.q 5 (.q 6 (.q 7 (.q 8 (.q 9 (.q 10 (.q 11 (.x 12 .done)))))))))))))); exact rfl; kernel_rfl; kernel_rfl; kernel_rfl) | refine zsx ?_ | refine zss ?_ | ((with_reducible apply AtM.bo); exact rfl; exact rfl; exact rfl) | ((first | (with_reducible first | apply At.val | apply AtQ.val) | ((with_reducible first | apply AtM1.valz | apply AtM1.val); exact rfl) | ((with_reducible apply AtM1.val); exact rfl)); (first | exact pr_indexArr (k := 1) (by rfl) (by rfl) (by rfl) (by rfl) (by decide) | exact pr_rem (by rfl) (by rfl) (by decide) r2 | exact pr_add (by rfl) (by rfl) hy'); exact rfl) | refine zsM ?_ | refine zxM ?_ | ((with_reducible apply At.box (d := 6)); exact rfl; exact rfl; exact rfl; intro b6) | ((with_reducible apply At.box (d := 8)); exact rfl; exact rfl; exact rfl; intro b8) | ((with_reducible apply At.alloc (d := 13)); exact rfl; exact rfl; intro b13) | ((with_reducible apply At.alloc (d := 15)); exact rfl; exact rfl; intro b15) | ((with_reducible apply At.alloc (d := 17)); exact rfl; exact rfl; intro b17) | ((with_reducible apply At.alloc (d := 19)); exact rfl; exact rfl; intro b19) | ((with_reducible apply At.alloc (d := 21)); exact rfl; exact rfl; intro b21) | (refine zsp ?_ ?_ <;> (intro hc; (try simp only [zhcs, reduceCtorEq] at hc); (try (exfalso; first | omega | contradiction | omega | exact absurd rfl hc | exact absurd (by decide) hc))))))
    all_goals ((with_reducible refine At.reachk (2) ?_ ?_ ?_ ?_); exact zsubs; exact zml; exact zente; exact ⟨by decide, by decide⟩)
  · clear hlv
    dsimp only [Dk]
    (repeat' (first | ((with_reducible apply At.mixed (id := 9) 13 (.q 0 (.q 1 (.q 2 (.q 3 (.q 4 (.q 5 (.q 6 (.q 7 (.q 8 (.q 9 (.q 10 (.q 11 (.x 12 .done)))))))))))))); exact rfl; kernel_rfl; kernel_rfl; kernel_rfl) | refine zsx ?_ | refine zss ?_ | ((with_reducible apply AtM.bo); exact rfl; exact rfl; exact rfl) | ((first | (with_reducible first | apply At.val | apply AtQ.val) | ((with_reducible first | apply AtM1.valz | apply AtM1.val); exact rfl) | ((with_reducible apply AtM1.val); exact rfl)); (first | exact pr_indexArr (k := 2) (by rfl) (by rfl) (by rfl) (by rfl) (by decide) | exact pr_rem (by rfl) (by rfl) (by decide) r3 | exact pr_add (by rfl) (by rfl) hw'); exact rfl) | refine zsM ?_ | refine zxM ?_ | ((with_reducible apply At.box (d := 6)); exact rfl; exact rfl; exact rfl; intro b6) | ((with_reducible apply At.box (d := 8)); exact rfl; exact rfl; exact rfl; intro b8) | ((with_reducible apply At.alloc (d := 13)); exact rfl; exact rfl; intro b13) | ((with_reducible apply At.alloc (d := 15)); exact rfl; exact rfl; intro b15) | ((with_reducible apply At.alloc (d := 17)); exact rfl; exact rfl; intro b17) | ((with_reducible apply At.alloc (d := 19)); exact rfl; exact rfl; intro b19) | ((with_reducible apply At.alloc (d := 21)); exact rfl; exact rfl; intro b21) | (refine zsp ?_ ?_ <;> (intro hc; (try simp only [zhcs, reduceCtorEq] at hc); (try (exfalso; first | omega | contradiction | omega | exact absurd rfl hc | exact absurd (by decide) hc))))))
    all_goals ((with_reducible refine At.reachk (3) ?_ ?_ ?_ ?_); exact zsubs; exact zml; exact zente; exact ⟨by decide, by decide⟩)
  dsimp only [Dk]
  have kf1 := fun (m' : Mem) (h : m.le m') => fits8 (m := m') K p c l hV (sl0.mono h)
  have kf2 := fun (m' : Mem) (h : m.le m') => fits8 (m := m') ⟨r', K.a, K.b, K.d, x', y', w', K.c, 8192⟩ p c l hV (sl0.mono h)
  clear hlv
  by_cases h1 : ft K l
  rotate_left
  · rw [decide_eq_false h1] at kf1
    clear kf2
    (repeat' (first | refine zss ?_ | refine zsM ?_ | ((with_reducible first | apply AtM1.cr | apply AtQ.cr | apply At.cr); exact rfl; exact rfl; exact fun _ hmm => kf1 _ hmm; exact ztk; kernel_rfl) | ((with_reducible apply At.box (d := 6)); exact rfl; exact rfl; exact rfl; intro b6) | ((with_reducible apply At.box (d := 8)); exact rfl; exact rfl; exact rfl; intro b8) | ((with_reducible apply At.alloc (d := 13)); exact rfl; exact rfl; intro b13) | ((with_reducible apply At.alloc (d := 15)); exact rfl; exact rfl; intro b15) | ((with_reducible apply At.alloc (d := 17)); exact rfl; exact rfl; intro b17) | ((with_reducible apply At.alloc (d := 19)); exact rfl; exact rfl; intro b19) | ((with_reducible apply At.alloc (d := 21)); exact rfl; exact rfl; intro b21) | (refine zsp ?_ ?_ <;> (intro hc; (try simp only [zhcs, reduceCtorEq] at hc); (try (exfalso; first | (first | omega | exact absurd rfl hc) | contradiction | omega | exact absurd rfl hc | exact absurd (by decide) hc))))))
    all_goals ((with_reducible apply At.retB1 (B := [])); exact rfl; exact rfl; exact zml; exact zkp; exact ⟨rfl, rfl⟩)
  rw [decide_eq_true h1] at kf1
  by_cases h2 : ft ⟨r', K.a, K.b, K.d, x', y', w', K.c, 8192⟩ l
  rotate_left
  · rw [decide_eq_false h2] at kf2
    (repeat' (first | refine zss ?_ | refine zsM ?_ | ((with_reducible first | apply AtM1.cr | apply AtQ.cr | apply At.cr); exact rfl; exact rfl; exact fun _ hmm => kf1 _ hmm; exact ztk; kernel_rfl) | ((with_reducible first | apply AtM1.cr | apply AtQ.cr | apply At.cr); exact rfl; exact rfl; exact fun _ hmm => kf2 _ hmm; exact ztk; kernel_rfl) | ((with_reducible apply At.box (d := 6)); exact rfl; exact rfl; exact rfl; intro b6) | ((with_reducible apply At.box (d := 8)); exact rfl; exact rfl; exact rfl; intro b8) | ((with_reducible apply At.alloc (d := 13)); exact rfl; exact rfl; intro b13) | ((with_reducible apply At.alloc (d := 15)); exact rfl; exact rfl; intro b15) | ((with_reducible apply At.alloc (d := 17)); exact rfl; exact rfl; intro b17) | ((with_reducible apply At.alloc (d := 19)); exact rfl; exact rfl; intro b19) | ((with_reducible apply At.alloc (d := 21)); exact rfl; exact rfl; intro b21) | (refine zsp ?_ ?_ <;> (intro hc; (try simp only [zhcs, reduceCtorEq] at hc); (try (exfalso; first | (first | omega | exact absurd rfl hc) | contradiction | omega | exact absurd rfl hc | exact absurd (by decide) hc))))))
    all_goals ((with_reducible apply At.retB1 (B := [])); exact rfl; exact rfl; exact zml; exact zkp; exact ⟨rfl, rfl⟩)
  rw [decide_eq_true h2] at kf2
  by_cases h3 : (0 ≤ k ∧ k ≤ 2) ∧ l.length ≠ 0
  rotate_left
  · have hln : l.length ≤ 60 := h1.2.2.1
    (repeat' (first | (refine At.cutp (id := 11) (True) 74 [1, 3, 4, 5, 6, 13] (by rfl) ?_ ?_) | refine zss ?_ | refine zsM ?_ | ((with_reducible first | apply AtM1.cr | apply AtQ.cr | apply At.cr); exact rfl; exact rfl; exact fun _ hmm => kf1 _ hmm; exact ztk; kernel_rfl) | ((with_reducible first | apply AtM1.cr | apply AtQ.cr | apply At.cr); exact rfl; exact rfl; exact fun _ hmm => kf2 _ hmm; exact ztk; kernel_rfl) | ((with_reducible apply At.endp); exact rfl; exact zsubs; exact zml; exact zente; (first | (simp_all; done) | (simp_all <;> omega))) | ((with_reducible apply At.box (d := 6)); exact rfl; exact rfl; exact rfl; intro b6) | ((with_reducible apply At.box (d := 8)); exact rfl; exact rfl; exact rfl; intro b8) | ((with_reducible apply At.alloc (d := 13)); exact rfl; exact rfl; intro b13) | ((with_reducible apply At.alloc (d := 15)); exact rfl; exact rfl; intro b15) | ((with_reducible apply At.alloc (d := 17)); exact rfl; exact rfl; intro b17) | ((with_reducible apply At.alloc (d := 19)); exact rfl; exact rfl; intro b19) | ((with_reducible apply At.alloc (d := 21)); exact rfl; exact rfl; intro b21) | (refine zsp ?_ ?_ <;> (intro hc; (try simp only [zhcs, reduceCtorEq] at hc); (try (exfalso; first | (first | omega | exact absurd trivial hc | exact absurd rfl hc) | contradiction | omega | exact absurd rfl hc | exact absurd (by decide) hc))))))
    all_goals ((with_reducible apply At.retB1 (B := [])); exact rfl; exact rfl; exact zml; exact zkp; exact ⟨rfl, rfl⟩)
  obtain ⟨h3, h4⟩ := h3
  have hln : l.length ≤ 60 := h1.2.2.1
  have hne : l ≠ [] := fun h => h4 (by rw [h]; rfl)
  have hG : Gr.Good l := by
    obtain ⟨g1, g2⟩ := Mrg.chk_zero.1 h1.2.2.2
    exact ⟨fun e he => ⟨g1 e he, hV e he⟩, g2⟩
  have kp1 := fun (m' : Mem) (h : m.le m') => put8 (m := m') K p c l h1.1 hG (by omega) (sl0.mono h)
  have kp2 := fun (m' : Mem) (h : m.le m') => put8 (m := m') ⟨r', K.a, K.b, K.d, x', y', w', K.c, 8192⟩ p c l h2.1 hG (by omega) (sl0.mono h)
  have hK1 := h1.1.hx
  have hK2 := h1.1.hy
  have hK3 := h1.1.hw
  have hK4 := h1.1.hr
  rw [IntWalk.i64_in _ (by omega)] at hx' hy' hw' hr'
  clear hV
  (repeat' (first | (refine At.cutp (id := 15) (False) 106 [3, 4, 5, 6, 13, 15, 17] (by rfl) ?_ ?_) | refine zss ?_ | ((first | (with_reducible first | apply At.val | apply AtQ.val)); (exact Ti.pr_slne (a := x.op) (b := y.op) (by rfl) (by rfl)); exact rfl) | refine zsM ?_ | ((with_reducible first | apply AtM1.cr | apply AtQ.cr | apply At.cr); exact rfl; exact rfl; exact fun _ hmm => kf1 _ hmm; exact ztk; kernel_rfl) | ((with_reducible first | apply AtM1.cr | apply AtQ.cr | apply At.cr); exact rfl; exact rfl; exact fun _ hmm => kf2 _ hmm; exact ztk; kernel_rfl) | ((with_reducible first | apply At.c1 | apply At.c0); exact rfl; exact rfl; exact kp1 _ zml; exact ztk; kernel_rfl; rintro v' m' B' hm' ⟨rfl, x, rfl, hx9, hI, -⟩; (try replace sl0 := sl0.mono hm'); (try replace sl5 := sl5.mono hm'); (try (have hq0 : hm' = Mem.le_refl _ := rfl; clear hq0 hm'))) | ((with_reducible first | apply At.c1 | apply At.c0); exact rfl; exact rfl; exact kp2 _ zml; exact ztk; kernel_rfl; rintro v' m' B' hm' ⟨rfl, y, rfl, hy9, hJ, -⟩; (try replace sl0 := sl0.mono hm'); (try replace sl5 := sl5.mono hm'); (try (have hq0 : hm' = Mem.le_refl _ := rfl; clear hq0 hm'))) | ((with_reducible apply At.endp); exact rfl; exact zsubs; exact zml; exact zente; (first | (have e1 := hI.last.trans hJ.last.symm; have e2 := (hI.inv.open_ hne).1.trans (hJ.inv.open_ hne).1.symm; simp_all; done) | (simp_all <;> omega))) | ((with_reducible apply At.box (d := 6)); exact rfl; exact rfl; exact rfl; intro b6) | ((with_reducible apply At.box (d := 8)); exact rfl; exact rfl; exact rfl; intro b8) | ((with_reducible apply At.alloc (d := 13)); exact rfl; exact rfl; intro b13) | ((with_reducible apply At.alloc (d := 15)); exact rfl; exact rfl; intro b15) | ((with_reducible apply At.alloc (d := 17)); exact rfl; exact rfl; intro b17) | ((with_reducible apply At.alloc (d := 19)); exact rfl; exact rfl; intro b19) | ((with_reducible apply At.alloc (d := 21)); exact rfl; exact rfl; intro b21) | (refine zsp ?_ ?_ <;> (intro hc; (try simp only [zhcs, reduceCtorEq] at hc); (try (exfalso; first | (first | omega | exact absurd rfl hc | exact hc) | contradiction | omega | exact absurd rfl hc | exact absurd (by decide) hc))))))
  replace hx9 := hx9.mono (show Mem.le _ m' from zml)
  have n1e := hI.raw.n
  have n2e := hJ.raw.n
  have n1l := hI.raw.le
  have n2l := hJ.raw.le
  have hnn : x.raw.l.length ≤ y.raw.l.length := by dsimp only at n2e; omega
  have hs3 : IntKind.wrap .i64 ((y.raw.l.length : Int) - (x.raw.l.length : Int)) = ((y.raw.l.length - x.raw.l.length : Nat) : Int) := by
    rw [IntWalk.i64_in _ (by omega)]; omega
  have hls : decide (x.raw.l = (y.raw.l.take y.raw.l.length).drop (y.raw.l.length - x.raw.l.length)) = true := by
    refine decide_eq_true ?_
    have d1 := hI.raw.dr
    have d2 := hJ.raw.dr
    rw [List.take_length]
    conv => rhs; arg 2; rw [d2]
    conv => lhs; rw [d1]
    rw [List.drop_drop]
    congr 1
    omega
  have ksm := fun (m2 : Mem) (h : m'.le m2) => listC (m := m2) x.raw.p x.raw.c x.raw.l x.raw.l.length rfl (subp y.raw.p y.raw.c (y.raw.l.length - x.raw.l.length) 4) (y.raw.c - (y.raw.l.length - x.raw.l.length)) _ (y.raw.l.length - (y.raw.l.length - x.raw.l.length)) (by rw [List.length_drop, List.length_take]; omega) true (by omega) (by rw [List.length_drop, List.length_take]; omega) hls (hx9.sr.mono h) ((hy9.sr.mono h).sub (by omega) (Nat.le_refl _))
  clear hls n1e n2e n1l n2l
  rcases (show k = 0 ∨ k = 1 ∨ k = 2 by omega) with rfl | rfl | rfl
  · have hW := h1.1.ha
    have hN := h1.1.hx
    obtain ⟨hl1, hl2, hl3⟩ := hI.pos hne
    have hq : IntKind.wrap .i64 (x.last.tdiv K.a) = x.last / K.a := quo_nn (by omega) hW.1
    have g1 := Int.ediv_nonneg hl2 (show 0 ≤ K.a by omega)
    have g2 := Int.ediv_le_self K.a hl2
    have hs1 : IntKind.wrap .i64 (x.last / K.a - K.x) = x.last / K.a - K.x := IntWalk.i64_in _ (by omega)
    have hs2 : IntKind.wrap .i64 (x.last / K.a - K.x + 1) = x.last / K.a - K.x + 1 := IntWalk.i64_in _ (by omega)
    have hW0 : K.a ≠ 0 := by omega
    obtain ⟨i1, hi1⟩ : ∃ i1, (if (if i < x.last / K.a - K.x + 1 then x.last / K.a - K.x + 1 else i) < 0 then 0 else if i < x.last / K.a - K.x + 1 then x.last / K.a - K.x + 1 else i) = i1 := ⟨_, rfl⟩
    have hi2 : 0 ≤ i1 ∧ x.last / K.a - K.x < i1 := by
      subst hi1
      split <;> split <;> omega
    have pm : ∀ {n : Nat} {F : Fr} {C : World → Prop} {x1 y1 u1 : Operand} {ts : Array TypeId}, ev F x1 = some (.int .i64 i) → ev F y1 = some (.int .i64 (x.last / K.a - K.x + 1)) → ev F u1 = some (.int .i64 0) → PR Tryz.prog n F C (.call ⟨.builtin .max, #[x1, y1, u1], ts⟩) (.int .i64 i1) := fun a1 a2 a3 => hi1 ▸ pr_max3 a1 a2 a3
    by_cases hji : j < i1
    · clear h1 h2 hI hJ hx9 hy9 sl0 kp1 kp2 kf1 kf2 hi1
      generalize x.last / K.a = A at *
      (repeat' (first | refine zss ?_ | ((first | (with_reducible first | apply At.val | apply AtQ.val)); (first | exact pm (by rfl) (by rfl) (by rfl) | exact pr_indexArr (k := 0) (by rfl) (by rfl) (by rfl) (by rfl) (by decide) | exact pr_quo (by rfl) (by rfl) hW0 hq | exact pr_sub (by rfl) (by rfl) hs1 | exact pr_add (by rfl) (by rfl) hs2); exact rfl) | refine zsM ?_ | ((with_reducible apply At.box (d := 6)); exact rfl; exact rfl; exact rfl; intro b6) | ((with_reducible apply At.box (d := 8)); exact rfl; exact rfl; exact rfl; intro b8) | ((with_reducible apply At.alloc (d := 13)); exact rfl; exact rfl; intro b13) | ((with_reducible apply At.alloc (d := 15)); exact rfl; exact rfl; intro b15) | ((with_reducible apply At.alloc (d := 17)); exact rfl; exact rfl; intro b17) | ((with_reducible apply At.alloc (d := 19)); exact rfl; exact rfl; intro b19) | ((with_reducible apply At.alloc (d := 21)); exact rfl; exact rfl; intro b21) | (refine zsp ?_ ?_ <;> (intro hc; (try simp only [zhcs, reduceCtorEq] at hc); (try (exfalso; first | omega | contradiction | omega | exact absurd rfl hc | exact absurd (by decide) hc))))))
      all_goals ((with_reducible apply At.retB1 (B := [])); exact rfl; exact rfl; exact zml; exact zkp; exact ⟨rfl, rfl⟩)
    have kr1 := fun (m2 : Mem) (h : m'.le m2) => range0 (m := m2) K x l i1 j hI (hx9.mono h) hi2.1 (by omega)
    have kr2 := fun (m2 : Mem) (h : m'.le m2) => range0 (m := m2) ⟨r', K.a, K.b, K.d, x', y', w', K.c, 8192⟩ y l i1 j hJ (hy9.mono h) hi2.1 (by omega)
    have e1 : rg K l 0 i1 j = cel (l.filter fun e => decide (i1 ≤ e.T / K.a ∧ e.T / K.a < j)) := congrArg cel (sel_kept (w := K.a) (n := K.x) (by rw [← hl1]; exact hi2.2))
    have e2 : rg ⟨r', K.a, K.b, K.d, x', y', w', K.c, 8192⟩ l 0 i1 j = cel (l.filter fun e => decide (i1 ≤ e.T / K.a ∧ e.T / K.a < j)) := congrArg cel (sel_kept (w := K.a) (n := x') (show lastT l / K.a - x' < i1 by rw [← hl1]; omega))
    rw [e1] at kr1
    rw [e2] at kr2
    have sl5 := hy9.sr
    clear h1 h2 hI hJ sl0 kp1 kp2 kf1 kf2 hi1 e1 e2 hx9 hy9
    generalize cel (l.filter fun e => decide (i1 ≤ e.T / K.a ∧ e.T / K.a < j)) = C1 at *
    generalize x.last / K.a = A at *
    (repeat' (first | refine zss ?_ | ((first | (with_reducible first | apply At.val | apply AtQ.val)); (first | exact pm (by rfl) (by rfl) (by rfl) | exact pr_indexArr (k := 0) (by rfl) (by rfl) (by rfl) (by rfl) (by decide) | exact pr_quo (by rfl) (by rfl) hW0 hq | exact pr_sub (by rfl) (by rfl) hs1 | exact pr_sub (by rfl) (by rfl) hs3 | exact pr_add (by rfl) (by rfl) hs2 | exact Cell.pr_ceq (a := C1) (b := C1) (by rfl) (by rfl)); exact rfl) | refine zsM ?_ | ((with_reducible first | apply AtM1.cr | apply AtQ.cr | apply At.cr); exact rfl; exact rfl; exact fun _ hmm => kr1 _ zml; exact ztk; kernel_rfl) | ((with_reducible first | apply AtM1.cr | apply AtQ.cr | apply At.cr); exact rfl; exact rfl; exact fun _ hmm => kr2 _ zml; exact ztk; kernel_rfl) | ((with_reducible first | apply AtM1.cr | apply AtQ.cr | apply At.cr); exact rfl; exact rfl; exact fun _ hmm => ksm _ zml; exact ztk; kernel_rfl) | fail | ((with_reducible apply At.box (d := 6)); exact rfl; exact rfl; exact rfl; intro b6) | ((with_reducible apply At.box (d := 8)); exact rfl; exact rfl; exact rfl; intro b8) | ((with_reducible apply At.alloc (d := 13)); exact rfl; exact rfl; intro b13) | ((with_reducible apply At.alloc (d := 15)); exact rfl; exact rfl; intro b15) | ((with_reducible apply At.alloc (d := 17)); exact rfl; exact rfl; intro b17) | ((with_reducible apply At.alloc (d := 19)); exact rfl; exact rfl; intro b19) | ((with_reducible apply At.alloc (d := 21)); exact rfl; exact rfl; intro b21) | (refine zsp ?_ ?_ <;> (intro hc; (try simp only [zhcs, reduceCtorEq] at hc); (try (exfalso; first | omega | contradiction | omega | exact absurd rfl hc | exact absurd (by decide) hc))))))
    all_goals ((with_reducible apply At.retB1 (B := [])); exact rfl; exact rfl; exact zml; exact zkp; exact ⟨by first | rfl | (simp; done), rfl⟩)
  · have hW := h1.1.hb
    have hN := h1.1.hy
    obtain ⟨hl1, hl2, hl3⟩ := hI.pos hne
    have hq : IntKind.wrap .i64 (x.last.tdiv K.b) = x.last / K.b := quo_nn (by omega) hW.1
    have g1 := Int.ediv_nonneg hl2 (show 0 ≤ K.b by omega)
    have g2 := Int.ediv_le_self K.b hl2
    have hs1 : IntKind.wrap .i64 (x.last / K.b - K.y) = x.last / K.b - K.y := IntWalk.i64_in _ (by omega)
    have hs2 : IntKind.wrap .i64 (x.last / K.b - K.y + 1) = x.last / K.b - K.y + 1 := IntWalk.i64_in _ (by omega)
    have hW0 : K.b ≠ 0 := by omega
    obtain ⟨i1, hi1⟩ : ∃ i1, (if (if i < x.last / K.b - K.y + 1 then x.last / K.b - K.y + 1 else i) < 0 then 0 else if i < x.last / K.b - K.y + 1 then x.last / K.b - K.y + 1 else i) = i1 := ⟨_, rfl⟩
    have hi2 : 0 ≤ i1 ∧ x.last / K.b - K.y < i1 := by
      subst hi1
      split <;> split <;> omega
    have pm : ∀ {n : Nat} {F : Fr} {C : World → Prop} {x1 y1 u1 : Operand} {ts : Array TypeId}, ev F x1 = some (.int .i64 i) → ev F y1 = some (.int .i64 (x.last / K.b - K.y + 1)) → ev F u1 = some (.int .i64 0) → PR Tryz.prog n F C (.call ⟨.builtin .max, #[x1, y1, u1], ts⟩) (.int .i64 i1) := fun a1 a2 a3 => hi1 ▸ pr_max3 a1 a2 a3
    by_cases hji : j < i1
    · clear h1 h2 hI hJ hx9 hy9 sl0 kp1 kp2 kf1 kf2 hi1
      generalize x.last / K.b = A at *
      (repeat' (first | refine zss ?_ | ((first | (with_reducible first | apply At.val | apply AtQ.val)); (first | exact pm (by rfl) (by rfl) (by rfl) | exact pr_indexArr (k := 1) (by rfl) (by rfl) (by rfl) (by rfl) (by decide) | exact pr_quo (by rfl) (by rfl) hW0 hq | exact pr_sub (by rfl) (by rfl) hs1 | exact pr_add (by rfl) (by rfl) hs2); exact rfl) | refine zsM ?_ | ((with_reducible apply At.box (d := 6)); exact rfl; exact rfl; exact rfl; intro b6) | ((with_reducible apply At.box (d := 8)); exact rfl; exact rfl; exact rfl; intro b8) | ((with_reducible apply At.alloc (d := 13)); exact rfl; exact rfl; intro b13) | ((with_reducible apply At.alloc (d := 15)); exact rfl; exact rfl; intro b15) | ((with_reducible apply At.alloc (d := 17)); exact rfl; exact rfl; intro b17) | ((with_reducible apply At.alloc (d := 19)); exact rfl; exact rfl; intro b19) | ((with_reducible apply At.alloc (d := 21)); exact rfl; exact rfl; intro b21) | (refine zsp ?_ ?_ <;> (intro hc; (try simp only [zhcs, reduceCtorEq] at hc); (try (exfalso; first | omega | contradiction | omega | exact absurd rfl hc | exact absurd (by decide) hc))))))
      all_goals ((with_reducible apply At.retB1 (B := [])); exact rfl; exact rfl; exact zml; exact zkp; exact ⟨rfl, rfl⟩)
    have kr1 := fun (m2 : Mem) (h : m'.le m2) => range1 (m := m2) K x l i1 j hI (hx9.mono h) hi2.1 (by omega)
    have kr2 := fun (m2 : Mem) (h : m'.le m2) => range1 (m := m2) ⟨r', K.a, K.b, K.d, x', y', w', K.c, 8192⟩ y l i1 j hJ (hy9.mono h) hi2.1 (by omega)
    have e1 : rg K l 1 i1 j = cel (l.filter fun e => decide (i1 ≤ e.T / K.b ∧ e.T / K.b < j)) := congrArg cel (sel_kept (w := K.b) (n := K.y) (by rw [← hl1]; exact hi2.2))
    have e2 : rg ⟨r', K.a, K.b, K.d, x', y', w', K.c, 8192⟩ l 1 i1 j = cel (l.filter fun e => decide (i1 ≤ e.T / K.b ∧ e.T / K.b < j)) := congrArg cel (sel_kept (w := K.b) (n := y') (show lastT l / K.b - y' < i1 by rw [← hl1]; omega))
    rw [e1] at kr1
    rw [e2] at kr2
    have sl5 := hy9.sr
    clear h1 h2 hI hJ sl0 kp1 kp2 kf1 kf2 hi1 e1 e2 hx9 hy9
    generalize cel (l.filter fun e => decide (i1 ≤ e.T / K.b ∧ e.T / K.b < j)) = C1 at *
    generalize x.last / K.b = A at *
    (repeat' (first | refine zss ?_ | ((first | (with_reducible first | apply At.val | apply AtQ.val)); (first | exact pm (by rfl) (by rfl) (by rfl) | exact pr_indexArr (k := 1) (by rfl) (by rfl) (by rfl) (by rfl) (by decide) | exact pr_quo (by rfl) (by rfl) hW0 hq | exact pr_sub (by rfl) (by rfl) hs1 | exact pr_sub (by rfl) (by rfl) hs3 | exact pr_add (by rfl) (by rfl) hs2 | exact Cell.pr_ceq (a := C1) (b := C1) (by rfl) (by rfl)); exact rfl) | refine zsM ?_ | ((with_reducible first | apply AtM1.cr | apply AtQ.cr | apply At.cr); exact rfl; exact rfl; exact fun _ hmm => kr1 _ zml; exact ztk; kernel_rfl) | ((with_reducible first | apply AtM1.cr | apply AtQ.cr | apply At.cr); exact rfl; exact rfl; exact fun _ hmm => kr2 _ zml; exact ztk; kernel_rfl) | ((with_reducible first | apply AtM1.cr | apply AtQ.cr | apply At.cr); exact rfl; exact rfl; exact fun _ hmm => ksm _ zml; exact ztk; kernel_rfl) | fail | ((with_reducible apply At.box (d := 6)); exact rfl; exact rfl; exact rfl; intro b6) | ((with_reducible apply At.box (d := 8)); exact rfl; exact rfl; exact rfl; intro b8) | ((with_reducible apply At.alloc (d := 13)); exact rfl; exact rfl; intro b13) | ((with_reducible apply At.alloc (d := 15)); exact rfl; exact rfl; intro b15) | ((with_reducible apply At.alloc (d := 17)); exact rfl; exact rfl; intro b17) | ((with_reducible apply At.alloc (d := 19)); exact rfl; exact rfl; intro b19) | ((with_reducible apply At.alloc (d := 21)); exact rfl; exact rfl; intro b21) | (refine zsp ?_ ?_ <;> (intro hc; (try simp only [zhcs, reduceCtorEq] at hc); (try (exfalso; first | omega | contradiction | omega | exact absurd rfl hc | exact absurd (by decide) hc))))))
    all_goals ((with_reducible apply At.retB1 (B := [])); exact rfl; exact rfl; exact zml; exact zkp; exact ⟨by first | rfl | (simp; done), rfl⟩)
  · have hW := h1.1.hd
    have hN := h1.1.hw
    obtain ⟨hl1, hl2, hl3⟩ := hI.pos hne
    have hq : IntKind.wrap .i64 (x.last.tdiv K.d) = x.last / K.d := quo_nn (by omega) hW.1
    have g1 := Int.ediv_nonneg hl2 (show 0 ≤ K.d by omega)
    have g2 := Int.ediv_le_self K.d hl2
    have hs1 : IntKind.wrap .i64 (x.last / K.d - K.w) = x.last / K.d - K.w := IntWalk.i64_in _ (by omega)
    have hs2 : IntKind.wrap .i64 (x.last / K.d - K.w + 1) = x.last / K.d - K.w + 1 := IntWalk.i64_in _ (by omega)
    have hW0 : K.d ≠ 0 := by omega
    obtain ⟨i1, hi1⟩ : ∃ i1, (if (if i < x.last / K.d - K.w + 1 then x.last / K.d - K.w + 1 else i) < 0 then 0 else if i < x.last / K.d - K.w + 1 then x.last / K.d - K.w + 1 else i) = i1 := ⟨_, rfl⟩
    have hi2 : 0 ≤ i1 ∧ x.last / K.d - K.w < i1 := by
      subst hi1
      split <;> split <;> omega
    have pm : ∀ {n : Nat} {F : Fr} {C : World → Prop} {x1 y1 u1 : Operand} {ts : Array TypeId}, ev F x1 = some (.int .i64 i) → ev F y1 = some (.int .i64 (x.last / K.d - K.w + 1)) → ev F u1 = some (.int .i64 0) → PR Tryz.prog n F C (.call ⟨.builtin .max, #[x1, y1, u1], ts⟩) (.int .i64 i1) := fun a1 a2 a3 => hi1 ▸ pr_max3 a1 a2 a3
    by_cases hji : j < i1
    · clear h1 h2 hI hJ hx9 hy9 sl0 kp1 kp2 kf1 kf2 hi1
      generalize x.last / K.d = A at *
      (repeat' (first | refine zss ?_ | ((first | (with_reducible first | apply At.val | apply AtQ.val)); (first | exact pm (by rfl) (by rfl) (by rfl) | exact pr_indexArr (k := 2) (by rfl) (by rfl) (by rfl) (by rfl) (by decide) | exact pr_quo (by rfl) (by rfl) hW0 hq | exact pr_sub (by rfl) (by rfl) hs1 | exact pr_add (by rfl) (by rfl) hs2); exact rfl) | refine zsM ?_ | ((with_reducible apply At.box (d := 6)); exact rfl; exact rfl; exact rfl; intro b6) | ((with_reducible apply At.box (d := 8)); exact rfl; exact rfl; exact rfl; intro b8) | ((with_reducible apply At.alloc (d := 13)); exact rfl; exact rfl; intro b13) | ((with_reducible apply At.alloc (d := 15)); exact rfl; exact rfl; intro b15) | ((with_reducible apply At.alloc (d := 17)); exact rfl; exact rfl; intro b17) | ((with_reducible apply At.alloc (d := 19)); exact rfl; exact rfl; intro b19) | ((with_reducible apply At.alloc (d := 21)); exact rfl; exact rfl; intro b21) | (refine zsp ?_ ?_ <;> (intro hc; (try simp only [zhcs, reduceCtorEq] at hc); (try (exfalso; first | omega | contradiction | omega | exact absurd rfl hc | exact absurd (by decide) hc))))))
      all_goals ((with_reducible apply At.retB1 (B := [])); exact rfl; exact rfl; exact zml; exact zkp; exact ⟨rfl, rfl⟩)
    have kr1 := fun (m2 : Mem) (h : m'.le m2) => range2 (m := m2) K x l i1 j hI (hx9.mono h) hi2.1 (by omega)
    have kr2 := fun (m2 : Mem) (h : m'.le m2) => range2 (m := m2) ⟨r', K.a, K.b, K.d, x', y', w', K.c, 8192⟩ y l i1 j hJ (hy9.mono h) hi2.1 (by omega)
    have e1 : rg K l 2 i1 j = cel (l.filter fun e => decide (i1 ≤ e.T / K.d ∧ e.T / K.d < j)) := congrArg cel (sel_kept (w := K.d) (n := K.w) (by rw [← hl1]; exact hi2.2))
    have e2 : rg ⟨r', K.a, K.b, K.d, x', y', w', K.c, 8192⟩ l 2 i1 j = cel (l.filter fun e => decide (i1 ≤ e.T / K.d ∧ e.T / K.d < j)) := congrArg cel (sel_kept (w := K.d) (n := w') (show lastT l / K.d - w' < i1 by rw [← hl1]; omega))
    rw [e1] at kr1
    rw [e2] at kr2
    have sl5 := hy9.sr
    clear h1 h2 hI hJ sl0 kp1 kp2 kf1 kf2 hi1 e1 e2 hx9 hy9
    generalize cel (l.filter fun e => decide (i1 ≤ e.T / K.d ∧ e.T / K.d < j)) = C1 at *
    generalize x.last / K.d = A at *
    (repeat' (first | refine zss ?_ | ((first | (with_reducible first | apply At.val | apply AtQ.val)); (first | exact pm (by rfl) (by rfl) (by rfl) | exact pr_indexArr (k := 2) (by rfl) (by rfl) (by rfl) (by rfl) (by decide) | exact pr_quo (by rfl) (by rfl) hW0 hq | exact pr_sub (by rfl) (by rfl) hs1 | exact pr_sub (by rfl) (by rfl) hs3 | exact pr_add (by rfl) (by rfl) hs2 | exact Cell.pr_ceq (a := C1) (b := C1) (by rfl) (by rfl)); exact rfl) | refine zsM ?_ | ((with_reducible first | apply AtM1.cr | apply AtQ.cr | apply At.cr); exact rfl; exact rfl; exact fun _ hmm => kr1 _ zml; exact ztk; kernel_rfl) | ((with_reducible first | apply AtM1.cr | apply AtQ.cr | apply At.cr); exact rfl; exact rfl; exact fun _ hmm => kr2 _ zml; exact ztk; kernel_rfl) | ((with_reducible first | apply AtM1.cr | apply AtQ.cr | apply At.cr); exact rfl; exact rfl; exact fun _ hmm => ksm _ zml; exact ztk; kernel_rfl) | fail | ((with_reducible apply At.box (d := 6)); exact rfl; exact rfl; exact rfl; intro b6) | ((with_reducible apply At.box (d := 8)); exact rfl; exact rfl; exact rfl; intro b8) | ((with_reducible apply At.alloc (d := 13)); exact rfl; exact rfl; intro b13) | ((with_reducible apply At.alloc (d := 15)); exact rfl; exact rfl; intro b15) | ((with_reducible apply At.alloc (d := 17)); exact rfl; exact rfl; intro b17) | ((with_reducible apply At.alloc (d := 19)); exact rfl; exact rfl; intro b19) | ((with_reducible apply At.alloc (d := 21)); exact rfl; exact rfl; intro b21) | (refine zsp ?_ ?_ <;> (intro hc; (try simp only [zhcs, reduceCtorEq] at hc); (try (exfalso; first | omega | contradiction | omega | exact absurd rfl hc | exact absurd (by decide) hc))))))
    all_goals ((with_reducible apply At.retB1 (B := [])); exact rfl; exact rfl; exact zml; exact zkp; exact ⟨by first | rfl | (simp; done), rfl⟩)
open Go.RowKit in
theorem dec_m4 {H : Type} {enc : TypeId × Value → H} {P : Program} {W : World} : ∀ cs, Go.J.Fit enc P W [.int .u8, .int .u8, .int .u8, .int .u8] cs → ∃ M : M4, cs = M.cells ∧ M.In := by
  intro cs h
  obtain ⟨_, _, rfl, h0, h⟩ := h.cons
  obtain ⟨_, _, rfl, h1, h⟩ := h.cons
  obtain ⟨_, _, rfl, h2, h⟩ := h.cons
  obtain ⟨_, _, rfl, h3, h⟩ := h.cons
  obtain rfl := h.nil
  obtain ⟨x0, rfl, w0⟩ := h0.int
  obtain ⟨x1, rfl, w1⟩ := h1.int
  obtain ⟨x2, rfl, w2⟩ := h2.int
  obtain ⟨x3, rfl, w3⟩ := h3.int
  have w0 := bounds_u8 w0
  have w1 := bounds_u8 w1
  have w2 := bounds_u8 w2
  have w3 := bounds_u8 w3
  refine ⟨⟨x0.toNat, x1.toNat, x2.toNat, x3.toNat⟩, ?_, by show x0.toNat < 256; omega, by show x1.toNat < 256; omega, by show x2.toNat < 256; omega, by show x3.toNat < 256; omega⟩
  show _ = [Value.int .u8 (x0.toNat : Int), Value.int .u8 (x1.toNat : Int), Value.int .u8 (x2.toNat : Int), Value.int .u8 (x3.toNat : Int)]
  rw [Int.toNat_of_nonneg (by omega), Int.toNat_of_nonneg (by omega), Int.toNat_of_nonneg (by omega), Int.toNat_of_nonneg (by omega)]
end T8
namespace TopMoreKeptL
open Go.ChangeShapes Go.WideShapes Go.ChangeAt Go.RowKit
open Go.ChangeMaps (open_string shut_string)
theorem own : ownKnob Tryz.prog.godebug = none := by kernel_rfl
theorem laidOut : laidOutB Tryz.prog = true := by kernel_rfl
set_option maxRecDepth 100000 in
theorem lifted (os : Os) (started : os.Started) (H : Type) (enc : TypeId × Value → H) :
    ReturnsInHanded {} Tryz.checked os 4 .any (Rows.topMoreKeptSpec.pre6 enc Tryz.prog Tryz.f4 Rows.topMoreKeptRow.domain false) (Rows.topMoreKeptSpec.post enc Tryz.prog Tryz.f4 false true false false) := by
  refine returnsInHanded_of_change (C := Tryz.checked) own started (by kernel_rfl) Tryz.func4
    (ChangeSpec.witness6 (enc := enc) (C := Tryz.checked) false ⟨#[], #[.agg #[.int .i64 0, .int .i64 0, .int .i64 0, .int .i64 0, .int .i64 0, .int .i64 0, .int .i64 0, .int .i64 0, .int .i64 0], .slice none 0 0, .agg #[.int .u8 0, .int .u8 0, .int .u8 0, .int .u8 0], .int .i64 0, .int .i64 0, .int .i64 0], []⟩ 8 (by kernel_rfl) (by kernel_rfl) (by kernel_rfl) (by kernel_rfl)) ?_
  intro W base args ds gs before hval0 hW hcnd _
  have hval : ∀ (j : Nat) t v, Tryz.f4.params[j]? = some t → args[j]? = some v → Value.okWide Tryz.prog W .any base t v := hval0
  have hW' := hW
  obtain ⟨p, q, hA0, hV, rfl, hfz, hnd⟩ := hW
  have hA : DataW.TrodAll enc Tryz.prog W 0 (fun _ => true) true Tryz.f4.params.toList args.toList ds p := hA0
  rw [Tryz.params4] at hA hval
  obtain ⟨rfl, rfl⟩ := trodVars_none hV
  have hlt : ∀ x ∈ p, x.block < W.heap.size := fun x hx => hW'.lt x (by simpa using hx)
  have hback := fun (W' : World) (bel : Below W.heap.size W W') => trodAll_below laidOut bel _ _ _ _ (by kernel_rfl) hA hlt
  obtain ⟨v0, vs0, d0, ds0, p0, q0, hargs, rfl, rfl, h0, r0⟩ := trodAll_cons hA
  obtain ⟨v1, vs1, d1, ds1, p1, q1, rfl, rfl, rfl, h1, r1⟩ := trodAll_cons r0
  obtain ⟨v2, vs2, d2, ds2, p2, q2, rfl, rfl, rfl, h2, r2⟩ := trodAll_cons r1
  obtain ⟨v3, vs3, d3, ds3, p3, q3, rfl, rfl, rfl, h3, r3⟩ := trodAll_cons r2
  obtain ⟨v4, vs4, d4, ds4, p4, q4, rfl, rfl, rfl, h4, r4⟩ := trodAll_cons r3
  obtain ⟨v5, vs5, d5, ds5, p5, q5, rfl, rfl, rfl, h5, r5⟩ := trodAll_cons r4
  obtain ⟨rfl, rfl, rfl⟩ := trodAll_nil r5
  obtain rfl : args = #[v0, v1, v2, v3, v4, v5] := by cases args; simp_all
  obtain ⟨a0, rfl, w0⟩ := open_flat_arg (f := Cfg.cells) (φ := fun _ => True) [.int .i64, .int .i64, .int .i64, .int .i64, .int .i64, .int .i64, .int .i64, .int .i64, .int .i64] Tryz.underlying25 (by kernel_rfl) Cfg.dec_cfg (hval 0 25 v0 rfl rfl) h0
  obtain ⟨p1, c1, a1, rfl, s1, w1⟩ := open_sl_arg (f := Ev.cells) (sz := 4) inferInstance (Ev.In) Tryz.underlying26 (by rfl) (dec_flat' [.int .i64, .int .u64, .int .i64, .bool] (by kernel_rfl) Ev.dec_ev) (okWide_slice Tryz.underlying26 (hval 1 26 v1 rfl rfl)) h1
  obtain ⟨a2, rfl, w2⟩ := open_arr_arg (f := T8.M4.cells) (φ := T8.M4.In) [.int .u8, .int .u8, .int .u8, .int .u8] Tryz.underlying51 (by kernel_rfl) T8.dec_m4 (hval 2 51 v2 rfl rfl) h2
  obtain ⟨a3, rfl, rfl, rfl, w3⟩ := open_int Tryz.underlying3 (hval 3 3 v3 rfl rfl) h3
  obtain ⟨a4, rfl, rfl, rfl, w4⟩ := open_int Tryz.underlying2 (hval 4 2 v4 rfl rfl) h4
  obtain ⟨a5, rfl, rfl, rfl, w5⟩ := open_int Tryz.underlying2 (hval 5 2 v5 rfl rfl) h5
  refine (law_calls (Ct.mono (T8.moreL (m := memOf W) a0 p1 c1 a1 a2 w2 a3 a4 a5 (bounds_i64 w4) (fun e he => (w1 e he).2.2.1) s1) fun v m' B _ h => h.1)).mono fun e W' ⟨he, bel⟩ => ?_
  subst he
  exact ⟨_, rfl, _, _, _, [], _, [], hW', trodAll_mk1 (shut_bool Tryz.underlying4 _), hback W' bel, rfl, bel.frame _, fun h => by cases h⟩
theorem over : Rows.topMoreKeptRow.holds Tryz.pinned (OpenSpec.ofChange Rows.topMoreKeptSpec) :=
  OpenClaim.holds_of_wide 4 Tryz.f4 rfl rfl rfl rfl rfl rfl rfl ⟨rfl, rfl, rfl, rfl, rfl⟩ rfl rfl rfl rfl rfl (by kernel_rfl) Tryz.func4 (by kernel_rfl)
    (of_decide_eq_true (by kernel_rfl)) (by unfold Func.isWrapper; first | (rw [if_pos (by decide +kernel)]; kernel_rfl) | (rw [if_neg (by decide +kernel)]; exact ⟨rfl, rfl⟩))
    (fun os started H enc _ => lifted os started H enc)
theorem proved : Rows.TopMoreKeptSaid := over
end TopMoreKeptL
end Go.Proofs.YtjdlnckifhifbaaGreat
