/- Part 6 of what the law's proof needs: rules of the walk, contracts of functions, plain laws. No condition. -/
import Derived.Test.YtkoijdmlehkhbaaGreatDoorQmAWZ5
import Derived.Lib.FrozenHead
set_option linter.unusedSimpArgs false
set_option linter.unusedVariables false
set_option linter.unusedSectionVars false
set_option maxRecDepth 20000
set_option maxHeartbeats 4000000
namespace Go.Proofs.YtkoijdmlehkhbaaGreatDoor
open Go Go.J
attribute [local irreducible] At AtQ AtM AtM1 PR Ct Pu Rd Res.blk Res.own Res.ex RVs RV
namespace Cell
open Ev Wide
def In (c : Cell) : Prop := (-9223372036854775808 ≤ c.n ∧ c.n ≤ 9223372036854775807) ∧ c.F.V < 18446744073709551616 ∧ c.L.V < 18446744073709551616 ∧ c.I < 340282366920938463463374607431768211456
theorem In.fits {c : Cell} (h : In c) : Fits c := ⟨h.2.1, h.2.2.1⟩
theorem z_in : In z := by unfold In; decide
theorem Full.bd {c : Cell} (h : Full c) : c.n ≤ 35184372088833 ∧ c.I ≤ 649037107316853434412140771606528 ∧ c.R ≤ 35184372088833 ∧ c.G ≤ 35184372088833 ∧ c.X ≤ 35184372088833 := by
  have ⟨p1, p2, _⟩ := h.F
  have ⟨p3, p4, _⟩ := h.L
  have h1 := h.len
  have h2 := h.I
  have h3 := h.RG
  have h4 := h.R
  have h5 := h.G
  have h6 := h.XL
  have h7 := h.n
  exact ⟨by omega, by omega, by omega, by omega, by omega⟩
theorem Full.in {c : Cell} (h : Full c) (h1 : c.F.V < 18446744073709551616) (h2 : c.L.V < 18446744073709551616) : In c := by
  have hb := h.bd
  have hn := h.n
  exact ⟨by omega, h1, h2, by omega⟩
theorem mrg_in {a b : Cell} (ha : In a) (hb : In b) : In (mrg a b).1 := by
  rcases mrg_cases (a := a) (b := b) with ⟨e, _⟩ | ⟨e, h1, h2⟩ | ⟨e, h1, h2⟩ | ⟨e, _⟩ | ⟨e, h1, h2, h3⟩ <;> rw [e]
  · exact z_in
  · exact hb
  · exact ha
  · exact z_in
  · exact (join_full h1 h2 h3 hb.2.1).in ha.2.1 hb.2.2.1
set_option maxHeartbeats 1000000 in
theorem join_ (a b : Cell) (ha : Full a) (hb : Full b) (ia : In a) (ib : In b) : Pu Tryz.prog 104 #[a.v, b.v] (.tuple #[(mrg a b).1.v, .int .i64 (mrg a b).2]) := Pu.of_le fun m => by
  have kb := Ev.between a.L b.F ia.2.2.1 ib.2.1
  by_cases h : a.L.T < b.F.T
  · rw [mrg_join ha hb h]
    obtain ⟨w, xR, xG, xRG, xX, xXL, xI⟩ := btw_bd ha.L hb.F h
    have ab := ha.bd
    have bb := hb.bd
    have a1 := ha.n
    have a2 := ha.R
    have a3 := ha.G
    have a4 := ha.X
    have b1 := hb.n
    have b2 := hb.R
    have b3 := hb.G
    have b4 := hb.X
    have ⟨p1, p2, _⟩ := hb.F
    have ⟨p3, p4, _⟩ := ha.L
    have bV := ib.2.1
    have jn : a.n + b.n = (join a b).n := rfl
    have jI : a.I + (btw a.L b.F).1.I + b.I = (join a b).I := rfl
    have jR : (btw a.L b.F).1.R + (a.R + b.R) = (join a b).R := by show _ = a.R + (btw a.L b.F).1.R + b.R; omega
    have jG : (btw a.L b.F).1.G + (a.G + b.G) = (join a b).G := by show _ = a.G + (btw a.L b.F).1.G + b.G; omega
    have jX : (btw a.L b.F).1.X + (a.X + b.X) = (join a b).X := by show _ = a.X + (btw a.L b.F).1.X + b.X; omega
    have jF : a.F = (join a b).F := rfl
    have jL : b.L = (join a b).L := rfl
    rw [w] at kb
    obtain ⟨x, ex⟩ : ∃ x, (btw a.L b.F).1 = x := ⟨_, rfl⟩
    rw [ex] at kb xR xG xRG xX xXL xI jI jR jG jX
    obtain ⟨J, eJ⟩ : ∃ J, join a b = J := ⟨_, rfl⟩
    rw [eJ] at jn jI jR jG jX jF jL ⊢
    have wn : IntKind.wrap .i64 (a.n + b.n) = J.n := by rw [← jn]; exact IntWalk.i64_in _ (by omega)
    have wR : IntKind.wrap .i64 (x.R + (a.R + b.R)) = J.R := by rw [← jR]; exact IntWalk.i64_in _ (by omega)
    have wG : IntKind.wrap .i64 (x.G + (a.G + b.G)) = J.G := by rw [← jG]; exact IntWalk.i64_in _ (by omega)
    have wX : IntKind.wrap .i64 (x.X + (a.X + b.X)) = J.X := by rw [← jX]; exact IntWalk.i64_in _ (by omega)
    have hsum : ∀ (m : Mem) p c, Sl m wd 2 p c [a.I, x.I, b.I] → Ct Tryz.prog 154 #[.slice p 3 c] m [] (fun v m' B => v = .tuple #[wv J.I, .int .i64 0] ∧ m = m' ∧ B = []) := fun m p c sl => by
      have hs := sum_ p c [a.I, x.I, b.I] (by show 3 ≤ _; decide) (by simp only [List.forall_mem_cons]; exact ⟨by omega, by omega, by omega, fun _ h => by cases h⟩) sl
      have e1 : [a.I, x.I, b.I].sum = J.I := by rw [← jI]; simp [Nat.add_assoc]
      obtain ⟨e2, e3⟩ := sV_small (x := J.I) (by rw [← jI]; omega)
      rw [e1, e2, e3] at hs
      exact hs
    refine Ct.enterV (by rfl) Tryz.func104 rfl Tryz.ntmps104 rfl (fun w0 Rest => ?_)
    (repeat' (first | ((with_reducible apply At.mixedX (id := 4) [.blk b6 59 (Cell.cells x)] 15 (.q 0 (.q 1 (.q 2 (.q 3 (.q 4 (.q 5 (.q 6 (.q 7 (.q 8 (.q 9 (.l 10 (.q 11 (.l 12 (.q 13 (.x 14 .done)))))))))))))))); (repeat' (first | exact Take.nil | ((with_reducible apply Take.cons); (focus ((repeat constructor); done))))); exact rfl; kernel_rfl; kernel_rfl; kernel_rfl) | refine zsx ?_ | refine zss ?_ | ((with_reducible apply AtM.bo); exact rfl; exact rfl; exact rfl) | ((first | (with_reducible first | apply At.val | apply AtQ.val) | ((with_reducible first | apply AtM1.valz | apply AtM1.val); exact rfl) | ((with_reducible apply AtM1.val); exact rfl)); (first | exact pr_add (by rfl) (by rfl) wn | exact pr_add (by rfl) (by rfl) wR | exact pr_add (by rfl) (by rfl) wG | exact pr_add (by rfl) (by rfl) wX); exact rfl) | refine zs0 ?_ | refine zx0 ?_ | ((with_reducible first | apply AtM1.callp | apply AtQ.callp | apply At.callp); kernel_rfl; exact rfl; exact rfl; exact kb) | ((with_reducible apply At.litF wd [a.I, x.I, b.I]); exact inferInstance; (iterate 7 exact rfl); intro b' m' hm' sl0; skip) | ((with_reducible first | apply At.c1 | apply At.c0); exact rfl; exact rfl; exact hsum _ _ _ sl0; exact ztk; kernel_rfl; rintro v' m' B' hm' ⟨rfl, rfl, rfl⟩; (try replace sl0 := sl0.mono hm'); (try (have hq0 : hm' = Mem.le_refl _ := rfl; clear hq0 hm'))) | ((with_reducible apply At.box (d := 2)); exact rfl; exact rfl; exact rfl; intro b2) | ((with_reducible apply At.box (d := 3)); exact rfl; exact rfl; exact rfl; intro b3) | ((with_reducible apply At.alloc (d := 4)); exact rfl; exact rfl; intro b4) | ((with_reducible apply At.alloc (d := 6)); exact rfl; exact rfl; intro b6) | (refine zsp ?_ ?_ <;> (intro hc; (try simp only [zhcs, reduceCtorEq] at hc); (try (exfalso; first | omega | contradiction | omega | exact absurd rfl hc | exact absurd (by decide) hc))))))
    all_goals ((with_reducible apply At.retV (B := [])); exact rfl; (repeat' (first | exact RVs.nil | (with_reducible apply RVs.cons) | exact rv_tmp (by rfl) | exact rv_cellN (by rfl) (by repeat constructor) (by rfl) (by rfl) (by rfl) | exact rv_cell1 (by rfl) (by repeat constructor) (by rfl) (by rfl))); exact zml; exact zkp; exact ⟨by subst eJ; rfl, by assumption, rfl⟩)
  · have e : mrg a b = (z, 9) := by
      unfold mrg
      rw [if_neg (not_not_intro ⟨.inr ha, .inr hb⟩), if_neg ha.ne, if_neg hb.ne, if_pos (by omega)]
    rw [e]
    have eb : btw a.L b.F = (z, 9) := by unfold btw; rw [if_neg (not_not_intro (show two a.L b.F from ⟨ha.L, hb.F⟩)), if_pos (by omega)]
    rw [eb] at kb
    refine Ct.enterV (by rfl) Tryz.func104 rfl Tryz.ntmps104 rfl (fun w0 Rest => ?_)
    (repeat' (first | refine zss ?_ | refine zs0 ?_ | ((with_reducible first | apply AtM1.callp | apply AtQ.callp | apply At.callp); kernel_rfl; exact rfl; exact rfl; exact kb) | ((with_reducible apply At.box (d := 2)); exact rfl; exact rfl; exact rfl; intro b2) | ((with_reducible apply At.box (d := 3)); exact rfl; exact rfl; exact rfl; intro b3) | ((with_reducible apply At.alloc (d := 4)); exact rfl; exact rfl; intro b4) | ((with_reducible apply At.alloc (d := 6)); exact rfl; exact rfl; intro b6) | (refine zsp ?_ ?_ <;> (intro hc; (try simp only [zhcs, reduceCtorEq] at hc); (try (exfalso; first | omega | contradiction | omega | exact absurd rfl hc | exact absurd (by decide) hc))))))
    all_goals ((with_reducible apply At.retV (B := [])); exact rfl; (repeat' (first | exact RVs.nil | (with_reducible apply RVs.cons) | exact rv_tmp (by rfl) | exact rv_cellN (by rfl) (by repeat constructor) (by rfl) (by rfl) (by rfl) | exact rv_cell1 (by rfl) (by repeat constructor) (by rfl) (by rfl))); exact zml; exact zkp; exact ⟨rfl, Mem.le_refl _, rfl⟩)
theorem chk_ok {c : Cell} (h : ok c) : chk c = 0 := if_pos h
theorem chk_no {c : Cell} (h : ¬ ok c) : chk c = 2 := if_neg h
set_option maxHeartbeats 1000000 in
theorem merge (a b : Cell) (ia : In a) (ib : In b) : Pu Tryz.prog 53 #[a.v, b.v] (.tuple #[(mrg a b).1.v, .int .i64 (mrg a b).2]) := Pu.of_le fun m => by
  have ca := check a ia.1
  have cb := check b ib.1
  have na := none_ a
  have nb := none_ b
  by_cases oa : ok a
  · rw [chk_ok oa] at ca
    by_cases ob : ok b
    · rw [chk_ok ob] at cb
      by_cases za : a = z
      · rw [decide_eq_true za] at na
        rw [show mrg a b = (b, 0) by rw [za]; exact mrg_zl ob]
        refine Ct.enterV (by rfl) Tryz.func53 rfl Tryz.ntmps53 rfl (fun w0 Rest => ?_)
        (repeat' (first | refine zss ?_ | refine zs0 ?_ | ((with_reducible first | apply AtM1.callp | apply AtQ.callp | apply At.callp); kernel_rfl; exact rfl; exact rfl; exact ca) | ((with_reducible first | apply AtM1.callp | apply AtQ.callp | apply At.callp); kernel_rfl; exact rfl; exact rfl; exact cb) | ((with_reducible first | apply AtM1.callp | apply AtQ.callp | apply At.callp); kernel_rfl; exact rfl; exact rfl; exact na) | ((with_reducible apply At.box (d := 2)); exact rfl; exact rfl; exact rfl; intro b2) | ((with_reducible apply At.box (d := 3)); exact rfl; exact rfl; exact rfl; intro b3) | ((with_reducible apply At.alloc (d := 4)); exact rfl; exact rfl; intro b4) | (refine zsp ?_ ?_ <;> (intro hc; (try simp only [zhcs, reduceCtorEq] at hc); (try (exfalso; first | omega | contradiction | omega | exact absurd rfl hc | exact absurd (by decide) hc))))))
        all_goals ((with_reducible apply At.retV (B := [])); exact rfl; (repeat' (first | exact RVs.nil | (with_reducible apply RVs.cons) | exact rv_tmp (by rfl) | exact rv_cellN (by rfl) (by repeat constructor) (by rfl) (by rfl) (by rfl) | exact rv_cell1 (by rfl) (by repeat constructor) (by rfl) (by rfl))); exact zml; exact zkp; exact ⟨rfl, Mem.le_refl _, rfl⟩)
      · rw [decide_eq_false za] at na
        by_cases zb : b = z
        · rw [decide_eq_true zb] at nb
          rw [show mrg a b = (a, 0) by rw [zb]; exact mrg_zr oa]
          refine Ct.enterV (by rfl) Tryz.func53 rfl Tryz.ntmps53 rfl (fun w0 Rest => ?_)
          (repeat' (first | refine zss ?_ | refine zs0 ?_ | ((with_reducible first | apply AtM1.callp | apply AtQ.callp | apply At.callp); kernel_rfl; exact rfl; exact rfl; exact ca) | ((with_reducible first | apply AtM1.callp | apply AtQ.callp | apply At.callp); kernel_rfl; exact rfl; exact rfl; exact cb) | ((with_reducible first | apply AtM1.callp | apply AtQ.callp | apply At.callp); kernel_rfl; exact rfl; exact rfl; exact na) | ((with_reducible first | apply AtM1.callp | apply AtQ.callp | apply At.callp); kernel_rfl; exact rfl; exact rfl; exact nb) | ((with_reducible apply At.box (d := 2)); exact rfl; exact rfl; exact rfl; intro b2) | ((with_reducible apply At.box (d := 3)); exact rfl; exact rfl; exact rfl; intro b3) | ((with_reducible apply At.alloc (d := 4)); exact rfl; exact rfl; intro b4) | (refine zsp ?_ ?_ <;> (intro hc; (try simp only [zhcs, reduceCtorEq] at hc); (try (exfalso; first | omega | contradiction | omega | exact absurd rfl hc | exact absurd (by decide) hc))))))
          all_goals ((with_reducible apply At.retV (B := [])); exact rfl; (repeat' (first | exact RVs.nil | (with_reducible apply RVs.cons) | exact rv_tmp (by rfl) | exact rv_cellN (by rfl) (by repeat constructor) (by rfl) (by rfl) (by rfl) | exact rv_cell1 (by rfl) (by repeat constructor) (by rfl) (by rfl))); exact zml; exact zkp; exact ⟨rfl, Mem.le_refl _, rfl⟩)
        · rw [decide_eq_false zb] at nb
          have kj := join_ a b (oa.resolve_left za) (ob.resolve_left zb) ia ib
          obtain ⟨r, er⟩ : ∃ r, mrg a b = r := ⟨_, rfl⟩
          rw [er] at kj ⊢
          refine Ct.enterV (by rfl) Tryz.func53 rfl Tryz.ntmps53 rfl (fun w0 Rest => ?_)
          (repeat' (first | refine zss ?_ | refine zs0 ?_ | ((with_reducible first | apply AtM1.callp | apply AtQ.callp | apply At.callp); kernel_rfl; exact rfl; exact rfl; exact ca) | ((with_reducible first | apply AtM1.callp | apply AtQ.callp | apply At.callp); kernel_rfl; exact rfl; exact rfl; exact cb) | ((with_reducible first | apply AtM1.callp | apply AtQ.callp | apply At.callp); kernel_rfl; exact rfl; exact rfl; exact na) | ((with_reducible first | apply AtM1.callp | apply AtQ.callp | apply At.callp); kernel_rfl; exact rfl; exact rfl; exact nb) | ((with_reducible first | apply AtM1.callp | apply AtQ.callp | apply At.callp); kernel_rfl; exact rfl; exact rfl; exact kj) | ((with_reducible apply At.box (d := 2)); exact rfl; exact rfl; exact rfl; intro b2) | ((with_reducible apply At.box (d := 3)); exact rfl; exact rfl; exact rfl; intro b3) | ((with_reducible apply At.alloc (d := 4)); exact rfl; exact rfl; intro b4) | (refine zsp ?_ ?_ <;> (intro hc; (try simp only [zhcs, reduceCtorEq] at hc); (try (exfalso; first | omega | contradiction | omega | exact absurd rfl hc | exact absurd (by decide) hc))))))
          all_goals ((with_reducible apply At.retV (B := [])); exact rfl; (repeat' (first | exact RVs.nil | (with_reducible apply RVs.cons) | exact rv_tmp (by rfl) | exact rv_cellN (by rfl) (by repeat constructor) (by rfl) (by rfl) (by rfl) | exact rv_cell1 (by rfl) (by repeat constructor) (by rfl) (by rfl))); exact zml; exact zkp; exact ⟨rfl, Mem.le_refl _, rfl⟩)
    · rw [chk_no ob] at cb
      rw [show mrg a b = (z, 2) from if_pos (fun h => ob h.2)]
      refine Ct.enterV (by rfl) Tryz.func53 rfl Tryz.ntmps53 rfl (fun w0 Rest => ?_)
      (repeat' (first | refine zss ?_ | refine zs0 ?_ | ((with_reducible first | apply AtM1.callp | apply AtQ.callp | apply At.callp); kernel_rfl; exact rfl; exact rfl; exact ca) | ((with_reducible first | apply AtM1.callp | apply AtQ.callp | apply At.callp); kernel_rfl; exact rfl; exact rfl; exact cb) | ((with_reducible apply At.box (d := 2)); exact rfl; exact rfl; exact rfl; intro b2) | ((with_reducible apply At.box (d := 3)); exact rfl; exact rfl; exact rfl; intro b3) | ((with_reducible apply At.alloc (d := 4)); exact rfl; exact rfl; intro b4) | (refine zsp ?_ ?_ <;> (intro hc; (try simp only [zhcs, reduceCtorEq] at hc); (try (exfalso; first | omega | contradiction | omega | exact absurd rfl hc | exact absurd (by decide) hc))))))
      all_goals ((with_reducible apply At.retV (B := [])); exact rfl; (repeat' (first | exact RVs.nil | (with_reducible apply RVs.cons) | exact rv_tmp (by rfl) | exact rv_cellN (by rfl) (by repeat constructor) (by rfl) (by rfl) (by rfl) | exact rv_cell1 (by rfl) (by repeat constructor) (by rfl) (by rfl))); exact zml; exact zkp; exact ⟨rfl, Mem.le_refl _, rfl⟩)
  · rw [chk_no oa] at ca
    rw [show mrg a b = (z, 2) from if_pos (fun h => oa h.1)]
    refine Ct.enterV (by rfl) Tryz.func53 rfl Tryz.ntmps53 rfl (fun w0 Rest => ?_)
    (repeat' (first | refine zss ?_ | refine zs0 ?_ | ((with_reducible first | apply AtM1.callp | apply AtQ.callp | apply At.callp); kernel_rfl; exact rfl; exact rfl; exact ca) | ((with_reducible first | apply AtM1.callp | apply AtQ.callp | apply At.callp); kernel_rfl; exact rfl; exact rfl; exact cb) | ((with_reducible apply At.box (d := 2)); exact rfl; exact rfl; exact rfl; intro b2) | ((with_reducible apply At.box (d := 3)); exact rfl; exact rfl; exact rfl; intro b3) | ((with_reducible apply At.alloc (d := 4)); exact rfl; exact rfl; intro b4) | (refine zsp ?_ ?_ <;> (intro hc; (try simp only [zhcs, reduceCtorEq] at hc); (try (exfalso; first | omega | contradiction | omega | exact absurd rfl hc | exact absurd (by decide) hc))))))
    all_goals ((with_reducible apply At.retV (B := [])); exact rfl; (repeat' (first | exact RVs.nil | (with_reducible apply RVs.cons) | exact rv_tmp (by rfl) | exact rv_cellN (by rfl) (by repeat constructor) (by rfl) (by rfl) (by rfl) | exact rv_cell1 (by rfl) (by repeat constructor) (by rfl) (by rfl))); exact zml; exact zkp; exact ⟨rfl, Mem.le_refl _, rfl⟩)
end Cell
end Go.Proofs.YtkoijdmlehkhbaaGreatDoor
namespace Go.Proofs.YtkoijdmlehkhbaaGreatDoor
open Go Go.J
attribute [local irreducible] At AtQ AtM AtM1 PR Ct Pu Rd Res.blk Res.own Res.ex RVs RV
namespace Cell
open Ev Wide
instance : Inhabited Cell := ⟨z⟩
def allC : Cell → List Cell → Cell × Int
  | c, [] => (c, 0)
  | c, x :: l => if (mrg c x).2 ≠ 0 then (z, (mrg c x).2) else allC (mrg c x).1 l
theorem allC_step {l : List Cell} {i : Nat} (h : i < l.length) (c : Cell) : allC c (l.drop i) = if (mrg c (l[i]!)).2 ≠ 0 then (z, (mrg c (l[i]!)).2) else allC (mrg c (l[i]!)).1 (l.drop (i + 1)) := by
  rw [List.drop_eq_getElem_cons h, getElem!_pos l i h]; rfl
theorem zv : Value.agg #[.int .i64 0, .int .i64 0, .int .u64 0, .int .i64 0, .bool false, .int .i64 0, .int .u64 0, .int .i64 0, .bool false, .int .u64 0, .int .u64 0, .int .i64 0, .int .i64 0, .int .i64 0] = z.v := rfl
structure AS where
  (i : Nat) (c : Cell)
theorem all {m : Mem} (p : Option Addr) (c : Nat) (l : List Cell) (hl : l.length ≤ 1000000) (hi : ∀ x ∈ l, In x) (sl0 : Sl m cells 14 p c l) :
    Ct Tryz.prog 174 #[.slice p l.length c] m [] (fun v m' B => v = .tuple #[(allC z l).1.v, .int .i64 (allC z l).2] ∧ m = m' ∧ B = []) := by
  refine Ct.enterV (by rfl) Tryz.func174 rfl Tryz.ntmps174 rfl (fun w0 Rest => ?_)
  (repeat' (first | refine zss ?_ | refine zsM ?_ | ((with_reducible apply At.alloc (d := 2)); exact rfl; exact rfl; intro b2) | ((with_reducible apply At.alloc (d := 4)); exact rfl; exact rfl; intro b4) | ((with_reducible apply At.alloc (d := 6)); exact rfl; exact rfl; intro b6) | ((with_reducible apply At.alloc (d := 7)); exact rfl; exact rfl; intro b7) | (refine zsp ?_ ?_ <;> (intro hc; (try simp only [zhcs, reduceCtorEq] at hc); (try (exfalso; first | contradiction | omega | exact absurd rfl hc | exact absurd (by decide) hc))))))
  change At _ w0 _ m (Res.blk b4 59 (cells z) :: Res.blk b2 59 (cells z) :: Rest) _
  (refine At.loopk (σ := AS) [2, 4, 9, 10] (fun s F0 => (11, .int .i64 (s.i : Int)) :: F0) (fun s => m) (fun s => .blk b4 59 (cells s.c) :: .blk b2 59 (cells z) :: Rest) (fun s => s.i ≤ l.length ∧ In s.c ∧ allC s.c (l.drop s.i) = allC z l) (fun s => l.length - s.i) ⟨0, z⟩ (by rfl) ?_ zsubs zml zente ?_)
  · exact ⟨Nat.zero_le _, z_in, rfl⟩
  rintro ⟨i, x⟩ ⟨h1, h2, h3⟩
  dsimp only at h1 h2 h3 ⊢
  by_cases h : i < l.length
  · have hy : In (l[i]!) := by rw [getElem!_pos l i h]; exact hi _ (List.getElem_mem h)
    have km := merge x (l[i]!) h2 hy
    have hin := mrg_in h2 hy
    rw [allC_step h] at h3
    rcases hr : mrg x (l[i]!) with ⟨y, w⟩
    rw [hr] at km h3 hin
    dsimp only at km h3 hin
    by_cases hw : w = 0
    · subst hw
      rw [if_neg (fun hh => hh rfl)] at h3
      (repeat' (first | refine zss ?_ | refine zsM ?_ | ((with_reducible first | apply AtM1.callp | apply AtQ.callp | apply At.callp); kernel_rfl; exact rfl; exact rfl; exact km) | ((with_reducible apply At.alloc (d := 2)); exact rfl; exact rfl; intro b2) | ((with_reducible apply At.alloc (d := 4)); exact rfl; exact rfl; intro b4) | ((with_reducible apply At.alloc (d := 6)); exact rfl; exact rfl; intro b6) | ((with_reducible apply At.alloc (d := 7)); exact rfl; exact rfl; intro b7) | (refine zsp ?_ ?_ <;> (intro hc; (try simp only [zhcs, reduceCtorEq] at hc); (try (exfalso; first | omega | contradiction | omega | exact absurd rfl hc | exact absurd (by decide) hc))))))
      all_goals ((with_reducible refine At.reachk (⟨i + 1, y⟩) ?_ ?_ ?_ ?_); exact zsubs; exact zml; exact zente; exact ⟨⟨h, hin, h3⟩, by show l.length - (i + 1) < l.length - i; omega⟩)
    · rw [if_pos hw] at h3
      rw [← h3]
      (repeat' (first | refine zss ?_ | refine zsM ?_ | ((with_reducible first | apply AtM1.callp | apply AtQ.callp | apply At.callp); kernel_rfl; exact rfl; exact rfl; exact km) | ((with_reducible apply At.alloc (d := 2)); exact rfl; exact rfl; intro b2) | ((with_reducible apply At.alloc (d := 4)); exact rfl; exact rfl; intro b4) | ((with_reducible apply At.alloc (d := 6)); exact rfl; exact rfl; intro b6) | ((with_reducible apply At.alloc (d := 7)); exact rfl; exact rfl; intro b7) | (refine zsp ?_ ?_ <;> (intro hc; (try simp only [zhcs, reduceCtorEq] at hc); (try (exfalso; first | (first | omega | exact absurd hc hw) | contradiction | omega | exact absurd rfl hc | exact absurd (by decide) hc))))))
      all_goals ((with_reducible apply At.retV (B := [])); exact rfl; (repeat' (first | exact RVs.nil | (with_reducible apply RVs.cons) | exact rv_tmp (by rfl) | exact rv_cellN (by rfl) (by repeat constructor) (by rfl) (by rfl) (by rfl) | exact rv_cell1 (by rfl) (by repeat constructor) (by rfl) (by rfl))); exact zml; exact zkp; exact ⟨congrArg (fun v => Value.tuple #[v, .int .i64 w]) zv, rfl, rfl⟩)
  · rw [List.drop_eq_nil_of_le (by omega)] at h3
    rw [← h3]
    (repeat' (first | refine zss ?_ | refine zsM ?_ | ((with_reducible apply At.alloc (d := 2)); exact rfl; exact rfl; intro b2) | ((with_reducible apply At.alloc (d := 4)); exact rfl; exact rfl; intro b4) | ((with_reducible apply At.alloc (d := 6)); exact rfl; exact rfl; intro b6) | ((with_reducible apply At.alloc (d := 7)); exact rfl; exact rfl; intro b7) | (refine zsp ?_ ?_ <;> (intro hc; (try simp only [zhcs, reduceCtorEq] at hc); (try (exfalso; first | omega | contradiction | omega | exact absurd rfl hc | exact absurd (by decide) hc))))))
    all_goals ((with_reducible apply At.retV (B := [])); exact rfl; (repeat' (first | exact RVs.nil | (with_reducible apply RVs.cons) | exact rv_tmp (by rfl) | exact rv_cellN (by rfl) (by repeat constructor) (by rfl) (by rfl) (by rfl) | exact rv_cell1 (by rfl) (by repeat constructor) (by rfl) (by rfl))); exact zml; exact zkp; exact ⟨rfl, rfl, rfl⟩)
/-- what so many of the events come to -/
structure Upto (l : List Ev) (i : Nat) (c : Cell) : Prop where
  le : i ≤ l.length
  eq : c = (l.take i).foldl add z
  st : i = 0 ∨ (Full c ∧ c.L = l[i - 1]!)
  asc : ∀ j, j + 1 < i → (l[j]!).T < (l[j + 1]!).T
  inn : In c
theorem Upto.done {l : List Ev} {c : Cell} (h : Upto l l.length c) (ok : Mrg.aok l) : ofL l = (c, 0) := by
  have ha : Mrg.asc l := fun j hj => h.asc j (by omega)
  have e : Mrg.chk l = 0 := by unfold Mrg.chk; rw [if_pos ok, if_pos ha]
  unfold ofL
  rw [e, if_neg (fun h => h rfl), h.eq, List.take_length]
end Cell
end Go.Proofs.YtkoijdmlehkhbaaGreatDoor
namespace Go.Proofs.YtkoijdmlehkhbaaGreatDoor
open Go Go.J
namespace Ti
open Slot Win
section
variable {α : Type} [Inhabited α]
structure DS (α : Type) where
  (i j : Nat) (L : List α)
theorem filt_snoc (f : α → Bool) (l : List α) (j : Nat) (h : j < l.length) : (l.take (j + 1)).filter f = (l.take j).filter f ++ if f (l[j]!) = true then [l[j]!] else [] := by
  rw [Ls.take_snoc h, List.filter_append, List.filter_cons, List.filter_nil]
theorem all_filt {f : α → Bool} {l : List α} (h : ∀ i, i < l.length → f (l[i]!) = true) : l.filter f = l := by
  rw [List.filter_eq_self]
  intro e he
  obtain ⟨i, hi, rfl⟩ := List.mem_iff_getElem.1 he
  have := h i hi
  rwa [getElem!_pos l i hi] at this
def dinv (f : α → Bool) (l : List α) (s : DS α) : Prop := s.i < s.j ∧ s.j ≤ l.length ∧ s.L.length = l.length ∧ s.L.take s.i = (l.take s.j).filter f ∧ s.L.drop s.j = l.drop s.j
theorem dinv.get {f : α → Bool} {l : List α} {s : DS α} (h : dinv f l s) (hj : s.j < l.length) : s.L[s.j]! = l[s.j]! := by
  obtain ⟨_, _, h3, _, h5⟩ := h
  rw [getElem!_pos s.L s.j (by omega), getElem!_pos l s.j hj]
  have e1 : (s.L.drop s.j)[0]? = (l.drop s.j)[0]? := by rw [h5]
  rw [List.getElem?_drop, List.getElem?_drop, Nat.add_zero, List.getElem?_eq_getElem (by omega), List.getElem?_eq_getElem hj] at e1
  exact Option.some.inj e1
theorem drop_succ' {a b : List α} {j : Nat} (h : a.drop j = b.drop j) : a.drop (j + 1) = b.drop (j + 1) := by
  rw [← List.drop_drop, ← List.drop_drop, h]
theorem dinv.no {f : α → Bool} {l : List α} {s : DS α} (h : dinv f l s) (hj : s.j < l.length) (hk : f (l[s.j]!) = false) : dinv f l ⟨s.i, s.j + 1, s.L⟩ := by
  obtain ⟨h1, h2, h3, h4, h5⟩ := h
  refine ⟨by show s.i < s.j + 1; omega, hj, h3, ?_, drop_succ' h5⟩
  show s.L.take s.i = _
  rw [filt_snoc f l s.j hj, hk, h4]; simp
theorem dinv.yes {f : α → Bool} {l : List α} {s : DS α} (h : dinv f l s) (hj : s.j < l.length) (hk : f (l[s.j]!) = true) : dinv f l ⟨s.i + 1, s.j + 1, s.L.set s.i (l[s.j]!)⟩ := by
  obtain ⟨h1, h2, h3, h4, h5⟩ := h
  refine ⟨by show s.i + 1 < s.j + 1; omega, hj, by simpa using h3, ?_, ?_⟩
  · show (s.L.set s.i (l[s.j]!)).take (s.i + 1) = _
    rw [filt_snoc f l s.j hj, if_pos hk, ← h4, List.take_add_one, List.take_set_of_le (Nat.le_refl _), List.getElem?_set_self (by omega)]; rfl
  · show (s.L.set s.i (l[s.j]!)).drop (s.j + 1) = _
    rw [List.drop_set_of_lt (by omega)]; exact drop_succ' h5
end
/-- a slot that is not zero -/
def keep (s : Slot) : Bool := !decide (s = Slot.z)
def lew (a b : Slot) : Bool := decide (a.w ≤ b.w)
/-- those that are not zero, in order -/
def alls (l : List Slot) : List Slot := (l.filter keep).mergeSort lew
/-- of two that are not zero, of one window, one is the other -/
def Dis (l : List Slot) : Prop := ∀ a ∈ l, ∀ b ∈ l, keep a = true → keep b = true → a.w = b.w → a = b
theorem alls_perm (l : List Slot) : (alls l).Perm (l.filter keep) := List.mergeSort_perm _ _
theorem alls_mem {l : List Slot} {s : Slot} : s ∈ alls l ↔ s ∈ l ∧ keep s = true := (alls_perm l).mem_iff.trans List.mem_filter
theorem alls_len (l : List Slot) : (alls l).length ≤ l.length := by rw [(alls_perm l).length_eq]; exact List.length_filter_le _ _
theorem alls_up (l : List Slot) : (alls l).Pairwise fun a b => a.w ≤ b.w := by
  have h := List.pairwise_mergeSort (le := lew) (fun a b c h1 h2 => decide_eq_true (Int.le_trans (of_decide_eq_true h1) (of_decide_eq_true h2))) (fun a b => by
    unfold lew
    rcases Int.le_total a.w b.w with h | h
    · rw [decide_eq_true h]; rfl
    · rw [decide_eq_true h]; exact Bool.or_true _) (l.filter keep)
  exact h.imp fun h => of_decide_eq_true h
theorem alls_uniq {l L : List Slot} (hD : Dis l) (hp : L.Perm (l.filter keep)) (hs : So.Srt Slot.w 0 L.length L) : L = alls l := by
  have h1 : L.Pairwise fun a b => a.w ≤ b.w := List.pairwise_iff_getElem.2 fun i j hi hj hij => by
    have := hs i j (Nat.zero_le _) hij hj
    rwa [getElem!_pos L i hi, getElem!_pos L j hj] at this
  refine List.Perm.eq_of_pairwise (le := fun a b => a.w ≤ b.w) (fun a b ha hb h1 h2 => ?_) h1 (alls_up l) (hp.trans (alls_perm l).symm)
  have ha := List.mem_filter.1 (hp.mem_iff.1 ha)
  have hb := alls_mem.1 hb
  exact hD a ha.1 b hb.1 ha.2 hb.2 (by omega)
theorem keep_z {s : Slot} : keep s = false ↔ s = Slot.z := by
  unfold keep
  by_cases h : s = Slot.z
  · rw [decide_eq_true h]; exact ⟨fun _ => h, fun _ => rfl⟩
  · rw [decide_eq_false h]; exact ⟨fun e => absurd e (by decide), fun e => absurd e h⟩
theorem keep_ne {s : Slot} : keep s = true ↔ s ≠ Slot.z := by
  rw [← Bool.not_eq_false, keep_z]
/-- right ones of a tier differ -/
theorem okT_dis {l : List Slot} {w : Int} (h : okT l w) : Dis l := fun a ha b hb ka kb hw => by
  obtain ⟨i, hi, rfl⟩ := List.mem_iff_getElem.1 ha
  obtain ⟨j, hj, rfl⟩ := List.mem_iff_getElem.1 hb
  have oi := h.2.2 i hi
  have oj := h.2.2 j hj
  unfold okS at oi oj
  rw [getElem!_pos l i hi] at oi
  rw [getElem!_pos l j hj] at oj
  have e1 := (oi.resolve_left (keep_ne.1 ka)).1
  have e2 := (oj.resolve_left (keep_ne.1 kb)).1
  rw [hw] at e1
  have : i = j := by omega
  subst this
  rfl
def foldC (l : List Slot) (i k : Int) : Cell × Int := if i < 0 ∨ k < i then (Cell.z, 1) else Cell.allC Cell.z (((alls l).filter fun s => decide (i ≤ s.w ∧ s.w < k)).map Slot.c)
end Ti
end Go.Proofs.YtkoijdmlehkhbaaGreatDoor
namespace Go.Proofs.YtkoijdmlehkhbaaGreatDoor
open Go Go.J
attribute [local irreducible] At AtQ AtM AtM1 PR Ct Pu Rd Res.blk Res.own Res.ex RVs RV
namespace Conf
abbrev gi : Int → Value := fun x => .int .i64 x
abbrev cv (L : List Int) : Value := .agg (L.map gi).toArray
theorem in_ (n a b : Int) : Pu Tryz.prog 111 #[.int .i64 n, .int .i64 a, .int .i64 b] (.bool (decide (a ≤ n ∧ n ≤ b))) := Pu.intro fun m => by
  refine Ct.enterV (by rfl) Tryz.func111 rfl Tryz.ntmps111 rfl (fun w0 Rest => ?_)
  (repeat' (first | refine zss ?_ | refine zs0 ?_ | (refine zsp ?_ ?_ <;> (intro hc; (try simp only [zhcs, reduceCtorEq] at hc); (try (exfalso; first | contradiction | omega | exact absurd rfl hc | exact absurd (by decide) hc))))))
  all_goals ((with_reducible apply At.retB1 (B := [])); exact rfl; exact rfl; exact zml; exact zkp; exact ⟨congrArg Value.bool (by simp [hc]), rfl, rfl⟩)
theorem in64 (n a b : Int) : Pu Tryz.prog 112 #[.int .i64 n, .int .i64 a, .int .i64 b] (.bool (decide (a ≤ n ∧ n ≤ b))) := Pu.intro fun m => by
  refine Ct.enterV (by rfl) Tryz.func112 rfl Tryz.ntmps112 rfl (fun w0 Rest => ?_)
  (repeat' (first | refine zss ?_ | refine zs0 ?_ | (refine zsp ?_ ?_ <;> (intro hc; (try simp only [zhcs, reduceCtorEq] at hc); (try (exfalso; first | contradiction | omega | exact absurd rfl hc | exact absurd (by decide) hc))))))
  all_goals ((with_reducible apply At.retB1 (B := [])); exact rfl; exact rfl; exact zml; exact zkp; exact ⟨congrArg Value.bool (by simp [hc]), rfl, rfl⟩)
theorem parts (n by_ : Int) (h1 : 1 ≤ n) (h2 : n ≤ 100000) (h3 : 1 ≤ by_) (h4 : by_ ≤ 1000) : Pu Tryz.prog 159 #[.int .i64 n, .int .i64 by_] (.int .i64 ((n + by_ - 1) / by_)) := Pu.intro fun m => by
  refine Ct.enterV (by rfl) Tryz.func159 rfl Tryz.ntmps159 rfl (fun w0 Rest => ?_)
  (repeat' (first | refine zss ?_ | refine zs0 ?_ | (refine zsp ?_ ?_ <;> (intro hc; (try simp only [zhcs, reduceCtorEq] at hc); (try (exfalso; first | omega | contradiction | omega | exact absurd rfl hc | exact absurd (by decide) hc))))))
  all_goals ((with_reducible apply At.retB1 (B := [])); exact rfl; exact rfl; exact zml; exact zkp; exact ⟨rfl, rfl, rfl⟩)
def acc (L : List Int) : Nat → Int
  | 0 => 1 + (L[0]! + 16 - 1) / 16
  | s + 1 => acc L s + (L[4 + s]! + 4 - 1) / 4
def plc (L : List Int) : Int := acc L 3
/-- numbers that may be -/
def okA (L : List Int) (s : Nat) : Prop := (1 ≤ L[0]! ∧ L[0]! ≤ 4096) ∧ (1 ≤ L[7]! ∧ L[7]! ≤ 65536) ∧ (1 ≤ L[8]! ∧ L[8]! ≤ 8192) ∧ ∀ i, i < s → (1 ≤ L[1 + i]! ∧ L[1 + i]! ≤ 1099511627776) ∧ (1 ≤ L[4 + i]! ∧ L[4 + i]! ≤ 4096)
instance (L : List Int) (s : Nat) : Decidable (okA L s) := by unfold okA; infer_instance
theorem okA_succ (L : List Int) (s : Nat) : okA L (s + 1) ↔ okA L s ∧ (1 ≤ L[1 + s]! ∧ L[1 + s]! ≤ 1099511627776) ∧ (1 ≤ L[4 + s]! ∧ L[4 + s]! ≤ 4096) := by
  unfold okA
  constructor
  · rintro ⟨h1, h2, h3, h4⟩
    exact ⟨⟨h1, h2, h3, fun i hi => h4 i (by omega)⟩, h4 s (by omega)⟩
  · rintro ⟨⟨h1, h2, h3, h4⟩, h5⟩
    refine ⟨h1, h2, h3, fun i hi => ?_⟩
    by_cases e : i = s
    · subst e; exact h5
    · exact h4 i (by omega)
theorem place (L : List Int) (hL : L.length = 9) (h : okA L 3) : Pu Tryz.prog 113 #[cv L] (.int .i64 (plc L)) := Pu.intro fun m => by
  obtain ⟨r, a, b, d, x, y, w, c, g, rfl⟩ := nine hL
  obtain ⟨⟨r1, r2⟩, _, _, h4⟩ := h
  obtain ⟨_, x1, x2⟩ := h4 0 (by decide)
  obtain ⟨_, y1, y2⟩ := h4 1 (by decide)
  obtain ⟨_, w1, w2⟩ := h4 2 (by decide)
  replace x1 : 1 ≤ x := x1
  replace x2 : x ≤ 4096 := x2
  replace y1 : 1 ≤ y := y1
  replace y2 : y ≤ 4096 := y2
  replace w1 : 1 ≤ w := w1
  replace w2 : w ≤ 4096 := w2
  replace r1 : 1 ≤ r := r1
  replace r2 : r ≤ 4096 := r2
  have e0 : acc [r, a, b, d, x, y, w, c, g] 0 = 1 + (r + 16 - 1) / 16 := rfl
  have e1 : acc [r, a, b, d, x, y, w, c, g] 1 = acc [r, a, b, d, x, y, w, c, g] 0 + (x + 4 - 1) / 4 := rfl
  have e2 : acc [r, a, b, d, x, y, w, c, g] 2 = acc [r, a, b, d, x, y, w, c, g] 1 + (y + 4 - 1) / 4 := rfl
  have e3 : acc [r, a, b, d, x, y, w, c, g] 3 = acc [r, a, b, d, x, y, w, c, g] 2 + (w + 4 - 1) / 4 := rfl
  have p0 := parts r 16 r1 (by omega) (by decide) (by decide)
  have p1 := parts x 4 x1 (by omega) (by decide) (by decide)
  have p2 := parts y 4 y1 (by omega) (by decide) (by decide)
  have p3 := parts w 4 w1 (by omega) (by decide) (by decide)
  show Ct _ _ _ _ _ (fun v m' B => v = .int .i64 (acc [r, a, b, d, x, y, w, c, g] 3) ∧ _ ∧ _)
  unfold cv
  simp only [List.map]
  refine Ct.enterV (by rfl) Tryz.func113 rfl Tryz.ntmps113 rfl (fun w0 Rest => ?_)
  (repeat' (first | refine zss ?_ | refine zs0 ?_ | ((with_reducible first | apply AtM1.callp | apply AtQ.callp | apply At.callp); kernel_rfl; exact rfl; exact rfl; exact p0) | ((with_reducible apply At.box (d := 1)); exact rfl; exact rfl; exact rfl; intro b1) | (refine zsp ?_ ?_ <;> (intro hc; (try simp only [zhcs, reduceCtorEq] at hc); (try (exfalso; first | omega | contradiction | omega | exact absurd rfl hc | exact absurd (by decide) hc))))))
  trace_state
  (refine At.loopk (σ := Nat) [11] (fun s F0 => (12, .int .i64 (s : Int)) :: (3, .int .i64 (acc [r, a, b, d, x, y, w, c, g] s)) :: F0) (fun s => m) (fun s => .blk b1 25 [gi r, gi a, gi b, gi d, gi x, gi y, gi w, gi c, gi g] :: Rest) (fun s => s ≤ 3) (fun s => 3 - s) 0 (by rfl) ?_ zsubs zml zente ?_)
  · exact Nat.zero_le _
  intro s hs
  rcases (show s = 0 ∨ s = 1 ∨ s = 2 ∨ s = 3 by omega) with rfl | rfl | rfl | rfl
  · (repeat' (first | refine zss ?_ | ((first | (with_reducible first | apply At.val | apply AtQ.val)); (exact pr_index_agg (k := 0) (by rfl) (by rfl) (by rfl) (by rfl) (by rfl) (by rfl) (by rfl)); exact rfl) | refine zs0 ?_ | ((with_reducible first | apply AtM1.callp | apply AtQ.callp | apply At.callp); kernel_rfl; exact rfl; exact rfl; exact p1) | ((with_reducible apply At.box (d := 1)); exact rfl; exact rfl; exact rfl; intro b1) | (refine zsp ?_ ?_ <;> (intro hc; (try simp only [zhcs, reduceCtorEq] at hc); (try (exfalso; first | omega | contradiction | omega | exact absurd rfl hc | exact absurd (by decide) hc))))))
    all_goals ((with_reducible refine At.reachk (1) ?_ ?_ ?_ ?_); exact zsubs; exact zml; exact zente; exact ⟨by decide, by decide⟩)
  · (repeat' (first | refine zss ?_ | ((first | (with_reducible first | apply At.val | apply AtQ.val)); (exact pr_index_agg (k := 1) (by rfl) (by rfl) (by rfl) (by rfl) (by rfl) (by rfl) (by rfl)); exact rfl) | refine zs0 ?_ | ((with_reducible first | apply AtM1.callp | apply AtQ.callp | apply At.callp); kernel_rfl; exact rfl; exact rfl; exact p2) | ((with_reducible apply At.box (d := 1)); exact rfl; exact rfl; exact rfl; intro b1) | (refine zsp ?_ ?_ <;> (intro hc; (try simp only [zhcs, reduceCtorEq] at hc); (try (exfalso; first | omega | contradiction | omega | exact absurd rfl hc | exact absurd (by decide) hc))))))
    all_goals ((with_reducible refine At.reachk (2) ?_ ?_ ?_ ?_); exact zsubs; exact zml; exact zente; exact ⟨by decide, by decide⟩)
  · (repeat' (first | refine zss ?_ | ((first | (with_reducible first | apply At.val | apply AtQ.val)); (exact pr_index_agg (k := 2) (by rfl) (by rfl) (by rfl) (by rfl) (by rfl) (by rfl) (by rfl)); exact rfl) | refine zs0 ?_ | ((with_reducible first | apply AtM1.callp | apply AtQ.callp | apply At.callp); kernel_rfl; exact rfl; exact rfl; exact p3) | ((with_reducible apply At.box (d := 1)); exact rfl; exact rfl; exact rfl; intro b1) | (refine zsp ?_ ?_ <;> (intro hc; (try simp only [zhcs, reduceCtorEq] at hc); (try (exfalso; first | omega | contradiction | omega | exact absurd rfl hc | exact absurd (by decide) hc))))))
    all_goals ((with_reducible refine At.reachk (3) ?_ ?_ ?_ ?_); exact zsubs; exact zml; exact zente; exact ⟨by decide, by decide⟩)
  · (repeat' (first | refine zss ?_ | refine zs0 ?_ | ((with_reducible apply At.box (d := 1)); exact rfl; exact rfl; exact rfl; intro b1) | (refine zsp ?_ ?_ <;> (intro hc; (try simp only [zhcs, reduceCtorEq] at hc); (try (exfalso; first | omega | contradiction | omega | exact absurd rfl hc | exact absurd (by decide) hc))))))
    all_goals ((with_reducible apply At.retB1 (B := [])); exact rfl; exact rfl; exact zml; exact zkp; exact ⟨rfl, rfl, rfl⟩)
end Conf
end Go.Proofs.YtkoijdmlehkhbaaGreatDoor
namespace Go.Proofs.YtkoijdmlehkhbaaGreatDoor
open Go Go.J
attribute [local irreducible] At AtQ AtM AtM1 PR Ct Pu Rd Res.blk Res.own Res.ex RVs RV
namespace Conf
def okB (L : List Int) (s : Nat) : Prop := okA L 3 ∧ (1 < s → L[2]! % L[1]! = 0 ∧ L[2]! / L[1]! ≤ L[4]!) ∧ (2 < s → L[3]! % L[2]! = 0 ∧ L[3]! / L[2]! ≤ L[5]!)
instance (L : List Int) (s : Nat) : Decidable (okB L s) := by unfold okB; infer_instance
def okC (L : List Int) : Prop := okB L 3 ∧ plc L < L[8]!
instance (L : List Int) : Decidable (okC L) := by unfold okC; infer_instance
def chk (L : List Int) : Int := if okC L then 0 else 2
theorem okA_zero (r a b d x y w c g : Int) : okA [r, a, b, d, x, y, w, c, g] 0 ↔ (1 ≤ r ∧ r ≤ 4096) ∧ (1 ≤ c ∧ c ≤ 65536) ∧ (1 ≤ g ∧ g ≤ 8192) :=
  ⟨fun h => ⟨h.1, h.2.1, h.2.2.1⟩, fun h => ⟨h.1, h.2.1, h.2.2, fun i hi => absurd hi (Nat.not_lt_zero i)⟩⟩
theorem okB_one (L : List Int) : okB L 1 ↔ okA L 3 := ⟨fun h => h.1, fun h => ⟨h, fun h => absurd h (by decide), fun h => absurd h (by decide)⟩⟩
theorem okB_two (r a b d x y w c g : Int) : okB [r, a, b, d, x, y, w, c, g] 2 ↔ okB [r, a, b, d, x, y, w, c, g] 1 ∧ (b % a = 0 ∧ b / a ≤ x) :=
  ⟨fun h => ⟨(okB_one _).2 h.1, h.2.1 (by decide)⟩, fun h => ⟨h.1.1, fun _ => h.2, fun h => absurd h (by decide)⟩⟩
theorem okB_three (r a b d x y w c g : Int) : okB [r, a, b, d, x, y, w, c, g] 3 ↔ okB [r, a, b, d, x, y, w, c, g] 2 ∧ (d % b = 0 ∧ d / b ≤ y) :=
  ⟨fun h => ⟨⟨h.1, fun _ => h.2.1 (by decide), fun h => absurd h (by decide)⟩, h.2.2 (by decide)⟩, fun h => ⟨h.1.1, fun _ => h.1.2.1 (by decide), fun _ => h.2⟩⟩
theorem and_false' {p q r : Prop} [Decidable r] (h : r ↔ p ∧ q) (hp : ¬ p) : false = decide r := (decide_eq_false fun hr => hp (h.1 hr).1).symm
theorem and_mid {p q s r : Prop} [Decidable r] (h : r ↔ p ∧ q ∧ s) (hq : ¬ q) : false = decide r := (decide_eq_false fun hr => hq (h.1 hr).2.1).symm
theorem and_last {p q s r : Prop} [Decidable r] [Decidable s] (h : r ↔ p ∧ q ∧ s) (hp : p) (hq : q) : decide s = decide r := decide_eq_decide.2 ⟨fun hs => h.2 ⟨hp, hq, hs⟩, fun hr => (h.1 hr).2.2⟩
set_option maxHeartbeats 2000000 in
theorem check (L : List Int) (hL : L.length = 9) : Pu Tryz.prog 58 #[cv L] (.int .i64 (chk L)) := Pu.intro fun m => by
  have hpl := place L hL
  obtain ⟨r, a, b, d, x, y, w, c, g, rfl⟩ := nine hL
  have z0 := okA_zero r a b d x y w c g
  have a1 : okA [r, a, b, d, x, y, w, c, g] 1 ↔ okA [r, a, b, d, x, y, w, c, g] 0 ∧ (1 ≤ a ∧ a ≤ 1099511627776) ∧ (1 ≤ x ∧ x ≤ 4096) := okA_succ _ 0
  have a2 : okA [r, a, b, d, x, y, w, c, g] 2 ↔ okA [r, a, b, d, x, y, w, c, g] 1 ∧ (1 ≤ b ∧ b ≤ 1099511627776) ∧ (1 ≤ y ∧ y ≤ 4096) := okA_succ _ 1
  have a3 : okA [r, a, b, d, x, y, w, c, g] 3 ↔ okA [r, a, b, d, x, y, w, c, g] 2 ∧ (1 ≤ d ∧ d ≤ 1099511627776) ∧ (1 ≤ w ∧ w ≤ 4096) := okA_succ _ 2
  have ob1 := okB_one [r, a, b, d, x, y, w, c, g]
  have ob2 := okB_two r a b d x y w c g
  have ob3 := okB_three r a b d x y w c g
  have hch : chk [r, a, b, d, x, y, w, c, g] = if okB [r, a, b, d, x, y, w, c, g] 3 ∧ plc [r, a, b, d, x, y, w, c, g] < g then 0 else 2 := rfl
  unfold cv at hpl ⊢
  simp only [List.map] at hpl ⊢
  generalize hL0 : [r, a, b, d, x, y, w, c, g] = L at z0 a1 a2 a3 ob1 ob2 ob3 hch hpl hL ⊢
  have v10 : IntKind.wrap .i64 (((1 : Nat) : Int) - 1) = ((0 : Nat) : Int) := rfl
  have v21 : IntKind.wrap .i64 (((2 : Nat) : Int) - 1) = ((1 : Nat) : Int) := rfl
  have hno : ∀ s, ¬ okB L s → chk L = 2 := fun s hs => by
    rw [hch]
    exact if_neg (fun h => hs ⟨h.1.1, fun _ => h.1.2.1 (by decide), fun _ => h.1.2.2 (by decide)⟩)
  have h2 : g ≤ plc L → chk L = 2 := fun h => by
    rw [hch]
    exact if_neg (fun hh => absurd hh.2 (by omega))
  have h0 : okB L 3 → ¬ g ≤ plc L → chk L = 0 := fun h1 h2 => by
    rw [hch]
    exact if_pos ⟨h1, by omega⟩
  have hbd : okA L 3 → (1 ≤ a ∧ a ≤ 1099511627776) ∧ (1 ≤ b ∧ b ≤ 1099511627776) ∧ (1 ≤ d ∧ d ≤ 1099511627776) := fun h => ⟨(a1.1 (a2.1 (a3.1 h).1).1).2.1, (a2.1 (a3.1 h).1).2.1, (a3.1 h).2.1⟩
  refine Ct.enterV (by rfl) Tryz.func58 rfl Tryz.ntmps58 rfl (fun w0 Rest => ?_)
  (repeat' (first | refine zss ?_ | refine zs0 ?_ | ((with_reducible first | apply AtM1.callp | apply AtQ.callp | apply At.callp); kernel_rfl; exact rfl; exact rfl; exact in_ _ _ _) | ((with_reducible apply At.box (d := 1)); exact rfl; exact rfl; exact rfl; intro b1) | (refine zsp ?_ ?_ <;> (intro hc; (try simp only [zhcs, reduceCtorEq] at hc); (try (exfalso; first | omega | contradiction | omega | exact absurd rfl hc | exact absurd (by decide) hc))))))
  all_goals (refine At.note (t := 3) (v' := .bool (decide (okA L 0))) (by rfl) (congrArg Value.bool (by first | exact and_false' z0 (by assumption) | exact and_mid z0 (by assumption) | exact and_last z0 (by assumption) (by assumption))) ?_)
  all_goals (refine At.loopk (σ := Nat) [1] (fun s F0 => (19, .int .i64 (s : Int)) :: (3, .bool (decide (okA L s))) :: F0) (fun s => m) (fun s => .blk b1 25 [gi r, gi a, gi b, gi d, gi x, gi y, gi w, gi c, gi g] :: Rest) (fun s => s ≤ 3) (fun s => 3 - s) 0 (by rfl) ?_ zsubs zml zente ?_)
  all_goals try exact Nat.zero_le _
  all_goals (intro s hs; rcases (show s = 0 ∨ s = 1 ∨ s = 2 ∨ s = 3 by omega) with rfl | rfl | rfl | rfl)
  all_goals (repeat' (first | refine zss ?_ | ((first | (with_reducible first | apply At.val | apply AtQ.val)); (exact pr_indexArr (by rfl) (by rfl) (by rfl) (by rfl) (by decide)); exact rfl) | refine zs0 ?_ | ((with_reducible first | apply AtM1.callp | apply AtQ.callp | apply At.callp); kernel_rfl; exact rfl; exact rfl; exact in64 _ _ _) | ((with_reducible first | apply AtM1.callp | apply AtQ.callp | apply At.callp); kernel_rfl; exact rfl; exact rfl; exact in_ _ _ _) | ((with_reducible apply At.box (d := 1)); exact rfl; exact rfl; exact rfl; intro b1) | (refine zsp ?_ ?_ <;> (intro hc; (try simp only [zhcs, reduceCtorEq] at hc); (try (exfalso; first | omega | contradiction | omega | exact absurd rfl hc | exact absurd (by decide) hc))))))
  all_goals try first
    | (refine At.note (t := 3) (v' := .bool (decide (okA L 1))) (by rfl) (congrArg Value.bool (by first | exact and_false' a1 (by assumption) | exact and_mid a1 (by assumption) | exact and_last a1 (by assumption) (by assumption))) ?_; ((with_reducible refine At.reachk (1) ?_ ?_ ?_ ?_); exact zsubs; exact zml; exact zente; exact ⟨by decide, by decide⟩))
    | (refine At.note (t := 3) (v' := .bool (decide (okA L 2))) (by rfl) (congrArg Value.bool (by first | exact and_false' a2 (by assumption) | exact and_mid a2 (by assumption) | exact and_last a2 (by assumption) (by assumption))) ?_; ((with_reducible refine At.reachk (2) ?_ ?_ ?_ ?_); exact zsubs; exact zml; exact zente; exact ⟨by decide, by decide⟩))
    | (refine At.note (t := 3) (v' := .bool (decide (okA L 3))) (by rfl) (congrArg Value.bool (by first | exact and_false' a3 (by assumption) | exact and_mid a3 (by assumption) | exact and_last a3 (by assumption) (by assumption))) ?_; ((with_reducible refine At.reachk (3) ?_ ?_ ?_ ?_); exact zsubs; exact zml; exact zente; exact ⟨by decide, by decide⟩))
  all_goals (refine At.note (t := 3) (v' := .bool (decide (okB L 1))) (by rfl) (congrArg Value.bool (decide_eq_decide.2 ob1.symm)) ?_)
  all_goals (refine At.loopk (σ := Nat) [1] (fun s F0 => (5, .int .i64 (s : Int)) :: (3, .bool (decide (okB L s))) :: F0) (fun s => m) (fun s => .blk b1 25 [gi r, gi a, gi b, gi d, gi x, gi y, gi w, gi c, gi g] :: Rest) (fun s => 1 ≤ s ∧ s ≤ 3) (fun s => 3 - s) 1 (by rfl) ?_ zsubs zml zente ?_)
  all_goals try exact ⟨by decide, by decide⟩
  all_goals (rintro s ⟨hs, hs2⟩; by_cases hB : okB L s)
  all_goals (try have hx := hbd hB.1)
  all_goals (try have hv := hno s hB)
  all_goals (rcases (show s = 1 ∨ s = 2 ∨ s = 3 by omega) with rfl | rfl | rfl)
  all_goals (repeat' (first | refine zss ?_ | ((first | (with_reducible first | apply At.val | apply AtQ.val)); (first | exact pr_sub (by rfl) (by rfl) v10 | exact pr_sub (by rfl) (by rfl) v21 | exact pr_indexArr (by rfl) (by rfl) (by rfl) (by rfl) (by decide)); exact rfl) | refine zs0 ?_ | ((with_reducible first | apply AtM1.callp | apply AtQ.callp | apply At.callp); kernel_rfl; exact rfl; exact rfl; exact hpl hB.1) | ((with_reducible apply At.box (d := 1)); exact rfl; exact rfl; exact rfl; intro b1) | (refine zsp ?_ ?_ <;> (intro hc; (try simp only [zhcs, reduceCtorEq] at hc); (try (exfalso; first | omega | contradiction | omega | exact absurd rfl hc | exact absurd (by decide) hc))))))
  all_goals first
    | (refine At.note (t := 3) (v' := .bool (decide (okB L 2))) (by rfl) (congrArg Value.bool (by first | exact and_false' ob2 (by assumption) | exact and_mid ob2 (by assumption) | exact and_last ob2 (by assumption) (by assumption))) ?_; ((with_reducible refine At.reachk (2) ?_ ?_ ?_ ?_); exact zsubs; exact zml; exact zente; exact ⟨⟨by decide, by decide⟩, by decide⟩))
    | (refine At.note (t := 3) (v' := .bool (decide (okB L 3))) (by rfl) (congrArg Value.bool (by first | exact and_false' ob3 (by assumption) | exact and_mid ob3 (by assumption) | exact and_last ob3 (by assumption) (by assumption))) ?_; ((with_reducible refine At.reachk (3) ?_ ?_ ?_ ?_); exact zsubs; exact zml; exact zente; exact ⟨⟨by decide, by decide⟩, by decide⟩))
    | ((with_reducible apply At.retB1 (B := [])); exact rfl; exact rfl; exact zml; exact zkp; exact ⟨congrArg (Value.int .i64) (Eq.symm (by first | assumption | exact h2 (by assumption) | exact h0 hB (by assumption))), rfl, rfl⟩)
end Conf
end Go.Proofs.YtkoijdmlehkhbaaGreatDoor
namespace Go.Proofs.YtkoijdmlehkhbaaGreatDoor
open Go Go.J
attribute [local irreducible] At AtQ AtM AtM1 PR Ct Pu Rd Res.blk Res.own Res.ex RVs RV
namespace Conf
abbrev kv (r a b d x y w c g : Int) : Value := .agg #[gi r, gi a, gi b, gi d, gi x, gi y, gi w, gi c, gi g]
/-- what a right one is -/
structure Ok (r a b d x y w c g : Int) : Prop where
  hr : 1 ≤ r ∧ r ≤ 4096
  ha : 1 ≤ a ∧ a ≤ 1099511627776
  hb : 1 ≤ b ∧ b ≤ 1099511627776
  hd : 1 ≤ d ∧ d ≤ 1099511627776
  hx : 1 ≤ x ∧ x ≤ 4096
  hy : 1 ≤ y ∧ y ≤ 4096
  hw : 1 ≤ w ∧ w ≤ 4096
  hc : 1 ≤ c ∧ c ≤ 65536
  hg : 1 ≤ g ∧ g ≤ 8192
  hba : b % a = 0 ∧ b / a ≤ x
  hdb : d % b = 0 ∧ d / b ≤ y
  hp : 1 + (r + 16 - 1) / 16 + (x + 4 - 1) / 4 + (y + 4 - 1) / 4 + (w + 4 - 1) / 4 < g
theorem okC_iff (r a b d x y w c g : Int) : okC [r, a, b, d, x, y, w, c, g] ↔ Ok r a b d x y w c g := by
  constructor
  · rintro ⟨⟨⟨h1, h2, h3, h4⟩, h5, h6⟩, h7⟩
    obtain ⟨a1, x1⟩ := h4 0 (by decide)
    obtain ⟨b1, y1⟩ := h4 1 (by decide)
    obtain ⟨d1, w1⟩ := h4 2 (by decide)
    exact ⟨h1, a1, b1, d1, x1, y1, w1, h2, h3, h5 (by decide), h6 (by decide), h7⟩
  · intro h
    refine ⟨⟨⟨h.hr, h.hc, h.hg, fun i hi => ?_⟩, fun _ => h.hba, fun _ => h.hdb⟩, h.hp⟩
    rcases (show i = 0 ∨ i = 1 ∨ i = 2 by omega) with rfl | rfl | rfl
    · exact ⟨h.ha, h.hx⟩
    · exact ⟨h.hb, h.hy⟩
    · exact ⟨h.hd, h.hw⟩
instance (r a b d x y w c g : Int) : Decidable (Ok r a b d x y w c g) := decidable_of_iff _ (okC_iff r a b d x y w c g)
section
variable {r a b d x y w c g : Int}
abbrev pl (r x y w : Int) : Int := 1 + (r + 16 - 1) / 16 + (x + 4 - 1) / 4 + (y + 4 - 1) / 4 + (w + 4 - 1) / 4
theorem checkK (h : Ok r a b d x y w c g) : Pu Tryz.prog 58 #[kv r a b d x y w c g] (.int .i64 0) := by
  have := check [r, a, b, d, x, y, w, c, g] rfl
  rw [show chk [r, a, b, d, x, y, w, c, g] = 0 from if_pos ((okC_iff ..).2 h)] at this
  exact this
theorem checkN (h : ¬ Ok r a b d x y w c g) : Pu Tryz.prog 58 #[kv r a b d x y w c g] (.int .i64 2) := by
  have := check [r, a, b, d, x, y, w, c, g] rfl
  rw [show chk [r, a, b, d, x, y, w, c, g] = 2 from if_neg (fun hh => h ((okC_iff ..).1 hh))] at this
  exact this
end
end Conf
end Go.Proofs.YtkoijdmlehkhbaaGreatDoor
namespace Go.Proofs.YtkoijdmlehkhbaaGreatDoor
open Go Go.J
attribute [local irreducible] At AtQ AtM AtM1 PR Ct Pu Rd Res.blk Res.own Res.ex RVs RV
/-- a slice: where it lies, and what it has -/
structure Lst (α : Type) where
  (p : Option Addr) (c : Nat) (l : List α)
abbrev Lst.v {α : Type} (x : Lst α) : Value := .slice x.p x.l.length x.c
abbrev Lst.nil {α : Type} : Lst α := ⟨none, 0, []⟩
/-- a configuration -/
structure Cfg where
  (r a b d x y w c g : Int)
namespace Cfg
abbrev cells (k : Cfg) : List Value := [.int .i64 k.r, .int .i64 k.a, .int .i64 k.b, .int .i64 k.d, .int .i64 k.x, .int .i64 k.y, .int .i64 k.w, .int .i64 k.c, .int .i64 k.g]
abbrev v (k : Cfg) : Value := .agg (cells k).toArray
def ok (k : Cfg) : Prop := Conf.Ok k.r k.a k.b k.d k.x k.y k.w k.c k.g
instance (k : Cfg) : Decidable k.ok := by unfold ok; infer_instance
def chk (k : Cfg) : Int := if k.ok then 0 else 2
theorem check (k : Cfg) : Pu Tryz.prog 58 #[k.v] (.int .i64 k.chk) := by
  unfold chk
  by_cases h : k.ok
  · rw [if_pos h]; exact Conf.checkK h
  · rw [if_neg h]; exact Conf.checkN h
end Cfg
namespace Se
open Win
abbrev pt (b : Nat) : Value := .pointer (some ⟨b, 0, none⟩)
abbrev t3v (a b c : Lst Slot) : Value := .agg #[a.v, b.v, c.v]
/-- a tier of so many windows, of such a width -/
def tk (l : List Slot) (n w : Int) : Prop := (l.length : Int) = n ∧ Ti.okT l w
instance (l : List Slot) (n w : Int) : Decidable (tk l n w) := by unfold tk; infer_instance
def fok (k : Cfg) (a b c : List Slot) : Prop := k.ok ∧ tk a k.x k.a ∧ tk b k.y k.b ∧ tk c k.w k.d
instance (k : Cfg) (a b c : List Slot) : Decidable (fok k a b c) := by unfold fok; infer_instance
theorem tchk {l : List Slot} {w : Int} (h : Ti.okT l w) : Ti.chk l w = 0 := if_pos h
theorem tchkN {l : List Slot} {w : Int} (h : ¬ Ti.okT l w) : Ti.chk l w = 2 := if_neg h
set_option maxRecDepth 100000 in
theorem openF {m : Mem} (k : Cfg) (a b c : Lst Slot) (ha : a.l.length ≤ 1000000) (hb : b.l.length ≤ 1000000) (hc0 : c.l.length ≤ 1000000) (ia : ∀ s ∈ a.l, Slot.In s) (ib : ∀ s ∈ b.l, Slot.In s) (ic : ∀ s ∈ c.l, Slot.In s)
    (sl0 : Sl m Slot.cells 15 a.p a.c a.l) (sl1 : Sl m Slot.cells 15 b.p b.c b.l) (sl2 : Sl m Slot.cells 15 c.p c.c c.l) :
    Ct Tryz.prog 160 #[k.v, t3v a b c] m [] (fun v m' B => m = m' ∧ ((fok k a.l b.l c.l ∧ ∃ q, v = .tuple #[pt q, .int .i64 0] ∧ B = [.blk q 248 (k.cells ++ [a.v, b.v, c.v])]) ∨ (¬ fok k a.l b.l c.l ∧ v = .tuple #[.pointer none, .int .i64 2] ∧ B = []))) := by
  have k0 := Cfg.check k
  unfold Cfg.chk at k0
  by_cases h0 : k.ok
  rotate_left
  · rw [if_neg h0] at k0
    refine Ct.enterV (by rfl) Tryz.func160 rfl Tryz.ntmps160 rfl (fun w0 Rest => ?_)
    (repeat' (first | refine zss ?_ | refine zsM ?_ | ((with_reducible first | apply AtM1.callp | apply AtQ.callp | apply At.callp); kernel_rfl; exact rfl; exact rfl; exact k0) | ((with_reducible apply At.box (d := 2)); exact rfl; exact rfl; exact rfl; intro b2) | ((with_reducible apply At.box (d := 3)); exact rfl; exact rfl; exact rfl; intro b3) | ((with_reducible apply At.box (d := 39)); exact rfl; exact rfl; exact rfl; intro b39) | (refine zsp ?_ ?_ <;> (intro hc; (try simp only [zhcs, reduceCtorEq] at hc); (try (exfalso; first | omega | contradiction | omega | exact absurd rfl hc | exact absurd (by decide) hc))))))
    all_goals ((with_reducible apply At.retV (B := [])); exact rfl; (repeat' (first | exact RVs.nil | (with_reducible apply RVs.cons) | exact rv_tmp (by rfl) | exact rv_cellN (by rfl) (by repeat constructor) (by rfl) (by rfl) (by rfl) | exact rv_cell1 (by rfl) (by repeat constructor) (by rfl) (by rfl))); exact zml; exact zkp; exact ⟨rfl, .inr ⟨fun h => h0 h.1, rfl, rfl⟩⟩)
  rw [if_pos h0] at k0
  have k1 := fun (m' : Mem) (h : m.le m') => Ti.check a.p a.c a.l k.a ia (sl0.mono h)
  have k2 := fun (m' : Mem) (h : m.le m') => Ti.check b.p b.c b.l k.b ib (sl1.mono h)
  have k3 := fun (m' : Mem) (h : m.le m') => Ti.check c.p c.c c.l k.d ic (sl2.mono h)
  refine Ct.enterV (by rfl) Tryz.func160 rfl Tryz.ntmps160 rfl (fun w0 Rest => ?_)
  (repeat' (first | refine zss ?_ | refine zsM ?_ | ((with_reducible first | apply AtM1.callp | apply AtQ.callp | apply At.callp); kernel_rfl; exact rfl; exact rfl; exact k0) | ((with_reducible apply At.box (d := 2)); exact rfl; exact rfl; exact rfl; intro b2) | ((with_reducible apply At.box (d := 3)); exact rfl; exact rfl; exact rfl; intro b3) | ((with_reducible apply At.box (d := 39)); exact rfl; exact rfl; exact rfl; intro b39) | (refine zsp ?_ ?_ <;> (intro hc; (try simp only [zhcs, reduceCtorEq] at hc); (try (exfalso; first | omega | contradiction | omega | exact absurd rfl hc | exact absurd (by decide) hc))))))
  (refine At.loopk (σ := Nat) [2, 3, 14] (fun s F0 => (15, .int .i64 (s : Int)) :: F0) (fun s => m) (fun s => .blk b3 55 [a.v, b.v, c.v] :: .blk b2 25 k.cells :: Rest) (fun s => s ≤ 3 ∧ (0 < s → tk a.l k.x k.a) ∧ (1 < s → tk b.l k.y k.b) ∧ (2 < s → tk c.l k.w k.d)) (fun s => 3 - s) 0 (by rfl) ?_ zsubs zml zente ?_)
  · exact ⟨Nat.zero_le _, fun h => absurd h (by decide), fun h => absurd h (by decide), fun h => absurd h (by decide)⟩
  rintro s ⟨hs, g0, g1, g2⟩
  rcases (show s = 0 ∨ s = 1 ∨ s = 2 ∨ s = 3 by omega) with rfl | rfl | rfl | rfl
  · clear k2 k3
    by_cases e1 : (a.l.length : Int) = k.x
    rotate_left
    · (repeat' (first | refine zss ?_ | ((first | (with_reducible first | apply At.val | apply AtQ.val)); (first | exact pr_index_agg (k := 0) (by rfl) (by rfl) (by rfl) (by rfl) (by rfl) (by rfl) (by rfl) | exact pr_indexArr (k := 0) (by rfl) (by rfl) (by rfl) (by rfl) (by decide)); exact rfl) | refine zsM ?_ | ((with_reducible apply At.box (d := 2)); exact rfl; exact rfl; exact rfl; intro b2) | ((with_reducible apply At.box (d := 3)); exact rfl; exact rfl; exact rfl; intro b3) | ((with_reducible apply At.box (d := 39)); exact rfl; exact rfl; exact rfl; intro b39) | (refine zsp ?_ ?_ <;> (intro hc; (try simp only [zhcs, reduceCtorEq] at hc); (try (exfalso; first | (first | omega | exact absurd hc e1) | contradiction | omega | exact absurd rfl hc | exact absurd (by decide) hc))))))
      all_goals ((with_reducible apply At.retV (B := [])); exact rfl; (repeat' (first | exact RVs.nil | (with_reducible apply RVs.cons) | exact rv_tmp (by rfl) | exact rv_cellN (by rfl) (by repeat constructor) (by rfl) (by rfl) (by rfl) | exact rv_cell1 (by rfl) (by repeat constructor) (by rfl) (by rfl))); exact zml; exact zkp; exact ⟨rfl, .inr ⟨fun h => e1 h.2.1.1, rfl, rfl⟩⟩)
    by_cases e2 : Ti.okT a.l k.a
    · rw [tchk e2] at k1
      (repeat' (first | refine zss ?_ | ((first | (with_reducible first | apply At.val | apply AtQ.val)); (first | exact pr_index_agg (k := 0) (by rfl) (by rfl) (by rfl) (by rfl) (by rfl) (by rfl) (by rfl) | exact pr_indexArr (k := 0) (by rfl) (by rfl) (by rfl) (by rfl) (by decide)); exact rfl) | refine zsM ?_ | ((with_reducible first | apply AtM1.cr | apply AtQ.cr | apply At.cr); exact rfl; exact rfl; exact fun _ hmm => k1 _ hmm; exact ztk; kernel_rfl) | ((with_reducible apply At.box (d := 2)); exact rfl; exact rfl; exact rfl; intro b2) | ((with_reducible apply At.box (d := 3)); exact rfl; exact rfl; exact rfl; intro b3) | ((with_reducible apply At.box (d := 39)); exact rfl; exact rfl; exact rfl; intro b39) | (refine zsp ?_ ?_ <;> (intro hc; (try simp only [zhcs, reduceCtorEq] at hc); (try (exfalso; first | (first | omega | exact absurd e1 hc) | contradiction | omega | exact absurd rfl hc | exact absurd (by decide) hc))))))
      all_goals ((with_reducible refine At.reachk (1) ?_ ?_ ?_ ?_); exact zsubs; exact zml; exact zente; exact ⟨⟨by decide, fun _ => ⟨e1, e2⟩, fun h => absurd h (by decide), fun h => absurd h (by decide)⟩, by decide⟩)
    · rw [tchkN e2] at k1
      (repeat' (first | refine zss ?_ | ((first | (with_reducible first | apply At.val | apply AtQ.val)); (first | exact pr_index_agg (k := 0) (by rfl) (by rfl) (by rfl) (by rfl) (by rfl) (by rfl) (by rfl) | exact pr_indexArr (k := 0) (by rfl) (by rfl) (by rfl) (by rfl) (by decide)); exact rfl) | refine zsM ?_ | ((with_reducible first | apply AtM1.cr | apply AtQ.cr | apply At.cr); exact rfl; exact rfl; exact fun _ hmm => k1 _ hmm; exact ztk; kernel_rfl) | ((with_reducible apply At.box (d := 2)); exact rfl; exact rfl; exact rfl; intro b2) | ((with_reducible apply At.box (d := 3)); exact rfl; exact rfl; exact rfl; intro b3) | ((with_reducible apply At.box (d := 39)); exact rfl; exact rfl; exact rfl; intro b39) | (refine zsp ?_ ?_ <;> (intro hc; (try simp only [zhcs, reduceCtorEq] at hc); (try (exfalso; first | (first | omega | exact absurd e1 hc) | contradiction | omega | exact absurd rfl hc | exact absurd (by decide) hc))))))
      all_goals ((with_reducible apply At.retV (B := [])); exact rfl; (repeat' (first | exact RVs.nil | (with_reducible apply RVs.cons) | exact rv_tmp (by rfl) | exact rv_cellN (by rfl) (by repeat constructor) (by rfl) (by rfl) (by rfl) | exact rv_cell1 (by rfl) (by repeat constructor) (by rfl) (by rfl))); exact zml; exact zkp; exact ⟨rfl, .inr ⟨fun h => e2 h.2.1.2, rfl, rfl⟩⟩)
  · clear k1 k3
    by_cases e1 : (b.l.length : Int) = k.y
    rotate_left
    · (repeat' (first | refine zss ?_ | ((first | (with_reducible first | apply At.val | apply AtQ.val)); (first | exact pr_index_agg (k := 1) (by rfl) (by rfl) (by rfl) (by rfl) (by rfl) (by rfl) (by rfl) | exact pr_indexArr (k := 1) (by rfl) (by rfl) (by rfl) (by rfl) (by decide)); exact rfl) | refine zsM ?_ | ((with_reducible apply At.box (d := 2)); exact rfl; exact rfl; exact rfl; intro b2) | ((with_reducible apply At.box (d := 3)); exact rfl; exact rfl; exact rfl; intro b3) | ((with_reducible apply At.box (d := 39)); exact rfl; exact rfl; exact rfl; intro b39) | (refine zsp ?_ ?_ <;> (intro hc; (try simp only [zhcs, reduceCtorEq] at hc); (try (exfalso; first | (first | omega | exact absurd hc e1) | contradiction | omega | exact absurd rfl hc | exact absurd (by decide) hc))))))
      all_goals ((with_reducible apply At.retV (B := [])); exact rfl; (repeat' (first | exact RVs.nil | (with_reducible apply RVs.cons) | exact rv_tmp (by rfl) | exact rv_cellN (by rfl) (by repeat constructor) (by rfl) (by rfl) (by rfl) | exact rv_cell1 (by rfl) (by repeat constructor) (by rfl) (by rfl))); exact zml; exact zkp; exact ⟨rfl, .inr ⟨fun h => e1 h.2.2.1.1, rfl, rfl⟩⟩)
    by_cases e2 : Ti.okT b.l k.b
    · rw [tchk e2] at k2
      (repeat' (first | refine zss ?_ | ((first | (with_reducible first | apply At.val | apply AtQ.val)); (first | exact pr_index_agg (k := 1) (by rfl) (by rfl) (by rfl) (by rfl) (by rfl) (by rfl) (by rfl) | exact pr_indexArr (k := 1) (by rfl) (by rfl) (by rfl) (by rfl) (by decide)); exact rfl) | refine zsM ?_ | ((with_reducible first | apply AtM1.cr | apply AtQ.cr | apply At.cr); exact rfl; exact rfl; exact fun _ hmm => k2 _ hmm; exact ztk; kernel_rfl) | ((with_reducible apply At.box (d := 2)); exact rfl; exact rfl; exact rfl; intro b2) | ((with_reducible apply At.box (d := 3)); exact rfl; exact rfl; exact rfl; intro b3) | ((with_reducible apply At.box (d := 39)); exact rfl; exact rfl; exact rfl; intro b39) | (refine zsp ?_ ?_ <;> (intro hc; (try simp only [zhcs, reduceCtorEq] at hc); (try (exfalso; first | (first | omega | exact absurd e1 hc) | contradiction | omega | exact absurd rfl hc | exact absurd (by decide) hc))))))
      all_goals ((with_reducible refine At.reachk (2) ?_ ?_ ?_ ?_); exact zsubs; exact zml; exact zente; exact ⟨⟨by decide, fun _ => g0 (by decide), fun _ => ⟨e1, e2⟩, fun h => absurd h (by decide)⟩, by decide⟩)
    · rw [tchkN e2] at k2
      (repeat' (first | refine zss ?_ | ((first | (with_reducible first | apply At.val | apply AtQ.val)); (first | exact pr_index_agg (k := 1) (by rfl) (by rfl) (by rfl) (by rfl) (by rfl) (by rfl) (by rfl) | exact pr_indexArr (k := 1) (by rfl) (by rfl) (by rfl) (by rfl) (by decide)); exact rfl) | refine zsM ?_ | ((with_reducible first | apply AtM1.cr | apply AtQ.cr | apply At.cr); exact rfl; exact rfl; exact fun _ hmm => k2 _ hmm; exact ztk; kernel_rfl) | ((with_reducible apply At.box (d := 2)); exact rfl; exact rfl; exact rfl; intro b2) | ((with_reducible apply At.box (d := 3)); exact rfl; exact rfl; exact rfl; intro b3) | ((with_reducible apply At.box (d := 39)); exact rfl; exact rfl; exact rfl; intro b39) | (refine zsp ?_ ?_ <;> (intro hc; (try simp only [zhcs, reduceCtorEq] at hc); (try (exfalso; first | (first | omega | exact absurd e1 hc) | contradiction | omega | exact absurd rfl hc | exact absurd (by decide) hc))))))
      all_goals ((with_reducible apply At.retV (B := [])); exact rfl; (repeat' (first | exact RVs.nil | (with_reducible apply RVs.cons) | exact rv_tmp (by rfl) | exact rv_cellN (by rfl) (by repeat constructor) (by rfl) (by rfl) (by rfl) | exact rv_cell1 (by rfl) (by repeat constructor) (by rfl) (by rfl))); exact zml; exact zkp; exact ⟨rfl, .inr ⟨fun h => e2 h.2.2.1.2, rfl, rfl⟩⟩)
  · clear k1 k2
    by_cases e1 : (c.l.length : Int) = k.w
    rotate_left
    · (repeat' (first | refine zss ?_ | ((first | (with_reducible first | apply At.val | apply AtQ.val)); (first | exact pr_index_agg (k := 2) (by rfl) (by rfl) (by rfl) (by rfl) (by rfl) (by rfl) (by rfl) | exact pr_indexArr (k := 2) (by rfl) (by rfl) (by rfl) (by rfl) (by decide)); exact rfl) | refine zsM ?_ | ((with_reducible apply At.box (d := 2)); exact rfl; exact rfl; exact rfl; intro b2) | ((with_reducible apply At.box (d := 3)); exact rfl; exact rfl; exact rfl; intro b3) | ((with_reducible apply At.box (d := 39)); exact rfl; exact rfl; exact rfl; intro b39) | (refine zsp ?_ ?_ <;> (intro hc; (try simp only [zhcs, reduceCtorEq] at hc); (try (exfalso; first | (first | omega | exact absurd hc e1) | contradiction | omega | exact absurd rfl hc | exact absurd (by decide) hc))))))
      all_goals ((with_reducible apply At.retV (B := [])); exact rfl; (repeat' (first | exact RVs.nil | (with_reducible apply RVs.cons) | exact rv_tmp (by rfl) | exact rv_cellN (by rfl) (by repeat constructor) (by rfl) (by rfl) (by rfl) | exact rv_cell1 (by rfl) (by repeat constructor) (by rfl) (by rfl))); exact zml; exact zkp; exact ⟨rfl, .inr ⟨fun h => e1 h.2.2.2.1, rfl, rfl⟩⟩)
    by_cases e2 : Ti.okT c.l k.d
    · rw [tchk e2] at k3
      (repeat' (first | refine zss ?_ | ((first | (with_reducible first | apply At.val | apply AtQ.val)); (first | exact pr_index_agg (k := 2) (by rfl) (by rfl) (by rfl) (by rfl) (by rfl) (by rfl) (by rfl) | exact pr_indexArr (k := 2) (by rfl) (by rfl) (by rfl) (by rfl) (by decide)); exact rfl) | refine zsM ?_ | ((with_reducible first | apply AtM1.cr | apply AtQ.cr | apply At.cr); exact rfl; exact rfl; exact fun _ hmm => k3 _ hmm; exact ztk; kernel_rfl) | ((with_reducible apply At.box (d := 2)); exact rfl; exact rfl; exact rfl; intro b2) | ((with_reducible apply At.box (d := 3)); exact rfl; exact rfl; exact rfl; intro b3) | ((with_reducible apply At.box (d := 39)); exact rfl; exact rfl; exact rfl; intro b39) | (refine zsp ?_ ?_ <;> (intro hc; (try simp only [zhcs, reduceCtorEq] at hc); (try (exfalso; first | (first | omega | exact absurd e1 hc) | contradiction | omega | exact absurd rfl hc | exact absurd (by decide) hc))))))
      all_goals ((with_reducible refine At.reachk (3) ?_ ?_ ?_ ?_); exact zsubs; exact zml; exact zente; exact ⟨⟨by decide, fun _ => g0 (by decide), fun _ => g1 (by decide), fun _ => ⟨e1, e2⟩⟩, by decide⟩)
    · rw [tchkN e2] at k3
      (repeat' (first | refine zss ?_ | ((first | (with_reducible first | apply At.val | apply AtQ.val)); (first | exact pr_index_agg (k := 2) (by rfl) (by rfl) (by rfl) (by rfl) (by rfl) (by rfl) (by rfl) | exact pr_indexArr (k := 2) (by rfl) (by rfl) (by rfl) (by rfl) (by decide)); exact rfl) | refine zsM ?_ | ((with_reducible first | apply AtM1.cr | apply AtQ.cr | apply At.cr); exact rfl; exact rfl; exact fun _ hmm => k3 _ hmm; exact ztk; kernel_rfl) | ((with_reducible apply At.box (d := 2)); exact rfl; exact rfl; exact rfl; intro b2) | ((with_reducible apply At.box (d := 3)); exact rfl; exact rfl; exact rfl; intro b3) | ((with_reducible apply At.box (d := 39)); exact rfl; exact rfl; exact rfl; intro b39) | (refine zsp ?_ ?_ <;> (intro hc; (try simp only [zhcs, reduceCtorEq] at hc); (try (exfalso; first | (first | omega | exact absurd e1 hc) | contradiction | omega | exact absurd rfl hc | exact absurd (by decide) hc))))))
      all_goals ((with_reducible apply At.retV (B := [])); exact rfl; (repeat' (first | exact RVs.nil | (with_reducible apply RVs.cons) | exact rv_tmp (by rfl) | exact rv_cellN (by rfl) (by repeat constructor) (by rfl) (by rfl) (by rfl) | exact rv_cell1 (by rfl) (by repeat constructor) (by rfl) (by rfl))); exact zml; exact zkp; exact ⟨rfl, .inr ⟨fun h => e2 h.2.2.2.2, rfl, rfl⟩⟩)
  · have hf : fok k a.l b.l c.l := ⟨h0, g0 (by decide), g1 (by decide), g2 (by decide)⟩
    clear k1 k2 k3
    (repeat' (first | refine zss ?_ | refine zsM ?_ | ((with_reducible apply At.box (d := 2)); exact rfl; exact rfl; exact rfl; intro b2) | ((with_reducible apply At.box (d := 3)); exact rfl; exact rfl; exact rfl; intro b3) | ((with_reducible apply At.box (d := 39)); exact rfl; exact rfl; exact rfl; intro b39) | (refine zsp ?_ ?_ <;> (intro hc; (try simp only [zhcs, reduceCtorEq] at hc); (try (exfalso; first | omega | contradiction | omega | exact absurd rfl hc | exact absurd (by decide) hc))))))
    all_goals ((with_reducible apply At.retV (B := [.blk b39 248 (k.cells ++ [a.v, b.v, c.v])])); exact rfl; (repeat' (first | exact RVs.nil | (with_reducible apply RVs.cons) | exact rv_tmp (by rfl) | exact rv_cellN (by rfl) (by repeat constructor) (by rfl) (by rfl) (by rfl) | exact rv_cell1 (by rfl) (by repeat constructor) (by rfl) (by rfl))); exact zml; exact zkp; exact ⟨rfl, .inl ⟨hf, b39, rfl, rfl⟩⟩)
def fchk (k : Cfg) (a b c : List Slot) : Int := if fok k a b c then 0 else 2
theorem checkF {m : Mem} (k : Cfg) (a b c : Lst Slot) (ha : a.l.length ≤ 1000000) (hb : b.l.length ≤ 1000000) (hc0 : c.l.length ≤ 1000000) (ia : ∀ s ∈ a.l, Slot.In s) (ib : ∀ s ∈ b.l, Slot.In s) (ic : ∀ s ∈ c.l, Slot.In s)
    (sl0 : Sl m Slot.cells 15 a.p a.c a.l) (sl1 : Sl m Slot.cells 15 b.p b.c b.l) (sl2 : Sl m Slot.cells 15 c.p c.c c.l) :
    Rd Tryz.prog 115 #[k.v, t3v a b c] m [] (.int .i64 (fchk k a.l b.l c.l)) := by
  unfold Rd
  have k0 := openF k a b c ha hb hc0 ia ib ic sl0 sl1 sl2
  unfold fchk
  refine Ct.enterV (by rfl) Tryz.func115 rfl Tryz.ntmps115 rfl (fun w0 Rest => ?_)
  (repeat' (first | refine zss ?_ | refine zsM ?_ | ((with_reducible first | apply At.c1 | apply At.c0); exact rfl; exact rfl; exact k0; exact ztk; kernel_rfl; rintro v' m' B' hm' ⟨rfl, hv⟩; (try replace sl0 := sl0.mono hm'); (try replace sl1 := sl1.mono hm'); (try replace sl2 := sl2.mono hm'); (try (have hq0 : hm' = Mem.le_refl _ := rfl; clear hq0 hm'))) | (rcases hv with ⟨hv, q', rfl, rfl⟩ | ⟨hv, rfl, rfl⟩) | ((with_reducible apply At.box (d := 2)); exact rfl; exact rfl; exact rfl; intro b2) | ((with_reducible apply At.box (d := 3)); exact rfl; exact rfl; exact rfl; intro b3) | (refine zsp ?_ ?_ <;> (intro hc; (try simp only [zhcs, reduceCtorEq] at hc); (try (exfalso; first | contradiction | omega | exact absurd rfl hc | exact absurd (by decide) hc))))))
  · rw [if_pos hv]
    ((with_reducible apply At.retB1 (B := [])); exact rfl; exact rfl; exact zml; exact zkp; exact ⟨rfl, rfl, rfl⟩)
  · rw [if_neg hv]
    ((with_reducible apply At.retB1 (B := [])); exact rfl; exact rfl; exact zml; exact zkp; exact ⟨rfl, rfl, rfl⟩)
end Se
end Go.Proofs.YtkoijdmlehkhbaaGreatDoor
namespace Go.Proofs.YtkoijdmlehkhbaaGreatDoor
open Go Go.J
/-- three lists of slots -/
structure L3 where
  (a b c : List Slot)
/-- three tiers -/
structure TT where
  (a b c : Lst Slot)
namespace TT
def ls (t : TT) : L3 := ⟨t.a.l, t.b.l, t.c.l⟩
def get (t : TT) : Nat → Lst Slot
  | 0 => t.a
  | 1 => t.b
  | _ => t.c
def set (t : TT) (n : Lst Slot) : Nat → TT
  | 0 => ⟨n, t.b, t.c⟩
  | 1 => ⟨t.a, n, t.c⟩
  | _ => ⟨t.a, t.b, n⟩
abbrev cells (t : TT) : List Value := [t.a.v, t.b.v, t.c.v]
abbrev v (t : TT) : Value := .agg #[t.a.v, t.b.v, t.c.v]
/-- a list of slots that lies where it says -/
structure OkL (m : Mem) (x : Lst Slot) : Prop where
  sl : Sl m Slot.cells 15 x.p x.c x.l
  i : ∀ s ∈ x.l, Slot.In s
  n : x.l.length ≤ 1000000
theorem OkL.mono {m m' : Mem} {x : Lst Slot} (h : OkL m x) (hm : m.le m') : OkL m' x := ⟨h.sl.mono hm, h.i, h.n⟩
structure Ok (m : Mem) (t : TT) : Prop where
  a : OkL m t.a
  b : OkL m t.b
  c : OkL m t.c
theorem Ok.mono {m m' : Mem} {t : TT} (h : Ok m t) (hm : m.le m') : Ok m' t := ⟨h.a.mono hm, h.b.mono hm, h.c.mono hm⟩
theorem Ok.get {m : Mem} {t : TT} (h : Ok m t) (k : Nat) : OkL m (t.get k) := by
  rcases k with _ | _ | k
  · exact h.a
  · exact h.b
  · exact h.c
theorem Ok.set {m : Mem} {t : TT} (h : Ok m t) {n : Lst Slot} (hn : OkL m n) (k : Nat) : Ok m (t.set n k) := by
  rcases k with _ | _ | k
  · exact ⟨hn, h.b, h.c⟩
  · exact ⟨h.a, hn, h.c⟩
  · exact ⟨h.a, h.b, hn⟩
end TT
namespace Fo
open Slot Win Ti
def Kw (K : Cfg) : Nat → Int
  | 0 => K.a
  | 1 => K.b
  | _ => K.d
theorem fits_i {x : Cell} {w i : Int} (h : fits x w i) : 0 ≤ i ∧ i ≤ 35184372088831 ∧ Cell.Full x ∧ 0 ≤ x.F.T ∧ x.F.T / w = i ∧ x.L.T / w = i ∧ 1 ≤ w := by
  obtain ⟨h1, h2, ⟨h3, h4⟩, h5, h6⟩ := h
  have hf : Cell.Full x := by
    unfold Cell.chk at h2
    by_cases k : Cell.ok x
    · rcases k with k | k
      · subst k; exact absurd rfl h1
      · exact k
    · rw [if_neg k] at h2; exact absurd h2 (by decide)
  rcases ofE_cases x.F.T w with ⟨k1, k2, k3⟩ | ⟨k1, k2, k3⟩
  · rcases ofE_cases x.L.T w with ⟨q1, q2, q3⟩ | ⟨q1, q2, q3⟩
    · have := ofV_bd x.F.T w
      rw [k3] at h4
      rw [q3] at h6
      unfold ofOk at k1
      exact ⟨by omega, by omega, hf, k1.1, h4, h6, k1.2.2.1⟩
    · rw [q2] at h5; exact absurd h5 (by decide)
  · rw [k2] at h3; exact absurd h3 (by decide)
theorem allC_in : ∀ (l : List Cell) (c : Cell), Cell.In c → (∀ x ∈ l, Cell.In x) → Cell.In (Cell.allC c l).1
  | [], c, hc, _ => hc
  | x :: l, c, hc, h => by
    unfold Cell.allC
    split
    · exact Cell.z_in
    · exact allC_in l _ (Cell.mrg_in hc (h x (List.mem_cons_self ..))) fun y hy => h y (List.mem_cons_of_mem _ hy)
theorem slot_cell {s : Slot} (h : Slot.In s) : Cell.In s.c := ⟨h.2.1, h.2.2.1, h.2.2.2.1, h.2.2.2.2⟩
theorem foldC_in {l : List Slot} (h : ∀ s ∈ l, Slot.In s) (i k : Int) : Cell.In (foldC l i k).1 := by
  unfold foldC
  split
  · exact Cell.z_in
  · refine allC_in _ _ Cell.z_in fun x hx => ?_
    obtain ⟨s, hs, rfl⟩ := List.mem_map.1 hx
    exact slot_cell (h s (alls_mem.1 (List.mem_filter.1 hs).1).1)
end Fo
end Go.Proofs.YtkoijdmlehkhbaaGreatDoor
namespace Go.Proofs.YtkoijdmlehkhbaaGreatDoor
open Go Go.J
namespace Gr
open Cell Ti
/-- right events, one behind the other -/
def Good (l : List Ev) : Prop := (∀ e ∈ l, e.ok ∧ e.V < 18446744073709551616) ∧ Mrg.Asc l
def cel (l : List Ev) : Cell := l.foldl add z
def win (w i : Int) (l : List Ev) : List Ev := l.filter fun e => decide (e.T / w = i)
/-- a window's cell -/
def G (w : Int) (l : List Ev) (i : Int) : Cell := cel (win w i l)
theorem div_div {t w f : Int} (hw : 0 < w) : t / (w * f) = t / w / f := (Int.ediv_ediv_of_nonneg (Int.le_of_lt hw)).symm
/-- what a tier has of events, when a window is open -/
structure Lv (w n : Int) (es : List Ev) (c : Int) (l : List Slot) : Prop where
  ok : okT l w
  len : (l.length : Int) = n
  snd : ∀ s ∈ l, keep s = true → s.w < c ∧ s.c = G w es s.w
  own : ∀ s ∈ l, keep s = true → ∀ e ∈ es, s.w < e.T / w → e.T / w < c → e.T / w % n ≠ s.w % n
  all : ∀ e ∈ es, e.T / w < c → (∀ x ∈ es, e.T / w < x.T / w → x.T / w < c → x.T / w % n ≠ e.T / w % n) → (⟨e.T / w, G w es (e.T / w)⟩ : Slot) ∈ l
theorem Lv.later {w n c c' : Int} {es : List Ev} {l : List Slot} (h : Lv w n es c l) (hc : c ≤ c') (hmax : ∀ e ∈ es, e.T / w < c) : Lv w n es c' l :=
  ⟨h.ok, h.len, fun s hs ks => ⟨by have := (h.snd s hs ks).1; omega, (h.snd s hs ks).2⟩, fun s hs ks e he h1 _ => h.own s hs ks e he h1 (hmax e he), fun e he _ h2 => h.all e he (hmax e he) fun x hx h3 h4 => h2 x hx h3 (by omega)⟩
theorem win_snoc {w i : Int} {es : List Ev} {e : Ev} (h : e.T / w ≠ i) : win w i (es ++ [e]) = win w i es := by
  unfold win
  rw [List.filter_append, List.filter_cons_of_neg (by simpa using h), List.filter_nil, List.append_nil]
theorem Lv.add {w n c : Int} {es : List Ev} {l : List Slot} {e : Ev} (h : Lv w n es c l) (hc : c ≤ e.T / w) : Lv w n (es ++ [e]) c l :=
  ⟨h.ok, h.len, fun s hs ks => by
    obtain ⟨h1, h2⟩ := h.snd s hs ks
    exact ⟨h1, by unfold G; rw [win_snoc (by omega)]; exact h2⟩, fun s hs ks x hx h1 h2 => by
    rcases List.mem_append.1 hx with hx | hx
    · exact h.own s hs ks x hx h1 h2
    · rw [List.mem_singleton.1 hx] at h2
      omega, fun x hx h1 h2 => by
    rcases List.mem_append.1 hx with hx | hx
    · have := h.all x hx h1 fun y hy h3 h4 => h2 y (List.mem_append_left _ hy) h3 h4
      unfold G
      rw [win_snoc (by omega)]
      exact this
    · rw [List.mem_singleton.1 hx] at h1
      omega⟩
end Gr
end Go.Proofs.YtkoijdmlehkhbaaGreatDoor
namespace Go.J
open Go
section
variable {P : Program} {n : Nat} {w0 : World} {F : Fr} {m : Mem} {Rs Rs' : List Res} {Q : Exit → Act → World → Prop} {K : Act → World → Prop} {E : TypeId} {p : Option Addr} {c : Nat} {L : List Int}
theorem Pu.ct {f : FuncId} {args : Array Value} {V : Value} (h : Pu P f args V) (m : Mem) : Ct P f args m [] (fun v m' B => v = V ∧ m = m' ∧ B = []) := (h m).mono fun _ _ _ _ ⟨a, b, c⟩ => ⟨a, b.symm, c⟩
end
end Go.J
