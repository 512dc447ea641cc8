/- Part 9 of what the law's proof needs: rules of the walk, contracts of functions, plain laws. No condition. -/
import Derived.Test.YtkoijdmlehkhbaaGreatDoorTrLWZ8
set_option linter.unusedSimpArgs false
set_option linter.unusedVariables false
set_option linter.unusedSectionVars false
set_option maxRecDepth 20000
set_option maxHeartbeats 4000000
namespace Go.Proofs.YtkoijdmlehkhbaaGreatDoor
open Go Go.J
attribute [local irreducible] At AtQ AtM AtM1 PR Ct Pu Rd Res.blk Res.own Res.ex RVs RV
namespace Cell
open Ev Wide
instance : Inhabited Cell := ⟨z⟩
def allC : Cell → List Cell → Cell × Int
  | c, [] => (c, 0)
  | c, x :: l => if (mrg c x).2 ≠ 0 then (z, (mrg c x).2) else allC (mrg c x).1 l
theorem allC_step {l : List Cell} {i : Nat} (h : i < l.length) (c : Cell) : allC c (l.drop i) = if (mrg c (l[i]!)).2 ≠ 0 then (z, (mrg c (l[i]!)).2) else allC (mrg c (l[i]!)).1 (l.drop (i + 1)) := by
  rw [List.drop_eq_getElem_cons h, getElem!_pos l i h]; rfl
theorem zv : Value.agg #[.int .i64 0, .int .i64 0, .int .u64 0, .int .i64 0, .bool false, .int .i64 0, .int .u64 0, .int .i64 0, .bool false, .int .u64 0, .int .u64 0, .int .i64 0, .int .i64 0, .int .i64 0] = z.v := rfl
structure AS where
  (i : Nat) (c : Cell)
theorem all {m : Mem} (p : Option Addr) (c : Nat) (l : List Cell) (hl : l.length ≤ 1000000) (hi : ∀ x ∈ l, In x) (sl0 : Sl m cells 14 p c l) :
    Ct Tryz.prog 174 #[.slice p l.length c] m [] (fun v m' B => v = .tuple #[(allC z l).1.v, .int .i64 (allC z l).2] ∧ m = m' ∧ B = []) := by
  refine Ct.enterV (by rfl) Tryz.func174 rfl Tryz.ntmps174 rfl (fun w0 Rest => ?_)
  (repeat' (first | refine zss ?_ | refine zsM ?_ | ((with_reducible apply At.alloc (d := 2)); exact rfl; exact rfl; intro b2) | ((with_reducible apply At.alloc (d := 4)); exact rfl; exact rfl; intro b4) | ((with_reducible apply At.alloc (d := 6)); exact rfl; exact rfl; intro b6) | ((with_reducible apply At.alloc (d := 7)); exact rfl; exact rfl; intro b7) | (refine zsp ?_ ?_ <;> (intro hc; (try simp only [zhcs, reduceCtorEq] at hc); (try (exfalso; first | contradiction | omega | exact absurd rfl hc | exact absurd (by decide) hc))))))
  change At _ w0 _ m (Res.blk b4 59 (cells z) :: Res.blk b2 59 (cells z) :: Rest) _
  (refine At.loopk (σ := AS) [2, 4, 9, 10] (fun s F0 => (11, .int .i64 (s.i : Int)) :: F0) (fun s => m) (fun s => .blk b4 59 (cells s.c) :: .blk b2 59 (cells z) :: Rest) (fun s => s.i ≤ l.length ∧ In s.c ∧ allC s.c (l.drop s.i) = allC z l) (fun s => l.length - s.i) ⟨0, z⟩ (by rfl) ?_ zsubs zml zente ?_)
  · exact ⟨Nat.zero_le _, z_in, rfl⟩
  rintro ⟨i, x⟩ ⟨h1, h2, h3⟩
  dsimp only at h1 h2 h3 ⊢
  by_cases h : i < l.length
  · have hy : In (l[i]!) := by rw [getElem!_pos l i h]; exact hi _ (List.getElem_mem h)
    have km := merge x (l[i]!) h2 hy
    have hin := mrg_in h2 hy
    rw [allC_step h] at h3
    rcases hr : mrg x (l[i]!) with ⟨y, w⟩
    rw [hr] at km h3 hin
    dsimp only at km h3 hin
    by_cases hw : w = 0
    · subst hw
      rw [if_neg (fun hh => hh rfl)] at h3
      (repeat' (first | refine zss ?_ | refine zsM ?_ | ((with_reducible first | apply AtM1.callp | apply AtQ.callp | apply At.callp); kernel_rfl; exact rfl; exact rfl; exact km) | ((with_reducible apply At.alloc (d := 2)); exact rfl; exact rfl; intro b2) | ((with_reducible apply At.alloc (d := 4)); exact rfl; exact rfl; intro b4) | ((with_reducible apply At.alloc (d := 6)); exact rfl; exact rfl; intro b6) | ((with_reducible apply At.alloc (d := 7)); exact rfl; exact rfl; intro b7) | (refine zsp ?_ ?_ <;> (intro hc; (try simp only [zhcs, reduceCtorEq] at hc); (try (exfalso; first | omega | contradiction | omega | exact absurd rfl hc | exact absurd (by decide) hc))))))
      all_goals ((with_reducible refine At.reachk (⟨i + 1, y⟩) ?_ ?_ ?_ ?_); exact zsubs; exact zml; exact zente; exact ⟨⟨h, hin, h3⟩, by show l.length - (i + 1) < l.length - i; omega⟩)
    · rw [if_pos hw] at h3
      rw [← h3]
      (repeat' (first | refine zss ?_ | refine zsM ?_ | ((with_reducible first | apply AtM1.callp | apply AtQ.callp | apply At.callp); kernel_rfl; exact rfl; exact rfl; exact km) | ((with_reducible apply At.alloc (d := 2)); exact rfl; exact rfl; intro b2) | ((with_reducible apply At.alloc (d := 4)); exact rfl; exact rfl; intro b4) | ((with_reducible apply At.alloc (d := 6)); exact rfl; exact rfl; intro b6) | ((with_reducible apply At.alloc (d := 7)); exact rfl; exact rfl; intro b7) | (refine zsp ?_ ?_ <;> (intro hc; (try simp only [zhcs, reduceCtorEq] at hc); (try (exfalso; first | (first | omega | exact absurd hc hw) | contradiction | omega | exact absurd rfl hc | exact absurd (by decide) hc))))))
      all_goals ((with_reducible apply At.retV (B := [])); exact rfl; (repeat' (first | exact RVs.nil | (with_reducible apply RVs.cons) | exact rv_tmp (by rfl) | exact rv_cellN (by rfl) (by repeat constructor) (by rfl) (by rfl) (by rfl) | exact rv_cell1 (by rfl) (by repeat constructor) (by rfl) (by rfl))); exact zml; exact zkp; exact ⟨congrArg (fun v => Value.tuple #[v, .int .i64 w]) zv, rfl, rfl⟩)
  · rw [List.drop_eq_nil_of_le (by omega)] at h3
    rw [← h3]
    (repeat' (first | refine zss ?_ | refine zsM ?_ | ((with_reducible apply At.alloc (d := 2)); exact rfl; exact rfl; intro b2) | ((with_reducible apply At.alloc (d := 4)); exact rfl; exact rfl; intro b4) | ((with_reducible apply At.alloc (d := 6)); exact rfl; exact rfl; intro b6) | ((with_reducible apply At.alloc (d := 7)); exact rfl; exact rfl; intro b7) | (refine zsp ?_ ?_ <;> (intro hc; (try simp only [zhcs, reduceCtorEq] at hc); (try (exfalso; first | omega | contradiction | omega | exact absurd rfl hc | exact absurd (by decide) hc))))))
    all_goals ((with_reducible apply At.retV (B := [])); exact rfl; (repeat' (first | exact RVs.nil | (with_reducible apply RVs.cons) | exact rv_tmp (by rfl) | exact rv_cellN (by rfl) (by repeat constructor) (by rfl) (by rfl) (by rfl) | exact rv_cell1 (by rfl) (by repeat constructor) (by rfl) (by rfl))); exact zml; exact zkp; exact ⟨rfl, rfl, rfl⟩)
theorem fold_take {l : List Ev} {i : Nat} (h : i < l.length) (c : Cell) : (l.take (i + 1)).foldl add c = add ((l.take i).foldl add c) (l[i]!) := by
  have e : l.take (i + 1) = l.take i ++ [l[i]!] := by rw [List.take_add_one, getElem!_pos l i h]; simp [h]
  rw [e, List.foldl_append]; rfl
/-- what so many of the events come to -/
structure Upto (l : List Ev) (i : Nat) (c : Cell) : Prop where
  le : i ≤ l.length
  eq : c = (l.take i).foldl add z
  st : i = 0 ∨ (Full c ∧ c.L = l[i - 1]!)
  asc : ∀ j, j + 1 < i → (l[j]!).T < (l[j + 1]!).T
  inn : In c
theorem Upto.zero (l : List Ev) : Upto l 0 z := ⟨Nat.zero_le _, rfl, .inl rfl, fun j h => absurd h (Nat.not_lt_zero _), z_in⟩
theorem Upto.next {l : List Ev} {i : Nat} {c : Cell} (h : Upto l i c) (hi : i < l.length) (ok : Mrg.aok l) (hV : ∀ e ∈ l, e.V < 18446744073709551616) (ha : i = 0 ∨ (l[i - 1]!).T < (l[i]!).T) :
    Upto l (i + 1) (add c (l[i]!)) ∧ mrg c (one (l[i]!)) = (add c (l[i]!), 0) := by
  have hm : l[i]! ∈ l := by rw [getElem!_pos l i hi]; exact List.getElem_mem hi
  have hc : c = z ∨ (Full c ∧ c.L.T < (l[i]!).T) := by
    rcases h.st with h0 | ⟨h1, h2⟩
    · subst h0; exact .inl h.eq
    · rcases ha with h0 | ha
      · subst h0; exact .inl h.eq
      · exact .inr ⟨h1, by rw [h2]; exact ha⟩
  obtain ⟨f1, f2, f3⟩ := add_full hc (ok i hi) (hV _ hm)
  refine ⟨⟨hi, by rw [fold_take hi, ← h.eq], .inr ⟨f1, f2⟩, fun j hj => ?_, f1.in ?_ (by rw [f2]; exact hV _ hm)⟩, f3⟩
  · rcases Nat.lt_or_ge (j + 1) i with g | g
    · exact h.asc j g
    · have e : j + 1 = i := by omega
      rcases ha with h0 | ha
      · omega
      · rw [← e] at ha; exact ha
  · unfold add
    split
    · exact hV _ hm
    · exact h.inn.2.1
theorem Upto.bad {l : List Ev} {i : Nat} {c : Cell} (h : Upto l i c) (hi : i < l.length) (ok : Mrg.aok l) (ha : ¬ (i = 0 ∨ (l[i - 1]!).T < (l[i]!).T)) : mrg c (one (l[i]!)) = (z, 9) ∧ ofL l = (z, 9) := by
  have h0 : i ≠ 0 := fun h => ha (.inl h)
  have h1 : ¬ (l[i - 1]!).T < (l[i]!).T := fun h => ha (.inr h)
  obtain ⟨g1, g2⟩ := h.st.resolve_left h0
  have fo := one_full (ok i hi)
  constructor
  · unfold mrg
    rw [if_neg (not_not_intro ⟨.inr g1, .inr fo⟩), if_neg g1.ne, if_neg fo.ne, if_pos]
    show (l[i]!).T ≤ c.L.T
    rw [g2]; omega
  · have hn : ¬ Mrg.asc l := fun hh => h1 (by
      have := hh (i - 1) (by omega)
      rwa [show i - 1 + 1 = i by omega] at this)
    have e : Mrg.chk l = 9 := by unfold Mrg.chk; rw [if_pos ok, if_neg hn]
    unfold ofL
    rw [e]; rfl
theorem Upto.done {l : List Ev} {c : Cell} (h : Upto l l.length c) (ok : Mrg.aok l) : ofL l = (c, 0) := by
  have ha : Mrg.asc l := fun j hj => h.asc j (by omega)
  have e : Mrg.chk l = 0 := by unfold Mrg.chk; rw [if_pos ok, if_pos ha]
  unfold ofL
  rw [e, if_neg (fun h => h rfl), h.eq, List.take_length]
theorem of_bad {l : List Ev} {i : Nat} (hi : i < l.length) (h : ¬ (l[i]!).ok) : ofL l = (z, 2) := by
  have e : Mrg.chk l = 2 := if_neg (fun ok => h (ok i hi))
  unfold ofL
  rw [e]; rfl
set_option maxHeartbeats 1000000 in
theorem of_ {m : Mem} (p : Option Addr) (c : Nat) (l : List Ev) (hl : l.length ≤ 1000000) (hV : ∀ e ∈ l, e.V < 18446744073709551616) (sl0 : Sl m Ev.cells 4 p c l) :
    Ct Tryz.prog 18 #[.slice p l.length c] m [] (fun v m' B => v = .tuple #[(ofL l).1.v, .int .i64 (ofL l).2] ∧ m = m' ∧ B = []) := by
  refine Ct.enterV (by rfl) Tryz.func18 rfl Tryz.ntmps18 rfl (fun w0 Rest => ?_)
  (repeat' (first | refine zss ?_ | refine zsM ?_ | ((with_reducible apply At.alloc (d := 2)); exact rfl; exact rfl; intro b2) | ((with_reducible apply At.alloc (d := 5)); exact rfl; exact rfl; intro b5) | ((with_reducible apply At.alloc (d := 7)); exact rfl; exact rfl; intro b7) | ((with_reducible apply At.alloc (d := 9)); exact rfl; exact rfl; intro b9) | ((with_reducible apply At.alloc (d := 10)); exact rfl; exact rfl; intro b10) | (refine zsp ?_ ?_ <;> (intro hc; (try simp only [zhcs, reduceCtorEq] at hc); (try (exfalso; first | contradiction | omega | exact absurd rfl hc | exact absurd (by decide) hc))))))
  change At _ w0 _ m (Res.blk b2 59 (cells z) :: Rest) _
  (refine At.loopk (σ := Nat) [0, 2, 12, 13] (fun s F0 => (14, .int .i64 (s : Int)) :: F0) (fun s => m) (fun s => .blk b2 59 (cells z) :: Rest) (fun s => s ≤ l.length ∧ ∀ i, i < s → (l[i]!).ok) (fun s => l.length - s) 0 (by rfl) ?_ zsubs zml zente ?_)
  · exact ⟨Nat.zero_le _, fun i h => absurd h (Nat.not_lt_zero i)⟩
  rintro s ⟨hs, hn⟩
  by_cases h : s < l.length
  · have hk := Ev.check (l[s]!)
    by_cases ho : (l[s]!).ok
    · rw [show (l[s]!).chk = 0 from if_pos ho] at hk
      have hnn : ∀ i, i < s + 1 → (l[i]!).ok := fun i hi => by
        by_cases e : i = s
        · subst e; exact ho
        · exact hn i (by omega)
      (repeat' (first | refine zss ?_ | refine zsM ?_ | ((with_reducible first | apply AtM1.callp | apply AtQ.callp | apply At.callp); kernel_rfl; exact rfl; exact rfl; exact hk) | ((with_reducible apply At.alloc (d := 2)); exact rfl; exact rfl; intro b2) | ((with_reducible apply At.alloc (d := 5)); exact rfl; exact rfl; intro b5) | ((with_reducible apply At.alloc (d := 7)); exact rfl; exact rfl; intro b7) | ((with_reducible apply At.alloc (d := 9)); exact rfl; exact rfl; intro b9) | ((with_reducible apply At.alloc (d := 10)); exact rfl; exact rfl; intro b10) | (refine zsp ?_ ?_ <;> (intro hc; (try simp only [zhcs, reduceCtorEq] at hc); (try (exfalso; first | omega | contradiction | omega | exact absurd rfl hc | exact absurd (by decide) hc))))))
      all_goals ((with_reducible refine At.reachk ((s + 1)) ?_ ?_ ?_ ?_); exact zsubs; exact zml; exact zente; exact ⟨⟨h, hnn⟩, by omega⟩)
    · rw [show (l[s]!).chk = 2 from if_neg ho] at hk
      rw [of_bad h ho]
      (repeat' (first | refine zss ?_ | refine zsM ?_ | ((with_reducible first | apply AtM1.callp | apply AtQ.callp | apply At.callp); kernel_rfl; exact rfl; exact rfl; exact hk) | ((with_reducible apply At.alloc (d := 2)); exact rfl; exact rfl; intro b2) | ((with_reducible apply At.alloc (d := 5)); exact rfl; exact rfl; intro b5) | ((with_reducible apply At.alloc (d := 7)); exact rfl; exact rfl; intro b7) | ((with_reducible apply At.alloc (d := 9)); exact rfl; exact rfl; intro b9) | ((with_reducible apply At.alloc (d := 10)); exact rfl; exact rfl; intro b10) | (refine zsp ?_ ?_ <;> (intro hc; (try simp only [zhcs, reduceCtorEq] at hc); (try (exfalso; first | omega | contradiction | omega | exact absurd rfl hc | exact absurd (by decide) hc))))))
      all_goals ((with_reducible apply At.retV (B := [])); exact rfl; (repeat' (first | exact RVs.nil | (with_reducible apply RVs.cons) | exact rv_tmp (by rfl) | exact rv_cellN (by rfl) (by repeat constructor) (by rfl) (by rfl) (by rfl) | exact rv_cell1 (by rfl) (by repeat constructor) (by rfl) (by rfl))); exact zml; exact zkp; exact ⟨rfl, rfl, rfl⟩)
  · have ok : Mrg.aok l := fun i hi => hn i (by omega)
    (repeat' (first | refine zss ?_ | refine zsM ?_ | ((with_reducible apply At.alloc (d := 2)); exact rfl; exact rfl; intro b2) | ((with_reducible apply At.alloc (d := 5)); exact rfl; exact rfl; intro b5) | ((with_reducible apply At.alloc (d := 7)); exact rfl; exact rfl; intro b7) | ((with_reducible apply At.alloc (d := 9)); exact rfl; exact rfl; intro b9) | ((with_reducible apply At.alloc (d := 10)); exact rfl; exact rfl; intro b10) | (refine zsp ?_ ?_ <;> (intro hc; (try simp only [zhcs, reduceCtorEq] at hc); (try (exfalso; first | omega | contradiction | omega | exact absurd rfl hc | exact absurd (by decide) hc))))))
    change At _ w0 _ m (Res.blk b7 59 (cells z) :: Res.blk b2 59 (cells z) :: Rest) _
    (refine At.loopk (σ := AS) [2, 7, 25, 26] (fun s F0 => (27, .int .i64 (s.i : Int)) :: F0) (fun s => m) (fun s => .blk b7 59 (cells s.c) :: .blk b2 59 (cells z) :: Rest) (fun s => Upto l s.i s.c) (fun s => l.length - s.i) ⟨0, z⟩ (by rfl) ?_ zsubs zml zente ?_)
    · exact Upto.zero l
    rintro ⟨i, x⟩ hu
    dsimp only at hu ⊢
    have hle := hu.le
    by_cases hi : i < l.length
    · have hm : l[i]! ∈ l := by rw [getElem!_pos l i hi]; exact List.getElem_mem hi
      have km := merge x (one (l[i]!)) hu.inn (one_in (hV _ hm))
      have ko := one_ (l[i]!)
      by_cases ha : i = 0 ∨ (l[i - 1]!).T < (l[i]!).T
      · obtain ⟨u1, u2⟩ := hu.next hi ok hV ha
        rw [u2] at km
        obtain ⟨y, ey⟩ : ∃ y, add x (l[i]!) = y := ⟨_, rfl⟩
        rw [ey] at km u1
        (repeat' (first | ((with_reducible apply At.mixed (id := 12) 10 (.q 0 (.q 1 (.q 2 (.q 3 (.q 4 (.q 5 (.q 6 (.l 7 (.x 8 (.q 9 .done))))))))))); exact rfl; kernel_rfl; kernel_rfl; kernel_rfl) | refine zsx ?_ | refine zss ?_ | ((with_reducible apply AtM.bo); exact rfl; exact rfl; exact rfl) | refine zsM ?_ | refine zxM ?_ | ((with_reducible first | apply AtM1.callp | apply AtQ.callp | apply At.callp); kernel_rfl; exact rfl; exact rfl; exact ko) | ((with_reducible first | apply AtM1.callp | apply AtQ.callp | apply At.callp); kernel_rfl; exact rfl; exact rfl; exact km) | ((with_reducible apply At.alloc (d := 2)); exact rfl; exact rfl; intro b2) | ((with_reducible apply At.alloc (d := 5)); exact rfl; exact rfl; intro b5) | ((with_reducible apply At.alloc (d := 7)); exact rfl; exact rfl; intro b7) | ((with_reducible apply At.alloc (d := 9)); exact rfl; exact rfl; intro b9) | ((with_reducible apply At.alloc (d := 10)); exact rfl; exact rfl; intro b10) | (refine zsp ?_ ?_ <;> (intro hc; (try simp only [zhcs, reduceCtorEq] at hc); (try (exfalso; first | omega | contradiction | omega | exact absurd rfl hc | exact absurd (by decide) hc))))))
        all_goals ((with_reducible refine At.reachk (⟨i + 1, y⟩) ?_ ?_ ?_ ?_); exact zsubs; exact zml; exact zente; exact ⟨u1, by show l.length - (i + 1) < l.length - i; omega⟩)
      · obtain ⟨u1, u2⟩ := hu.bad hi ok ha
        rw [u1] at km
        rw [u2]
        (repeat' (first | ((with_reducible apply At.mixed (id := 12) 10 (.q 0 (.q 1 (.q 2 (.q 3 (.q 4 (.q 5 (.q 6 (.l 7 (.x 8 (.q 9 .done))))))))))); exact rfl; kernel_rfl; kernel_rfl; kernel_rfl) | refine zsx ?_ | refine zss ?_ | ((with_reducible apply AtM.bo); exact rfl; exact rfl; exact rfl) | refine zsM ?_ | refine zxM ?_ | ((with_reducible first | apply AtM1.callp | apply AtQ.callp | apply At.callp); kernel_rfl; exact rfl; exact rfl; exact ko) | ((with_reducible first | apply AtM1.callp | apply AtQ.callp | apply At.callp); kernel_rfl; exact rfl; exact rfl; exact km) | ((with_reducible apply At.alloc (d := 2)); exact rfl; exact rfl; intro b2) | ((with_reducible apply At.alloc (d := 5)); exact rfl; exact rfl; intro b5) | ((with_reducible apply At.alloc (d := 7)); exact rfl; exact rfl; intro b7) | ((with_reducible apply At.alloc (d := 9)); exact rfl; exact rfl; intro b9) | ((with_reducible apply At.alloc (d := 10)); exact rfl; exact rfl; intro b10) | (refine zsp ?_ ?_ <;> (intro hc; (try simp only [zhcs, reduceCtorEq] at hc); (try (exfalso; first | omega | contradiction | omega | exact absurd rfl hc | exact absurd (by decide) hc))))))
        all_goals ((with_reducible apply At.retV (B := [])); exact rfl; (repeat' (first | exact RVs.nil | (with_reducible apply RVs.cons) | exact rv_tmp (by rfl) | exact rv_cellN (by rfl) (by repeat constructor) (by rfl) (by rfl) (by rfl) | exact rv_cell1 (by rfl) (by repeat constructor) (by rfl) (by rfl))); exact zml; exact zkp; exact ⟨rfl, rfl, rfl⟩)
    · have ei : i = l.length := by omega
      subst ei
      rw [hu.done ok]
      (repeat' (first | refine zss ?_ | refine zsM ?_ | ((with_reducible apply At.alloc (d := 2)); exact rfl; exact rfl; intro b2) | ((with_reducible apply At.alloc (d := 5)); exact rfl; exact rfl; intro b5) | ((with_reducible apply At.alloc (d := 7)); exact rfl; exact rfl; intro b7) | ((with_reducible apply At.alloc (d := 9)); exact rfl; exact rfl; intro b9) | ((with_reducible apply At.alloc (d := 10)); exact rfl; exact rfl; intro b10) | (refine zsp ?_ ?_ <;> (intro hc; (try simp only [zhcs, reduceCtorEq] at hc); (try (exfalso; first | omega | contradiction | omega | exact absurd rfl hc | exact absurd (by decide) hc))))))
      all_goals ((with_reducible apply At.retV (B := [])); exact rfl; (repeat' (first | exact RVs.nil | (with_reducible apply RVs.cons) | exact rv_tmp (by rfl) | exact rv_cellN (by rfl) (by repeat constructor) (by rfl) (by rfl) (by rfl) | exact rv_cell1 (by rfl) (by repeat constructor) (by rfl) (by rfl))); exact zml; exact zkp; exact ⟨rfl, rfl, rfl⟩)
end Cell
end Go.Proofs.YtkoijdmlehkhbaaGreatDoor
namespace Go.Proofs.YtkoijdmlehkhbaaGreatDoor
open Go Go.J
namespace Ti
open Slot Win
section
variable {α : Type} [Inhabited α]
structure DS (α : Type) where
  (i j : Nat) (L : List α)
theorem filt_snoc (f : α → Bool) (l : List α) (j : Nat) (h : j < l.length) : (l.take (j + 1)).filter f = (l.take j).filter f ++ if f (l[j]!) = true then [l[j]!] else [] := by
  rw [Ls.take_snoc h, List.filter_append, List.filter_cons, List.filter_nil]
theorem all_filt {f : α → Bool} {l : List α} (h : ∀ i, i < l.length → f (l[i]!) = true) : l.filter f = l := by
  rw [List.filter_eq_self]
  intro e he
  obtain ⟨i, hi, rfl⟩ := List.mem_iff_getElem.1 he
  have := h i hi
  rwa [getElem!_pos l i hi] at this
def dinv (f : α → Bool) (l : List α) (s : DS α) : Prop := s.i < s.j ∧ s.j ≤ l.length ∧ s.L.length = l.length ∧ s.L.take s.i = (l.take s.j).filter f ∧ s.L.drop s.j = l.drop s.j
theorem dinv.get {f : α → Bool} {l : List α} {s : DS α} (h : dinv f l s) (hj : s.j < l.length) : s.L[s.j]! = l[s.j]! := by
  obtain ⟨_, _, h3, _, h5⟩ := h
  rw [getElem!_pos s.L s.j (by omega), getElem!_pos l s.j hj]
  have e1 : (s.L.drop s.j)[0]? = (l.drop s.j)[0]? := by rw [h5]
  rw [List.getElem?_drop, List.getElem?_drop, Nat.add_zero, List.getElem?_eq_getElem (by omega), List.getElem?_eq_getElem hj] at e1
  exact Option.some.inj e1
theorem drop_succ' {a b : List α} {j : Nat} (h : a.drop j = b.drop j) : a.drop (j + 1) = b.drop (j + 1) := by
  rw [← List.drop_drop, ← List.drop_drop, h]
theorem dinv.no {f : α → Bool} {l : List α} {s : DS α} (h : dinv f l s) (hj : s.j < l.length) (hk : f (l[s.j]!) = false) : dinv f l ⟨s.i, s.j + 1, s.L⟩ := by
  obtain ⟨h1, h2, h3, h4, h5⟩ := h
  refine ⟨by show s.i < s.j + 1; omega, hj, h3, ?_, drop_succ' h5⟩
  show s.L.take s.i = _
  rw [filt_snoc f l s.j hj, hk, h4]; simp
theorem dinv.yes {f : α → Bool} {l : List α} {s : DS α} (h : dinv f l s) (hj : s.j < l.length) (hk : f (l[s.j]!) = true) : dinv f l ⟨s.i + 1, s.j + 1, s.L.set s.i (l[s.j]!)⟩ := by
  obtain ⟨h1, h2, h3, h4, h5⟩ := h
  refine ⟨by show s.i + 1 < s.j + 1; omega, hj, by simpa using h3, ?_, ?_⟩
  · show (s.L.set s.i (l[s.j]!)).take (s.i + 1) = _
    rw [filt_snoc f l s.j hj, if_pos hk, ← h4, List.take_add_one, List.take_set_of_le (Nat.le_refl _), List.getElem?_set_self (by omega)]; rfl
  · show (s.L.set s.i (l[s.j]!)).drop (s.j + 1) = _
    rw [List.drop_set_of_lt (by omega)]; exact drop_succ' h5
end
/-- a slot that is not zero -/
def keep (s : Slot) : Bool := !decide (s = Slot.z)
def lew (a b : Slot) : Bool := decide (a.w ≤ b.w)
/-- those that are not zero, in order -/
def alls (l : List Slot) : List Slot := (l.filter keep).mergeSort lew
/-- of two that are not zero, of one window, one is the other -/
def Dis (l : List Slot) : Prop := ∀ a ∈ l, ∀ b ∈ l, keep a = true → keep b = true → a.w = b.w → a = b
theorem alls_perm (l : List Slot) : (alls l).Perm (l.filter keep) := List.mergeSort_perm _ _
theorem alls_mem {l : List Slot} {s : Slot} : s ∈ alls l ↔ s ∈ l ∧ keep s = true := (alls_perm l).mem_iff.trans List.mem_filter
theorem alls_len (l : List Slot) : (alls l).length ≤ l.length := by rw [(alls_perm l).length_eq]; exact List.length_filter_le _ _
theorem alls_up (l : List Slot) : (alls l).Pairwise fun a b => a.w ≤ b.w := by
  have h := List.pairwise_mergeSort (le := lew) (fun a b c h1 h2 => decide_eq_true (Int.le_trans (of_decide_eq_true h1) (of_decide_eq_true h2))) (fun a b => by
    unfold lew
    rcases Int.le_total a.w b.w with h | h
    · rw [decide_eq_true h]; rfl
    · rw [decide_eq_true h]; exact Bool.or_true _) (l.filter keep)
  exact h.imp fun h => of_decide_eq_true h
theorem alls_uniq {l L : List Slot} (hD : Dis l) (hp : L.Perm (l.filter keep)) (hs : So.Srt Slot.w 0 L.length L) : L = alls l := by
  have h1 : L.Pairwise fun a b => a.w ≤ b.w := List.pairwise_iff_getElem.2 fun i j hi hj hij => by
    have := hs i j (Nat.zero_le _) hij hj
    rwa [getElem!_pos L i hi, getElem!_pos L j hj] at this
  refine List.Perm.eq_of_pairwise (le := fun a b => a.w ≤ b.w) (fun a b ha hb h1 h2 => ?_) h1 (alls_up l) (hp.trans (alls_perm l).symm)
  have ha := List.mem_filter.1 (hp.mem_iff.1 ha)
  have hb := alls_mem.1 hb
  exact hD a ha.1 b hb.1 ha.2 hb.2 (by omega)
theorem keep_z {s : Slot} : keep s = false ↔ s = Slot.z := by
  unfold keep
  by_cases h : s = Slot.z
  · rw [decide_eq_true h]; exact ⟨fun _ => h, fun _ => rfl⟩
  · rw [decide_eq_false h]; exact ⟨fun e => absurd e (by decide), fun e => absurd e h⟩
theorem keep_ne {s : Slot} : keep s = true ↔ s ≠ Slot.z := by
  rw [← Bool.not_eq_false, keep_z]
/-- right ones of a tier differ -/
theorem okT_dis {l : List Slot} {w : Int} (h : okT l w) : Dis l := fun a ha b hb ka kb hw => by
  obtain ⟨i, hi, rfl⟩ := List.mem_iff_getElem.1 ha
  obtain ⟨j, hj, rfl⟩ := List.mem_iff_getElem.1 hb
  have oi := h.2.2 i hi
  have oj := h.2.2 j hj
  unfold okS at oi oj
  rw [getElem!_pos l i hi] at oi
  rw [getElem!_pos l j hj] at oj
  have e1 := (oi.resolve_left (keep_ne.1 ka)).1
  have e2 := (oj.resolve_left (keep_ne.1 kb)).1
  rw [hw] at e1
  have : i = j := by omega
  subst this
  rfl
def foldC (l : List Slot) (i k : Int) : Cell × Int := if i < 0 ∨ k < i then (Cell.z, 1) else Cell.allC Cell.z (((alls l).filter fun s => decide (i ≤ s.w ∧ s.w < k)).map Slot.c)
def putO (l : List Slot) (w i : Int) (c : Cell) : List Slot := if okT l w ∧ fits c w i then l.set (slotV i l.length).toNat ⟨i, c⟩ else []
def putE (l : List Slot) (w i : Int) (c : Cell) : Int := if okT l w ∧ fits c w i then 0 else 2
def newL (n : Int) : List Slot := if n < 1 ∨ n > 4096 then [] else List.replicate n.toNat Slot.z
theorem slotV_lt {i n : Int} (hn : 1 ≤ n) : 0 ≤ slotV i n ∧ slotV i n < n := by
  unfold slotV
  split
  · omega
  · exact ⟨Int.emod_nonneg _ (by omega), Int.emod_lt_of_pos _ (by omega)⟩
end Ti
end Go.Proofs.YtkoijdmlehkhbaaGreatDoor
namespace Go.Proofs.YtkoijdmlehkhbaaGreatDoor
open Go Go.J
/-- three lists of slots -/
structure L3 where
  (a b c : List Slot)
/-- three tiers -/
structure TT where
  (a b c : Lst Slot)
namespace TT
def ls (t : TT) : L3 := ⟨t.a.l, t.b.l, t.c.l⟩
def get (t : TT) : Nat → Lst Slot
  | 0 => t.a
  | 1 => t.b
  | _ => t.c
def set (t : TT) (n : Lst Slot) : Nat → TT
  | 0 => ⟨n, t.b, t.c⟩
  | 1 => ⟨t.a, n, t.c⟩
  | _ => ⟨t.a, t.b, n⟩
abbrev cells (t : TT) : List Value := [t.a.v, t.b.v, t.c.v]
abbrev v (t : TT) : Value := .agg #[t.a.v, t.b.v, t.c.v]
abbrev z : TT := ⟨Lst.nil, Lst.nil, Lst.nil⟩
/-- a list of slots that lies where it says -/
structure OkL (m : Mem) (x : Lst Slot) : Prop where
  sl : Sl m Slot.cells 15 x.p x.c x.l
  i : ∀ s ∈ x.l, Slot.In s
  n : x.l.length ≤ 1000000
theorem OkL.mono {m m' : Mem} {x : Lst Slot} (h : OkL m x) (hm : m.le m') : OkL m' x := ⟨h.sl.mono hm, h.i, h.n⟩
structure Ok (m : Mem) (t : TT) : Prop where
  a : OkL m t.a
  b : OkL m t.b
  c : OkL m t.c
theorem Ok.mono {m m' : Mem} {t : TT} (h : Ok m t) (hm : m.le m') : Ok m' t := ⟨h.a.mono hm, h.b.mono hm, h.c.mono hm⟩
end TT
namespace Fo
open Slot Win Ti
def Kw (K : Cfg) : Nat → Int
  | 0 => K.a
  | 1 => K.b
  | _ => K.d
theorem fits_i {x : Cell} {w i : Int} (h : fits x w i) : 0 ≤ i ∧ i ≤ 35184372088831 ∧ Cell.Full x ∧ 0 ≤ x.F.T ∧ x.F.T / w = i ∧ x.L.T / w = i ∧ 1 ≤ w := by
  obtain ⟨h1, h2, ⟨h3, h4⟩, h5, h6⟩ := h
  have hf : Cell.Full x := by
    unfold Cell.chk at h2
    by_cases k : Cell.ok x
    · rcases k with k | k
      · subst k; exact absurd rfl h1
      · exact k
    · rw [if_neg k] at h2; exact absurd h2 (by decide)
  rcases ofE_cases x.F.T w with ⟨k1, k2, k3⟩ | ⟨k1, k2, k3⟩
  · rcases ofE_cases x.L.T w with ⟨q1, q2, q3⟩ | ⟨q1, q2, q3⟩
    · have := ofV_bd x.F.T w
      rw [k3] at h4
      rw [q3] at h6
      unfold ofOk at k1
      exact ⟨by omega, by omega, hf, k1.1, h4, h6, k1.2.2.1⟩
    · rw [q2] at h5; exact absurd h5 (by decide)
  · rw [k2] at h3; exact absurd h3 (by decide)
theorem fits_of {x : Cell} {w i : Int} (hf : Cell.Full x) (hw : 1 ≤ w ∧ w ≤ 1099511627776) (h1 : x.F.T / w = i) (h2 : x.L.T / w = i) : fits x w i := by
  have hF := hf.F
  have hL := hf.L
  unfold Ev.ok at hF hL
  have hn := hf.n
  have k1 : ofOk x.F.T w := ⟨by omega, by omega, hw.1, hw.2⟩
  have k2 : ofOk x.L.T w := ⟨by omega, by omega, hw.1, hw.2⟩
  exact ⟨by omega, if_pos (.inr hf), ⟨if_pos k1, (if_pos k1).trans h1⟩, if_pos k2, (if_pos k2).trans h2⟩
theorem slotV_pos {i n : Int} (hi : 0 ≤ i) (hn : 1 ≤ n) : slotV i n = i % n := if_neg (by omega)
/-- a right tier into which a window's cell is put is right -/
theorem okT_put {l : List Slot} {w i : Int} {x : Cell} (h : okT l w) (hf : fits x w i) : okT (l.set (slotV i l.length).toNat ⟨i, x⟩) w := by
  have hn : 1 ≤ (l.length : Int) := by have := h.1.1; omega
  have hq := slotV_lt (i := i) hn
  refine ⟨by rw [List.length_set]; exact h.1, h.2.1, fun k hk => ?_⟩
  rw [List.length_set] at hk
  unfold okS
  rw [So.set_get _ _ _ _ (by omega), List.length_set]
  by_cases e : (slotV i l.length).toNat = k
  · rw [if_pos e]
    exact .inr ⟨by show slotV i l.length = _; omega, hf⟩
  · rw [if_neg e]; exact h.2.2 k hk
theorem putO_ok {l : List Slot} {w i : Int} {x : Cell} (h : putE l w i x = 0) : okT (putO l w i x) w := by
  unfold putE at h
  unfold putO
  split at h
  · rename_i k
    rw [if_pos k]; exact okT_put k.1 k.2
  · exact absurd h (by decide)
theorem putO_le (l : List Slot) (w i : Int) (x : Cell) : (putO l w i x).length ≤ l.length := by
  unfold putO
  split
  · rw [List.length_set]; exact Nat.le_refl _
  · exact Nat.zero_le _
theorem putO_in {l : List Slot} {w i : Int} {x : Cell} (hl : ∀ s ∈ l, Slot.In s) (hx : Cell.In x) (hi : -9223372036854775808 ≤ i ∧ i ≤ 9223372036854775807) : ∀ s ∈ putO l w i x, Slot.In s := fun s hs => by
  unfold putO at hs
  split at hs
  · rcases List.mem_or_eq_of_mem_set hs with h | h
    · exact hl s h
    · subst h; exact ⟨hi, hx.1, hx.2.1, hx.2.2.1, hx.2.2.2⟩
  · exact absurd hs List.not_mem_nil
theorem allC_in : ∀ (l : List Cell) (c : Cell), Cell.In c → (∀ x ∈ l, Cell.In x) → Cell.In (Cell.allC c l).1
  | [], c, hc, _ => hc
  | x :: l, c, hc, h => by
    unfold Cell.allC
    split
    · exact Cell.z_in
    · exact allC_in l _ (Cell.mrg_in hc (h x (List.mem_cons_self ..))) fun y hy => h y (List.mem_cons_of_mem _ hy)
theorem slot_cell {s : Slot} (h : Slot.In s) : Cell.In s.c := ⟨h.2.1, h.2.2.1, h.2.2.2.1, h.2.2.2.2⟩
theorem foldC_in {l : List Slot} (h : ∀ s ∈ l, Slot.In s) (i k : Int) : Cell.In (foldC l i k).1 := by
  unfold foldC
  split
  · exact Cell.z_in
  · refine allC_in _ _ Cell.z_in fun x hx => ?_
    obtain ⟨s, hs, rfl⟩ := List.mem_map.1 hx
    exact slot_cell (h s (alls_mem.1 (List.mem_filter.1 hs).1).1)
/-- a window's cell, made of the tier below -/
def madeC (K : Cfg) (t : TT) (k : Nat) (i : Int) : Cell × Int := foldC (t.get (k - 1)).l (i * (Kw K k / Kw K (k - 1))) ((i + 1) * (Kw K k / Kw K (k - 1)))
/-- a tier behind the one below, when time goes on -/
def upL (K : Cfg) (k : Nat) (below l : List Slot) (i j : Int) : List Slot :=
  if i * K.a / Kw K k = j * K.a / Kw K k then l else
  if (foldC below (i * K.a / Kw K k * (Kw K k / Kw K (k - 1))) ((i * K.a / Kw K k + 1) * (Kw K k / Kw K (k - 1)))).2 = 0 ∧ 0 < (foldC below (i * K.a / Kw K k * (Kw K k / Kw K (k - 1))) ((i * K.a / Kw K k + 1) * (Kw K k / Kw K (k - 1)))).1.n then
    (if putE l (Kw K k) (i * K.a / Kw K k) (foldC below (i * K.a / Kw K k * (Kw K k / Kw K (k - 1))) ((i * K.a / Kw K k + 1) * (Kw K k / Kw K (k - 1)))).1 = 0 then
      putO l (Kw K k) (i * K.a / Kw K k) (foldC below (i * K.a / Kw K k * (Kw K k / Kw K (k - 1))) ((i * K.a / Kw K k + 1) * (Kw K k / Kw K (k - 1)))).1 else l)
  else l
def up (K : Cfg) (t : L3) (i j : Int) : L3 := ⟨t.a, upL K 1 t.a t.b i j, upL K 2 (upL K 1 t.a t.b i j) t.c i j⟩
theorem Kw_bd {K : Cfg} (h : K.ok) (k : Nat) : 1 ≤ Kw K k ∧ Kw K k ≤ 1099511627776 := by
  rcases k with _ | _ | k
  · exact h.ha
  · exact h.hb
  · exact h.hd
theorem upL_ok {K : Cfg} {k : Nat} {below l : List Slot} {i j : Int} (h : okT l (Kw K k)) : okT (upL K k below l i j) (Kw K k) := by
  unfold upL
  split
  · exact h
  · split
    · split
      · rename_i e
        exact putO_ok e
      · exact h
    · exact h
end Fo
end Go.Proofs.YtkoijdmlehkhbaaGreatDoor
namespace Go.Proofs.YtkoijdmlehkhbaaGreatDoor
open Go Go.J
namespace Gr
open Cell Ti
/-- right events, one behind the other -/
def Good (l : List Ev) : Prop := (∀ e ∈ l, e.ok ∧ e.V < 18446744073709551616) ∧ Mrg.Asc l
def cel (l : List Ev) : Cell := l.foldl add z
def win (w i : Int) (l : List Ev) : List Ev := l.filter fun e => decide (e.T / w = i)
/-- a window's cell -/
def G (w : Int) (l : List Ev) (i : Int) : Cell := cel (win w i l)
theorem Good.sub {l l' : List Ev} (h : Good l) (hs : l'.Sublist l) : Good l' := ⟨fun e he => h.1 e (hs.subset he), h.2.sublist hs⟩
theorem win_sub (w i : Int) (l : List Ev) : (win w i l).Sublist l := List.filter_sublist
theorem win_mem {w i : Int} {l : List Ev} {e : Ev} : e ∈ win w i l ↔ e ∈ l ∧ e.T / w = i := by
  unfold win
  rw [List.mem_filter, decide_eq_true_eq]
theorem add_n (c : Cell) (e : Ev) : (add c e).n = c.n + 1 := by
  unfold add
  by_cases h : c = z
  · rw [if_pos h, h]; rfl
  · rw [if_neg h]; rfl
theorem fold_n : ∀ (l : List Ev) (c : Cell), (l.foldl add c).n = c.n + l.length
  | [], c => by simp
  | e :: l, c => by
    rw [List.foldl_cons, fold_n l, add_n, List.length_cons]
    omega
theorem cel_n (l : List Ev) : (cel l).n = l.length := by
  have := fold_n l z
  unfold cel
  rw [this]
  show (0 : Int) + _ = _
  omega
theorem cel_full {l : List Ev} (h : Good l) (hn : l ≠ []) : Full (cel l) ∧ (cel l).F ∈ l ∧ (cel l).L ∈ l ∧ (cel l).L = l.getLast hn := by
  rcases l with _ | ⟨e, l⟩
  · exact absurd rfl hn
  obtain ⟨o1, o2⟩ := h.1 e (List.mem_cons_self ..)
  obtain ⟨a1, a2⟩ := List.pairwise_cons.1 h.2
  have hl : ∀ x ∈ l, x.ok ∧ x.V < 18446744073709551616 := fun x hx => h.1 x (List.mem_cons_of_mem _ hx)
  have e1 : cel (e :: l) = l.foldl add (one e) := by
    unfold cel
    rw [List.foldl_cons, show add z e = one e from if_pos rfl]
  have fF := fold_F l (one e) (one_full o1) hl a1 a2
  rcases fold_full (e :: l) z (.inl rfl) h.1 h.2 with ⟨k, _⟩ | ⟨_, k1, k2⟩
  · exact absurd k hn
  · have hL : (cel (e :: l)).L = (e :: l).getLast hn := k2
    refine ⟨k1, ?_, ?_, hL⟩
    · rw [e1, fF]; exact List.mem_cons_self ..
    · rw [hL]; exact List.getLast_mem hn
theorem cel_in {l : List Ev} (h : Good l) : In (cel l) := by
  by_cases hn : l = []
  · subst hn; exact z_in
  · obtain ⟨h1, h2, h3, _⟩ := cel_full h hn
    exact h1.in (h.1 _ h2).2 (h.1 _ h3).2
theorem G_n (w : Int) (l : List Ev) (i : Int) : (G w l i).n = (win w i l).length := cel_n _
theorem G_fits {w i : Int} {l : List Ev} (h : Good l) (hw : 1 ≤ w ∧ w ≤ 1099511627776) (hn : win w i l ≠ []) : fits (G w l i) w i := by
  obtain ⟨h1, h2, h3, _⟩ := cel_full (h.sub (win_sub w i l)) hn
  exact Fo.fits_of h1 hw (win_mem.1 h2).2 (win_mem.1 h3).2
theorem allC_cel : ∀ (Ls : List (List Ev)) (A : List Ev), Good (A ++ Ls.flatten) → allC (cel A) (Ls.map cel) = (cel (A ++ Ls.flatten), 0)
  | [], A, _ => by
    rw [List.flatten_nil, List.append_nil]; rfl
  | B :: Ls, A, h => by
    rw [List.flatten_cons, ← List.append_assoc] at h
    have hAB : Good (A ++ B) := h.sub (List.sublist_append_left _ _)
    have hm : mrg (cel A) (cel B) = (cel (A ++ B), 0) := fold_mrg hAB.1 hAB.2
    rw [List.map_cons, allC, hm, if_neg (fun h => h rfl)]
    show allC (cel (A ++ B)) (Ls.map cel) = _
    rw [allC_cel Ls (A ++ B) h, List.flatten_cons, List.append_assoc]
theorem div_lt {a b w : Int} (hw : 0 < w) (h : a / w < b / w) : a < b := by
  refine Int.not_le.1 fun hle => ?_
  have := Int.ediv_le_ediv hw hle
  omega
theorem flat_win {w : Int} {ws : List Int} {es : List Ev} (hw : 0 < w) (hs : ws.Pairwise (· < ·)) (h : Good es) : (ws.map fun i => win w i es).flatten = es.filter fun e => decide (e.T / w ∈ ws) := by
  refine Mrg.asc_ext ?_ (h.2.sublist List.filter_sublist) fun e => ?_
  · refine List.pairwise_flatten.2 ⟨fun l hl => ?_, ?_⟩
    · obtain ⟨i, _, rfl⟩ := List.mem_map.1 hl
      exact h.2.sublist (win_sub w i es)
    · rw [List.pairwise_map]
      refine hs.imp fun {i j} hij x hx y hy => ?_
      have h1 := (win_mem.1 hx).2
      have h2 := (win_mem.1 hy).2
      exact div_lt hw (by omega)
  · rw [List.mem_flatten, List.mem_filter, decide_eq_true_eq]
    constructor
    · rintro ⟨l, hl, he⟩
      obtain ⟨i, hi, rfl⟩ := List.mem_map.1 hl
      obtain ⟨h1, h2⟩ := win_mem.1 he
      exact ⟨h1, h2 ▸ hi⟩
    · rintro ⟨h1, h2⟩
      exact ⟨_, List.mem_map.2 ⟨_, h2, rfl⟩, win_mem.2 ⟨h1, rfl⟩⟩
theorem okT_dif {l : List Slot} {w : Int} (h : okT l w) : (l.filter keep).Pairwise fun a b => a.w ≠ b.w := by
  rw [List.pairwise_filter]
  refine List.pairwise_iff_getElem.2 fun i j hi hj hij ka kb hw => ?_
  have oi := h.2.2 i hi
  have oj := h.2.2 j hj
  unfold okS at oi oj
  rw [getElem!_pos l i hi] at oi
  rw [getElem!_pos l j hj] at oj
  have e1 := (oi.resolve_left (keep_ne.1 ka)).1
  have e2 := (oj.resolve_left (keep_ne.1 kb)).1
  rw [hw] at e1
  omega
theorem alls_lt {l : List Slot} {w : Int} (h : okT l w) : (alls l).Pairwise fun a b => a.w < b.w := by
  have h1 : (alls l).Pairwise fun a b => a.w ≠ b.w := ((alls_perm l).symm.pairwise_iff (fun h => Ne.symm h)).1 (okT_dif h)
  exact (List.pairwise_and_iff.2 ⟨alls_up l, h1⟩).imp fun h => by omega
theorem div_range {a f o : Int} (hf : 0 < f) : a / f = o ↔ o * f ≤ a ∧ a < (o + 1) * f := by
  constructor
  · rintro rfl
    exact ⟨Int.ediv_mul_le a (by omega), Int.lt_ediv_add_one_mul_self a hf⟩
  · rintro ⟨h1, h2⟩
    have k1 : o ≤ a / f := (Int.le_ediv_iff_mul_le hf).2 h1
    have k2 : a / f < o + 1 := (Int.ediv_lt_iff_lt_mul hf).2 h2
    omega
theorem div_div {t w f : Int} (hw : 0 < w) : t / (w * f) = t / w / f := (Int.ediv_ediv_of_nonneg (Int.le_of_lt hw)).symm
/-- the windows of a tier that lie in one merge to its cell -/
theorem foldC_win {w f v o : Int} {es : List Ev} {l : List Slot} (hw : 0 < w) (hf : 0 < f) (ho : 0 ≤ o) (hG : Good es) (hk : okT l v)
    (snd : ∀ s ∈ l, keep s = true → s.c = G w es s.w) (cmp : ∀ e ∈ es, e.T / (w * f) = o → ∃ s ∈ l, keep s = true ∧ s.w = e.T / w) :
    foldC l (o * f) ((o + 1) * f) = (G (w * f) es o, 0) := by
  have h1 : ¬ (o * f < 0 ∨ (o + 1) * f < o * f) := by
    have := Int.mul_nonneg ho (Int.le_of_lt hf)
    rw [Int.add_mul, Int.one_mul]
    omega
  unfold foldC
  rw [if_neg h1]
  generalize hA : (alls l).filter (fun s => decide (o * f ≤ s.w ∧ s.w < (o + 1) * f)) = A
  have mem : ∀ s, s ∈ A ↔ (s ∈ l ∧ keep s = true) ∧ o * f ≤ s.w ∧ s.w < (o + 1) * f := fun s => by
    rw [← hA, List.mem_filter, alls_mem, decide_eq_true_eq]
  have hws : (A.map Slot.w).Pairwise (· < ·) := by
    rw [List.pairwise_map, ← hA]
    exact (alls_lt hk).sublist List.filter_sublist
  have hc : A.map Slot.c = ((A.map Slot.w).map fun i => win w i es).map cel := by
    rw [List.map_map, List.map_map]
    exact List.map_congr_left fun s hs => snd s ((mem s).1 hs).1.1 ((mem s).1 hs).1.2
  have hfl := flat_win (es := es) hw hws hG
  have hfe : (es.filter fun e => decide (e.T / w ∈ A.map Slot.w)) = win (w * f) o es := by
    unfold win
    refine List.filter_congr fun e he => decide_eq_decide.2 ?_
    rw [div_div hw, div_range hf]
    constructor
    · intro h
      obtain ⟨s, hs, e1⟩ := List.mem_map.1 h
      have := ((mem s).1 hs).2
      rwa [e1] at this
    · intro h
      obtain ⟨s, hs, h2, h3⟩ := cmp e he (by rw [div_div hw, div_range hf]; exact h)
      exact List.mem_map.2 ⟨s, (mem s).2 ⟨⟨hs, h2⟩, by rw [h3]; exact h⟩, h3⟩
  rw [hfe] at hfl
  rw [hc]
  show allC (cel []) _ = _
  rw [allC_cel _ [] (by rw [List.nil_append, hfl]; exact hG.sub (win_sub _ _ _)), List.nil_append, hfl]
  rfl
/-- what a tier has of events, when a window is open -/
structure Lv (w n : Int) (es : List Ev) (c : Int) (l : List Slot) : Prop where
  ok : okT l w
  len : (l.length : Int) = n
  snd : ∀ s ∈ l, keep s = true → s.w < c ∧ s.c = G w es s.w
  own : ∀ s ∈ l, keep s = true → ∀ e ∈ es, s.w < e.T / w → e.T / w < c → e.T / w % n ≠ s.w % n
  all : ∀ e ∈ es, e.T / w < c → (∀ x ∈ es, e.T / w < x.T / w → x.T / w < c → x.T / w % n ≠ e.T / w % n) → (⟨e.T / w, G w es (e.T / w)⟩ : Slot) ∈ l
theorem mod_ne {a x n : Int} (h1 : a < x) (h2 : x - a < n) : x % n ≠ a % n := fun h => by
  have e3 : (x - a) % n = 0 := Int.emod_eq_emod_iff_emod_sub_eq_zero.1 h
  have e4 : (x - a) % n = x - a := Int.emod_eq_of_lt (by omega) (by omega)
  omega
theorem Lv.cmp {w n c : Int} {es : List Ev} {l : List Slot} (h : Lv w n es c l) : ∀ e ∈ es, c - n ≤ e.T / w → e.T / w < c → (⟨e.T / w, G w es (e.T / w)⟩ : Slot) ∈ l :=
  fun e he h1 h2 => h.all e he h2 fun x _ h3 h4 => mod_ne h3 (by omega)
theorem keep_full {i : Int} {c : Cell} (h : Full c) : keep ⟨i, c⟩ = true := keep_ne.2 fun e => by
  have : c = z := congrArg Slot.c e
  exact h.ne this
theorem mem_set {l : List Slot} {q k : Nat} {x y : Slot} (hk : k < l.length) (hx : l[k]! = x) (hq : q ≠ k) : x ∈ l.set q y := by
  have : (l.set q y)[k]! = x := by
    rw [List.getElem!_eq_getElem?_getD, List.getElem?_set, if_neg hq, ← List.getElem!_eq_getElem?_getD, hx]
  rw [← this]
  exact Ls.mem! (by rw [List.length_set]; exact hk)
theorem mem_set_inv {l : List Slot} {q : Nat} {s y : Slot} (h : s ∈ l.set q y) : s = y ∨ ∃ k, k < l.length ∧ k ≠ q ∧ l[k]! = s := by
  obtain ⟨k, hk, e⟩ := List.mem_iff_getElem.1 h
  rw [List.length_set] at hk
  rw [List.getElem_set] at e
  by_cases hq : q = k
  · rw [if_pos hq] at e; exact .inl e.symm
  · rw [if_neg hq] at e
    exact .inr ⟨k, hk, fun h => hq h.symm, by rw [getElem!_pos l k hk]; exact e⟩
/-- where a window that is kept lies -/
theorem at_pos {l : List Slot} {w : Int} {k : Nat} (h : okT l w) (hk : k < l.length) (hs : keep l[k]! = true) : l[k]!.w % (l.length : Int) = (k : Int) := by
  have oks := h.2.2 k hk
  unfold okS at oks
  obtain ⟨e1, e2⟩ := oks.resolve_left (keep_ne.1 hs)
  rw [Fo.slotV_pos (Fo.fits_i e2).1 (by omega)] at e1
  exact e1
theorem Lv.put {w n o : Int} {es : List Ev} {l : List Slot} (h : Lv w n es o l) (hG : Good es) (hne : win w o es ≠ []) (hmax : ∀ e ∈ es, e.T / w ≤ o) :
    putE l w o (G w es o) = 0 ∧ ∀ c', o < c' → Lv w n es c' (putO l w o (G w es o)) := by
  have hw := h.ok.2.1
  have hf := G_fits hG hw hne
  have hcond : okT l w ∧ fits (G w es o) w o := ⟨h.ok, hf⟩
  refine ⟨if_pos hcond, fun c' hc => ?_⟩
  have e0 : putO l w o (G w es o) = l.set (Win.slotV o l.length).toNat ⟨o, G w es o⟩ := if_pos hcond
  rw [e0]
  have hn : 1 ≤ (l.length : Int) := by have := h.ok.1.1; omega
  have ho : 0 ≤ o := (Fo.fits_i hf).1
  have hq := slotV_lt (i := o) hn
  have hlen := h.len
  have hqo : (((Win.slotV o l.length).toNat : Nat) : Int) = o % (l.length : Int) := by
    rw [← Fo.slotV_pos ho hn]; omega
  refine ⟨Fo.okT_put h.ok hf, by rw [List.length_set]; exact h.len, fun s hs ks => ?_, fun s hs ks e he h1 h2 => ?_, fun e he h1 h2 => ?_⟩
  · rcases List.mem_or_eq_of_mem_set hs with hs | rfl
    · have := h.snd s hs ks
      exact ⟨by omega, this.2⟩
    · exact ⟨hc, rfl⟩
  · rcases mem_set_inv hs with rfl | ⟨k, hk, hkq, rfl⟩
    · have := hmax e he
      exact absurd h1 (by show ¬ o < _; omega)
    · by_cases heq : e.T / w = o
      · have e1 := at_pos h.ok hk ks
        rw [heq, ← hlen, e1, ← hqo]
        omega
      · exact h.own _ (Ls.mem! hk) ks e he h1 (by have := hmax e he; omega)
  · by_cases heq : e.T / w = o
    · rw [heq]
      exact List.mem_set (by omega) _
    · have hlt : e.T / w < o := by have := hmax e he; omega
      have hm := h.all e he hlt fun x hx h3 h4 => h2 x hx h3 (by omega)
      obtain ⟨k, hk, ek⟩ := List.mem_iff_getElem.1 hm
      have ek' : l[k]! = ⟨e.T / w, G w es (e.T / w)⟩ := by rw [getElem!_pos l k hk]; exact ek
      refine mem_set hk ek' fun hqk => ?_
      have hfe : Full (G w es (e.T / w)) := (cel_full (hG.sub (win_sub w _ es)) (List.ne_nil_of_mem (win_mem.2 ⟨he, rfl⟩))).1
      have e1 := at_pos h.ok hk (by rw [ek']; exact keep_full hfe)
      rw [ek'] at e1
      obtain ⟨y, hy⟩ := List.exists_mem_of_ne_nil _ hne
      obtain ⟨hy1, hy2⟩ := win_mem.1 hy
      have := h2 y hy1 (by omega) (by omega)
      rw [hy2, ← hlen, ← hqo] at this
      exact this (by rw [hqk]; exact e1.symm)
theorem Lv.later {w n c c' : Int} {es : List Ev} {l : List Slot} (h : Lv w n es c l) (hc : c ≤ c') (hmax : ∀ e ∈ es, e.T / w < c) : Lv w n es c' l :=
  ⟨h.ok, h.len, fun s hs ks => ⟨by have := (h.snd s hs ks).1; omega, (h.snd s hs ks).2⟩, fun s hs ks e he h1 _ => h.own s hs ks e he h1 (hmax e he), fun e he _ h2 => h.all e he (hmax e he) fun x hx h3 h4 => h2 x hx h3 (by omega)⟩
theorem win_snoc {w i : Int} {es : List Ev} {e : Ev} (h : e.T / w ≠ i) : win w i (es ++ [e]) = win w i es := by
  unfold win
  rw [List.filter_append, List.filter_cons_of_neg (by simpa using h), List.filter_nil, List.append_nil]
theorem win_snoc' {w i : Int} {es : List Ev} {e : Ev} (h : e.T / w = i) : win w i (es ++ [e]) = win w i es ++ [e] := by
  unfold win
  rw [List.filter_append, List.filter_cons_of_pos (by simpa using h), List.filter_nil]
theorem Lv.add {w n c : Int} {es : List Ev} {l : List Slot} {e : Ev} (h : Lv w n es c l) (hc : c ≤ e.T / w) : Lv w n (es ++ [e]) c l :=
  ⟨h.ok, h.len, fun s hs ks => by
    obtain ⟨h1, h2⟩ := h.snd s hs ks
    exact ⟨h1, by unfold G; rw [win_snoc (by omega)]; exact h2⟩, fun s hs ks x hx h1 h2 => by
    rcases List.mem_append.1 hx with hx | hx
    · exact h.own s hs ks x hx h1 h2
    · rw [List.mem_singleton.1 hx] at h2
      omega, fun x hx h1 h2 => by
    rcases List.mem_append.1 hx with hx | hx
    · have := h.all x hx h1 fun y hy h3 h4 => h2 y (List.mem_append_left _ hy) h3 h4
      unfold G
      rw [win_snoc (by omega)]
      exact this
    · rw [List.mem_singleton.1 hx] at h1
      omega⟩
theorem okT_new {n w : Int} (hn : 1 ≤ n ∧ n ≤ 4096) (hw : 1 ≤ w ∧ w ≤ 1099511627776) : okT (newL n) w ∧ ((newL n).length : Int) = n ∧ ∀ s ∈ newL n, keep s = false := by
  have e : newL n = List.replicate n.toNat Slot.z := if_neg (by omega)
  rw [e, List.length_replicate]
  refine ⟨⟨by rw [List.length_replicate]; omega, hw, fun k hk => ?_⟩, by omega, fun s hs => by rw [(List.mem_replicate.1 hs).2]; rfl⟩
  rw [List.length_replicate] at hk
  refine .inl ?_
  rw [getElem!_pos _ k (by rw [List.length_replicate]; exact hk), List.getElem_replicate]
theorem Lv.new {n w c : Int} (hn : 1 ≤ n ∧ n ≤ 4096) (hw : 1 ≤ w ∧ w ≤ 1099511627776) : Lv w n [] c (newL n) := by
  obtain ⟨h1, h2, h3⟩ := okT_new hn hw
  exact ⟨h1, h2, fun s hs ks => (by rw [h3 s hs] at ks; cases ks), fun s hs ks e he => absurd he List.not_mem_nil, fun e he => absurd he List.not_mem_nil⟩
end Gr
end Go.Proofs.YtkoijdmlehkhbaaGreatDoor
namespace Go.Proofs.YtkoijdmlehkhbaaGreatDoor
open Go Go.J
attribute [local irreducible] At AtQ AtM AtM1 PR Ct Pu Rd Res.blk Res.own Res.ex RVs RV
namespace So
abbrev cells := Slot.cells
abbrev oS (p : Option Addr) (c : Nat) (l : List Slot) : Res := .own Slot.cells 15 61 p c l
abbrev fnS : Value := .func (.func 211) #[] #[]
def cmpI (x y : Int) : Int := if x < y then -1 else if y < x then 1 else 0
theorem cmpI_lt {x y : Int} : cmpI x y < 0 ↔ x < y := by
  unfold cmpI
  split
  · omega
  · split <;> omega
theorem compare_ (x y : Int) : Pu Tryz.prog 212 #[.int .i64 x, .int .i64 y] (.int .i64 (cmpI x y)) := Pu.intro fun m => by
  have hn : ∀ z : Int, Pu Tryz.prog 226 #[.int .i64 z] (.bool false) := fun z => Pu.intro fun m => by
    refine Ct.enterV (by rfl) Tryz.func226 rfl Tryz.ntmps226 rfl (fun w0 Rest => ?_)
    (repeat' (first | refine zss ?_ | refine zs0 ?_ | (refine zsp ?_ ?_ <;> (intro hc; (try simp only [zhcs, reduceCtorEq] at hc); (try (exfalso; first | contradiction | omega | exact absurd rfl hc | exact absurd (by decide) hc))))))
    all_goals ((with_reducible apply At.retB1 (B := [])); exact rfl; exact rfl; exact zml; exact zkp; exact ⟨by first | rfl | simp, rfl, rfl⟩)
  have n1 := hn x
  have n2 := hn y
  unfold cmpI
  by_cases h : x < y
  · rw [if_pos h]
    refine Ct.enterV (by rfl) Tryz.func212 rfl Tryz.ntmps212 rfl (fun w0 Rest => ?_)
    (repeat' (first | refine zss ?_ | refine zs0 ?_ | ((with_reducible first | apply AtM1.callp | apply AtQ.callp | apply At.callp); kernel_rfl; exact rfl; exact rfl; exact n1) | ((with_reducible first | apply AtM1.callp | apply AtQ.callp | apply At.callp); kernel_rfl; exact rfl; exact rfl; exact n2) | (refine zsp ?_ ?_ <;> (intro hc; (try simp only [zhcs, reduceCtorEq] at hc); (try (exfalso; first | omega | contradiction | omega | exact absurd rfl hc | exact absurd (by decide) hc))))))
    all_goals ((with_reducible apply At.retB1 (B := [])); exact rfl; exact rfl; exact zml; exact zkp; exact ⟨rfl, rfl, rfl⟩)
  · rw [if_neg h]
    by_cases h2 : y < x
    · rw [if_pos h2]
      refine Ct.enterV (by rfl) Tryz.func212 rfl Tryz.ntmps212 rfl (fun w0 Rest => ?_)
      (repeat' (first | refine zss ?_ | refine zs0 ?_ | ((with_reducible first | apply AtM1.callp | apply AtQ.callp | apply At.callp); kernel_rfl; exact rfl; exact rfl; exact n1) | ((with_reducible first | apply AtM1.callp | apply AtQ.callp | apply At.callp); kernel_rfl; exact rfl; exact rfl; exact n2) | (refine zsp ?_ ?_ <;> (intro hc; (try simp only [zhcs, reduceCtorEq] at hc); (try (exfalso; first | omega | contradiction | omega | exact absurd rfl hc | exact absurd (by decide) hc))))))
      all_goals ((with_reducible apply At.retB1 (B := [])); exact rfl; exact rfl; exact zml; exact zkp; exact ⟨rfl, rfl, rfl⟩)
    · rw [if_neg h2]
      refine Ct.enterV (by rfl) Tryz.func212 rfl Tryz.ntmps212 rfl (fun w0 Rest => ?_)
      (repeat' (first | refine zss ?_ | refine zs0 ?_ | ((with_reducible first | apply AtM1.callp | apply AtQ.callp | apply At.callp); kernel_rfl; exact rfl; exact rfl; exact n1) | ((with_reducible first | apply AtM1.callp | apply AtQ.callp | apply At.callp); kernel_rfl; exact rfl; exact rfl; exact n2) | (refine zsp ?_ ?_ <;> (intro hc; (try simp only [zhcs, reduceCtorEq] at hc); (try (exfalso; first | omega | contradiction | omega | exact absurd rfl hc | exact absurd (by decide) hc))))))
      all_goals ((with_reducible apply At.retB1 (B := [])); exact rfl; exact rfl; exact zml; exact zkp; exact ⟨rfl, rfl, rfl⟩)
theorem sortA {m : Mem} (a b : Slot) : Ct Tryz.prog 211 #[a.v, b.v] m [] (fun v m' B => v = .int .i64 (cmpI a.w b.w) ∧ m = m' ∧ B = []) := by
  have k1 := compare_ a.w b.w
  refine Ct.enterV (by rfl) Tryz.func211 rfl Tryz.ntmps211 rfl (fun w0 Rest => ?_)
  (repeat' (first | refine zss ?_ | refine zs0 ?_ | ((with_reducible first | apply AtM1.callp | apply AtQ.callp | apply At.callp); kernel_rfl; exact rfl; exact rfl; exact k1) | ((with_reducible apply At.box (d := 2)); exact rfl; exact rfl; exact rfl; intro b2) | ((with_reducible apply At.box (d := 3)); exact rfl; exact rfl; exact rfl; intro b3) | (refine zsp ?_ ?_ <;> (intro hc; (try simp only [zhcs, reduceCtorEq] at hc); (try (exfalso; first | contradiction | omega | exact absurd rfl hc | exact absurd (by decide) hc))))))
  all_goals ((with_reducible apply At.retB1 (B := [])); exact rfl; exact rfl; exact zml; exact zkp; exact ⟨rfl, rfl, rfl⟩)
/-- a row that is such -/
def PostR (p : Option Addr) (c : Nat) (Φ : List Slot → Prop) : Value → Mem → Mem → List Res → Prop := fun v m m' B => v = .tuple #[] ∧ m = m' ∧ ∃ L : List Slot, Φ L ∧ B = [oS p c L]
structure NS where
  (i : Nat) (L : List Slot)
set_option maxHeartbeats 1000000 in
theorem insG {m : Mem} (p : Option Addr) (c a b n : Nat) (l : List Slot) (hn : l.length = n) (hb : b ≤ n) (ha : a ≤ n) (hl : n ≤ 1000000) :
    Ct Tryz.prog 228 #[.slice p n c, .int .i64 (a : Int), .int .i64 (b : Int), fnS] m [oS p c l] (fun v m' B => PostR p c (fun L => Mv a b l L ∧ Srt Slot.w a b L) v m m' B) := by
  refine Ct.enterV (by rfl) Tryz.func228 rfl Tryz.ntmps228 rfl (fun w0 Rest => ?_)
  (repeat' (first | refine zss ?_ | refine zsO ?_ | (refine zsp ?_ ?_ <;> (intro hc; (try simp only [zhcs, reduceCtorEq] at hc); (try (exfalso; first | contradiction | omega | exact absurd rfl hc | exact absurd (by decide) hc))))))
  (refine At.loopk (σ := NS) [0, 1, 2, 3] (fun s F0 => (8, .int .i64 (s.i : Int)) :: F0) (fun s => m) (fun s => oS p c s.L :: Rest) (fun s => a + 1 ≤ s.i ∧ Mv a b l s.L ∧ Srt Slot.w a s.i s.L) (fun s => n - s.i) ⟨a + 1, l⟩ (by rfl) ?_ zsubs zml zente ?_)
  · exact ⟨Nat.le_refl _, Mv.refl _ _ _, fun i j h1 h2 h3 => by dsimp only at h3; omega⟩
  rintro ⟨i, L⟩ ⟨h1, hM, hS⟩
  dsimp only at h1 hM hS ⊢
  have h2 : L.length = n := hM.len.trans hn
  by_cases h : i < b
  · (repeat' (first | refine zss ?_ | refine zsO ?_ | (refine zsp ?_ ?_ <;> (intro hc; (try simp only [zhcs, reduceCtorEq] at hc); (try (exfalso; first | omega | contradiction | omega | exact absurd rfl hc | exact absurd (by decide) hc))))))
    (refine At.loopk (σ := NS) [0, 1, 2, 3, 8] (fun s F0 => (9, .int .i64 (s.i : Int)) :: F0) (fun s => m) (fun s => oS p c s.L :: Rest) (fun s => a ≤ s.i ∧ s.i ≤ i ∧ Mv a b l s.L ∧ (∀ q, s.L[q]! = shr s.i i (fun q => L[q]!) q) ∧ (s.i < i → L[i]!.w < L[s.i]!.w)) (fun s => s.i) ⟨i, L⟩ (by rfl) ?_ zsubs zml zente ?_)
    · exact ⟨by dsimp only; omega, Nat.le_refl _, hM, fun q => (shr_zero i (fun q => L[q]!) q).symm, fun h => absurd h (Nat.lt_irrefl _)⟩
    rintro ⟨j, W⟩ ⟨g0, g1, gM, gW, gL⟩
    dsimp only at g0 g1 gM gW gL ⊢
    have g2 : W.length = n := gM.len.trans hn
    by_cases hj : a < j
    · obtain ⟨k, rfl⟩ : ∃ k, j = k + 1 := ⟨j - 1, by omega⟩
      have hw : IntKind.wrap .i64 (((k + 1 : Nat) : Int) - 1) = (k : Int) := by rw [show ((k + 1 : Nat) : Int) - 1 = (k : Int) by omega]; exact IntWalk.i64_in _ (by omega)
      have hcm := fun (m : Mem) => sortA (m := m) (W[k + 1]!) (W[k]!)
      have eW1 : W[k + 1]! = L[i]! := by rw [gW]; unfold shr; rw [if_pos rfl]
      have eW0 : W[k]! = L[k]! := by rw [gW]; unfold shr; rw [if_neg (by omega), if_neg (by omega)]
      by_cases e : cmpI W[k + 1]!.w W[k]!.w < 0
      · have hlt := cmpI_lt.1 e
        rw [eW1, eW0] at hlt
        have hN : Mv a b l (swp W (k + 1) k) := gM.trans (Mv.swp (by omega) (by omega) (by omega))
        have hQ : ∀ q, (swp W (k + 1) k)[q]! = shr k i (fun q => L[q]!) q := fun q => by
          rw [swp_get (by omega) (by omega), shr_step (k := k) _ g1, gW, gW, gW]
        generalize cmpI W[k + 1]!.w W[k]!.w = r at hcm e
        clear gW gM hM hS eW0 eW1
        unfold swp at hN hQ
        (repeat' (first | ((with_reducible apply At.mixed (id := 4) 17 (.q 0 (.q 1 (.q 2 (.q 3 (.q 4 (.q 5 (.q 6 (.q 7 (.q 8 (.q 9 (.q 10 (.q 11 (.q 12 (.q 13 (.x 14 (.q 15 (.q 16 .done)))))))))))))))))); exact rfl; kernel_rfl; kernel_rfl; kernel_rfl) | ((with_reducible apply At.mixed (id := 6) 18 (.q 0 (.q 1 (.q 2 (.q 3 (.q 4 (.q 5 (.q 6 (.q 7 (.q 8 (.q 9 (.q 10 (.q 11 (.q 12 (.q 13 (.q 14 (.x 15 (.q 16 (.x 17 .done))))))))))))))))))); exact rfl; kernel_rfl; kernel_rfl; kernel_rfl) | refine zsx ?_ | refine zss ?_ | ((with_reducible apply AtM.bo); exact rfl; exact rfl; exact rfl) | ((first | (with_reducible first | apply At.val | apply AtQ.val) | ((with_reducible first | apply AtM1.valz | apply AtM1.val); exact rfl) | ((with_reducible apply AtM1.val); exact rfl)); (exact pr_sub (by rfl) (by rfl) hw); exact rfl) | refine zsO ?_ | refine zxO ?_ | ((with_reducible apply At.callf); exact rfl; kernel_rfl; exact rfl; exact rfl; exact hcm _; exact ztk; rintro v' m' B' hm' ⟨rfl, rfl, rfl⟩; skip) | ((with_reducible apply At.storeW (f := cells) (x' := (W[k]!))); (case hx => exact rfl); (case hy => exact rfl); (case hv => exact rfl); (case hp => exact (by repeat constructor)); (case hr => exact rfl); (case hf => exact inferInstance); (case hk => exact zom); (case hs => exact rfl); (case hq => exact rfl); (case h1 => exact rfl)) | ((with_reducible apply At.storeW (f := cells) (x' := (W[k + 1]!))); (case hx => exact rfl); (case hy => exact rfl); (case hv => exact rfl); (case hp => exact (by repeat constructor)); (case hr => exact rfl); (case hf => exact inferInstance); (case hk => exact zom); (case hs => exact rfl); (case hq => exact rfl); (case h1 => exact rfl)) | (refine zsp ?_ ?_ <;> (intro hc; (try simp only [zhcs, reduceCtorEq] at hc); (try (exfalso; first | omega | contradiction | omega | exact absurd rfl hc | exact absurd (by decide) hc))))))
        all_goals ((with_reducible refine At.reachk ((⟨k, (W.set (k + 1) (W[k]!)).set k (W[k + 1]!)⟩ : NS)) ?_ ?_ ?_ ?_); exact zsubs; exact zml; exact zente; exact ⟨⟨by dsimp only; omega, by dsimp only; omega, hN, hQ, fun _ => hlt⟩, by dsimp only; omega⟩)
      · have hge : L[k]!.w ≤ L[i]!.w := by
          have : ¬ W[k + 1]!.w < W[k]!.w := fun h => e (cmpI_lt.2 h)
          rw [eW1, eW0] at this
          omega
        have hsrt : Srt Slot.w a (i + 1) W := shr_srt (i := k + 1) (m := i) (by omega) g1 gW hS (fun _ => hge) gL
        generalize cmpI W[k + 1]!.w W[k]!.w = r at hcm e
        clear gW hM hS eW0 eW1 gL
        (repeat' (first | ((with_reducible apply At.mixed (id := 4) 17 (.q 0 (.q 1 (.q 2 (.q 3 (.q 4 (.q 5 (.q 6 (.q 7 (.q 8 (.q 9 (.q 10 (.q 11 (.q 12 (.q 13 (.x 14 (.q 15 (.q 16 .done)))))))))))))))))); exact rfl; kernel_rfl; kernel_rfl; kernel_rfl) | ((with_reducible apply At.mixed (id := 6) 18 (.q 0 (.q 1 (.q 2 (.q 3 (.q 4 (.q 5 (.q 6 (.q 7 (.q 8 (.q 9 (.q 10 (.q 11 (.q 12 (.q 13 (.q 14 (.x 15 (.q 16 (.x 17 .done))))))))))))))))))); exact rfl; kernel_rfl; kernel_rfl; kernel_rfl) | refine zsx ?_ | refine zss ?_ | ((with_reducible apply AtM.bo); exact rfl; exact rfl; exact rfl) | ((first | (with_reducible first | apply At.val | apply AtQ.val) | ((with_reducible first | apply AtM1.valz | apply AtM1.val); exact rfl) | ((with_reducible apply AtM1.val); exact rfl)); (exact pr_sub (by rfl) (by rfl) hw); exact rfl) | refine zsO ?_ | refine zxO ?_ | ((with_reducible apply At.callf); exact rfl; kernel_rfl; exact rfl; exact rfl; exact hcm _; exact ztk; rintro v' m' B' hm' ⟨rfl, rfl, rfl⟩; skip) | (refine zsp ?_ ?_ <;> (intro hc; (try simp only [zhcs, reduceCtorEq] at hc); (try (exfalso; first | omega | contradiction | omega | exact absurd rfl hc | exact absurd (by decide) hc))))))
        all_goals ((with_reducible refine At.reachk ((⟨i + 1, W⟩ : NS)) ?_ ?_ ?_ ?_); exact zsubs; exact zml; exact zente; exact ⟨⟨by dsimp only; omega, gM, hsrt⟩, by dsimp only; omega⟩)
    · have hja : j = a := by omega
      have hsrt : Srt Slot.w a (i + 1) W := shr_srt (i := j) (m := i) (by omega) g1 gW hS (fun h => absurd h (by omega)) gL
      clear gW hM hS gL
      (repeat' (first | ((with_reducible apply At.mixed (id := 4) 17 (.q 0 (.q 1 (.q 2 (.q 3 (.q 4 (.q 5 (.q 6 (.q 7 (.q 8 (.q 9 (.q 10 (.q 11 (.q 12 (.q 13 (.x 14 (.q 15 (.q 16 .done)))))))))))))))))); exact rfl; kernel_rfl; kernel_rfl; kernel_rfl) | ((with_reducible apply At.mixed (id := 6) 18 (.q 0 (.q 1 (.q 2 (.q 3 (.q 4 (.q 5 (.q 6 (.q 7 (.q 8 (.q 9 (.q 10 (.q 11 (.q 12 (.q 13 (.q 14 (.x 15 (.q 16 (.x 17 .done))))))))))))))))))); exact rfl; kernel_rfl; kernel_rfl; kernel_rfl) | refine zsx ?_ | refine zss ?_ | ((with_reducible apply AtM.bo); exact rfl; exact rfl; exact rfl) | refine zsO ?_ | refine zxO ?_ | (refine zsp ?_ ?_ <;> (intro hc; (try simp only [zhcs, reduceCtorEq] at hc); (try (exfalso; first | omega | contradiction | omega | exact absurd rfl hc | exact absurd (by decide) hc))))))
      all_goals ((with_reducible refine At.reachk ((⟨i + 1, W⟩ : NS)) ?_ ?_ ?_ ?_); exact zsubs; exact zml; exact zente; exact ⟨⟨by dsimp only; omega, gM, hsrt⟩, by dsimp only; omega⟩)
  · have hsrt : Srt Slot.w a b L := fun x y g1 g2 g3 => hS x y g1 g2 (by omega)
    clear hS
    (repeat' (first | refine zss ?_ | refine zsO ?_ | (refine zsp ?_ ?_ <;> (intro hc; (try simp only [zhcs, reduceCtorEq] at hc); (try (exfalso; first | omega | contradiction | omega | exact absurd rfl hc | exact absurd (by decide) hc))))))
    all_goals ((first | (with_reducible apply At.retB0 (B := [oS p c L])) | (with_reducible apply At.retR0 (B := [oS p c L]))); exact rfl; exact zml; exact zkp; exact ⟨rfl, rfl, _, ⟨hM, hsrt⟩, rfl⟩)
theorem swapR {m : Mem} (p : Option Addr) (c a b k n : Nat) (l : List Slot) (hn : l.length = n) (ha : a + k ≤ b) (hb : b + k ≤ n) (hl : n ≤ 1000000) :
    Ct Tryz.prog 231 #[.slice p n c, .int .i64 (a : Int), .int .i64 (b : Int), .int .i64 (k : Int), fnS] m [oS p c l] (fun v m' B => PostR p c (fun L => L.length = n ∧ L.Perm l ∧ ∀ q, L[q]! = sw a b k (fun q => l[q]!) q) v m m' B) := by
  refine Ct.enterV (by rfl) Tryz.func231 rfl Tryz.ntmps231 rfl (fun w0 Rest => ?_)
  (repeat' (first | refine zss ?_ | refine zsO ?_ | (refine zsp ?_ ?_ <;> (intro hc; (try simp only [zhcs, reduceCtorEq] at hc); (try (exfalso; first | contradiction | omega | exact absurd rfl hc | exact absurd (by decide) hc))))))
  (refine At.loopk (σ := NS) [0, 1, 2, 3] (fun s F0 => (10, .int .i64 (s.i : Int)) :: F0) (fun s => m) (fun s => oS p c s.L :: Rest) (fun s => s.i ≤ k ∧ s.L.length = n ∧ s.L.Perm l ∧ ∀ q, s.L[q]! = sw a b s.i (fun q => l[q]!) q) (fun s => k - s.i) ⟨0, l⟩ (by rfl) ?_ zsubs zml zente ?_)
  · exact ⟨Nat.zero_le _, hn, List.Perm.refl _, fun q => (sw_zero a b _ q).symm⟩
  rintro ⟨i, W⟩ ⟨h1, h2, hP, hW⟩
  dsimp only at h1 h2 hP hW ⊢
  by_cases h : i < k
  · have wa : IntKind.wrap .i64 ((a : Int) + (i : Int)) = ((a + i : Nat) : Int) := by rw [← Int.natCast_add]; exact IntWalk.i64_in _ (by omega)
    have wb : IntKind.wrap .i64 ((b : Int) + (i : Int)) = ((b + i : Nat) : Int) := by rw [← Int.natCast_add]; exact IntWalk.i64_in _ (by omega)
    have hL : (swp W (a + i) (b + i)).length = n := (swp_len W _ _).trans h2
    have hP2 : (swp W (a + i) (b + i)).Perm l := (swp_perm (by omega) (by omega)).trans hP
    have hQ : ∀ q, (swp W (a + i) (b + i))[q]! = sw a b (i + 1) (fun q => l[q]!) q := fun q => by
      rw [swp_get (by omega) (by omega), sw_step _ (by omega), hW, hW, hW]
    clear hW hP
    unfold swp at hL hP2 hQ
    (repeat' (first | ((with_reducible apply At.mixed (id := 3) 24 (.q 0 (.q 1 (.q 2 (.q 3 (.q 4 (.q 5 (.q 6 (.q 7 (.q 8 (.q 9 (.q 10 (.q 11 (.q 12 (.q 13 (.q 14 (.q 15 (.q 16 (.q 17 (.q 18 (.q 19 (.q 20 (.x 21 (.q 22 (.x 23 .done))))))))))))))))))))))))); exact rfl; kernel_rfl; kernel_rfl; kernel_rfl) | refine zsx ?_ | refine zss ?_ | ((with_reducible apply AtM.bo); exact rfl; exact rfl; exact rfl) | ((first | (with_reducible first | apply At.val | apply AtQ.val) | ((with_reducible first | apply AtM1.valz | apply AtM1.val); exact rfl) | ((with_reducible apply AtM1.val); exact rfl)); (first | exact pr_add (by rfl) (by rfl) wa | exact pr_add (by rfl) (by rfl) wb); exact rfl) | refine zsO ?_ | refine zxO ?_ | ((with_reducible apply At.storeW (f := cells) (x' := (W[b + i]!))); (case hx => exact rfl); (case hy => exact rfl); (case hv => exact rfl); (case hp => exact (by repeat constructor)); (case hr => exact rfl); (case hf => exact inferInstance); (case hk => exact zom); (case hs => exact rfl); (case hq => exact rfl); (case h1 => exact rfl)) | ((with_reducible apply At.storeW (f := cells) (x' := (W[a + i]!))); (case hx => exact rfl); (case hy => exact rfl); (case hv => exact rfl); (case hp => exact (by repeat constructor)); (case hr => exact rfl); (case hf => exact inferInstance); (case hk => exact zom); (case hs => exact rfl); (case hq => exact rfl); (case h1 => exact rfl)) | (refine zsp ?_ ?_ <;> (intro hc; (try simp only [zhcs, reduceCtorEq] at hc); (try (exfalso; first | omega | contradiction | omega | exact absurd rfl hc | exact absurd (by decide) hc))))))
    all_goals ((with_reducible refine At.reachk ((⟨i + 1, (W.set (a + i) (W[b + i]!)).set (b + i) (W[a + i]!)⟩ : NS)) ?_ ?_ ?_ ?_); exact zsubs; exact zml; exact zente; exact ⟨⟨h, hL, hP2, hQ⟩, by dsimp only; omega⟩)
  · have e : i = k := by omega
    subst e
    (repeat' (first | refine zss ?_ | refine zsO ?_ | (refine zsp ?_ ?_ <;> (intro hc; (try simp only [zhcs, reduceCtorEq] at hc); (try (exfalso; first | omega | contradiction | omega | exact absurd rfl hc | exact absurd (by decide) hc))))))
    all_goals ((first | (with_reducible apply At.retB0 (B := [oS p c W])) | (with_reducible apply At.retR0 (B := [oS p c W]))); exact rfl; exact zml; exact zkp; exact ⟨rfl, rfl, _, ⟨h2, hP, hW⟩, rfl⟩)
structure RoS where
  (i j : Nat) (L : List Slot)
theorem rotR {m : Mem} (p : Option Addr) (c a k b n : Nat) (l : List Slot) (hn : l.length = n) (h1 : a < k) (h2 : k < b) (hb : b ≤ n) (hl : n ≤ 1000000) :
    Ct Tryz.prog 230 #[.slice p n c, .int .i64 (a : Int), .int .i64 (k : Int), .int .i64 (b : Int), fnS] m [oS p c l] (fun v m' B => PostR p c (fun L => L.length = n ∧ L.Perm l ∧ ∀ q, L[q]! = rot a k b (fun q => l[q]!) q) v m m' B) := by
  have wi : IntKind.wrap .i64 ((k : Int) - (a : Int)) = ((k - a : Nat) : Int) := by rw [show (k : Int) - (a : Int) = ((k - a : Nat) : Int) by omega]; exact IntWalk.i64_in _ (by omega)
  have wj : IntKind.wrap .i64 ((b : Int) - (k : Int)) = ((b - k : Nat) : Int) := by rw [show (b : Int) - (k : Int) = ((b - k : Nat) : Int) by omega]; exact IntWalk.i64_in _ (by omega)
  refine Ct.enterV (by rfl) Tryz.func230 rfl Tryz.ntmps230 rfl (fun w0 Rest => ?_)
  (repeat' (first | refine zss ?_ | ((first | (with_reducible first | apply At.val | apply AtQ.val)); (first | exact pr_sub (by rfl) (by rfl) wi | exact pr_sub (by rfl) (by rfl) wj); exact rfl) | refine zsO ?_ | (refine zsp ?_ ?_ <;> (intro hc; (try simp only [zhcs, reduceCtorEq] at hc); (try (exfalso; first | contradiction | omega | exact absurd rfl hc | exact absurd (by decide) hc))))))
  (refine At.loopk (σ := RoS) [0, 2, 4] (fun s F0 => (10, .int .i64 (s.i : Int)) :: (11, .int .i64 (s.j : Int)) :: F0) (fun s => m) (fun s => oS p c s.L :: Rest) (fun s => 1 ≤ s.i ∧ s.i ≤ k ∧ 1 ≤ s.j ∧ k + s.j ≤ n ∧ s.L.length = n ∧ s.L.Perm l ∧ ∀ q, rot (k - s.i) k (k + s.j) (fun q => s.L[q]!) q = rot a k b (fun q => l[q]!) q) (fun s => s.i + s.j) ⟨k - a, b - k, l⟩ (by rfl) ?_ zsubs zml zente ?_)
  · exact ⟨by show 1 ≤ k - a; omega, by show k - a ≤ k; omega, by show 1 ≤ b - k; omega, by show k + (b - k) ≤ n; omega, hn, List.Perm.refl _, fun q => by dsimp only; rw [show k - (k - a) = a by omega, show k + (b - k) = b by omega]⟩
  rintro ⟨i, j, W⟩ ⟨g1, g2, g3, g4, g5, gP, gR⟩
  dsimp only at g1 g2 g3 g4 g5 gP gR ⊢
  have w1 : IntKind.wrap .i64 ((k : Int) - (i : Int)) = ((k - i : Nat) : Int) := by rw [show (k : Int) - (i : Int) = ((k - i : Nat) : Int) by omega]; exact IntWalk.i64_in _ (by omega)
  by_cases e : i = j
  · have s1 := fun (m : Mem) => swapR (m := m) p c (k - i) k i n W g5 (by omega) (by omega) hl
    have fin : ∀ W2 : List Slot, (W2.length = n ∧ W2.Perm W ∧ ∀ q, W2[q]! = sw (k - i) k i (fun q => W[q]!) q) → W2.length = n ∧ W2.Perm l ∧ ∀ q, W2[q]! = rot a k b (fun q => l[q]!) q := fun W2 ⟨f1, f2, f3⟩ => ⟨f1, f2.trans gP, fun q => by rw [f3, ← gR, ← e, rot_end _ g2]⟩
    clear gR gP
    (repeat' (first | refine zss ?_ | ((first | (with_reducible first | apply At.val | apply AtQ.val)); (exact pr_sub (by rfl) (by rfl) w1); exact rfl) | refine zsO ?_ | ((with_reducible first | apply At.c1 | apply At.c0); exact rfl; exact rfl; exact s1 _; exact ztk; kernel_rfl; rintro v' m' B' hm' ⟨rfl, rfl, W2, hW2, rfl⟩; skip; (try (have hq0 : hm' = Mem.le_refl _ := rfl; clear hq0 hm'))) | (refine zsp ?_ ?_ <;> (intro hc; (try simp only [zhcs, reduceCtorEq] at hc); (try (exfalso; first | omega | contradiction | omega | exact absurd rfl hc | exact absurd (by decide) hc))))))
    all_goals ((first | (with_reducible apply At.retB0 (B := [oS p c W2])) | (with_reducible apply At.retR0 (B := [oS p c W2]))); exact rfl; exact zml; exact zkp; exact ⟨rfl, rfl, _, fin W2 hW2, rfl⟩)
  by_cases e2 : j < i
  · have s1 := fun (m : Mem) => swapR (m := m) p c (k - i) k j n W g5 (by omega) (by omega) hl
    have w2 : IntKind.wrap .i64 ((i : Int) - (j : Int)) = ((i - j : Nat) : Int) := by rw [show (i : Int) - (j : Int) = ((i - j : Nat) : Int) by omega]; exact IntWalk.i64_in _ (by omega)
    have fin : ∀ W2 : List Slot, (W2.length = n ∧ W2.Perm W ∧ ∀ q, W2[q]! = sw (k - i) k j (fun q => W[q]!) q) → W2.Perm l ∧ ∀ q, rot (k - (i - j)) k (k + j) (fun q => W2[q]!) q = rot a k b (fun q => l[q]!) q := fun W2 ⟨f1, f2, f3⟩ => ⟨f2.trans gP, fun q => by rw [show (fun q => W2[q]!) = sw (k - i) k j (fun q => W[q]!) from funext f3, rot_left _ g2 e2, gR]⟩
    clear gR gP
    (repeat' (first | refine zss ?_ | ((first | (with_reducible first | apply At.val | apply AtQ.val)); (first | exact pr_sub (by rfl) (by rfl) w1 | exact pr_sub (by rfl) (by rfl) w2); exact rfl) | refine zsO ?_ | ((with_reducible first | apply At.c1 | apply At.c0); exact rfl; exact rfl; exact s1 _; exact ztk; kernel_rfl; rintro v' m' B' hm' ⟨rfl, rfl, W2, hW2, rfl⟩; skip; (try (have hq0 : hm' = Mem.le_refl _ := rfl; clear hq0 hm'))) | (refine zsp ?_ ?_ <;> (intro hc; (try simp only [zhcs, reduceCtorEq] at hc); (try (exfalso; first | omega | contradiction | omega | exact absurd rfl hc | exact absurd (by decide) hc))))))
    all_goals ((with_reducible refine At.reachk ((⟨i - j, j, W2⟩ : RoS)) ?_ ?_ ?_ ?_); exact zsubs; exact zml; exact zente; exact ⟨⟨by show 1 ≤ i - j; omega, by show i - j ≤ k; omega, g3, g4, hW2.1, fin W2 hW2⟩, by show i - j + j < i + j; omega⟩)
  · have s1 := fun (m : Mem) => swapR (m := m) p c (k - i) (k + j - i) i n W g5 (by omega) (by omega) hl
    have w2 : IntKind.wrap .i64 ((j : Int) - (i : Int)) = ((j - i : Nat) : Int) := by rw [show (j : Int) - (i : Int) = ((j - i : Nat) : Int) by omega]; exact IntWalk.i64_in _ (by omega)
    have w3 : IntKind.wrap .i64 ((k : Int) + (j : Int)) = ((k + j : Nat) : Int) := by rw [← Int.natCast_add]; exact IntWalk.i64_in _ (by omega)
    have w4 : IntKind.wrap .i64 (((k + j : Nat) : Int) - (i : Int)) = ((k + j - i : Nat) : Int) := by rw [show ((k + j : Nat) : Int) - (i : Int) = ((k + j - i : Nat) : Int) by omega]; exact IntWalk.i64_in _ (by omega)
    have fin : ∀ W2 : List Slot, (W2.length = n ∧ W2.Perm W ∧ ∀ q, W2[q]! = sw (k - i) (k + j - i) i (fun q => W[q]!) q) → W2.Perm l ∧ ∀ q, rot (k - i) k (k + (j - i)) (fun q => W2[q]!) q = rot a k b (fun q => l[q]!) q := fun W2 ⟨f1, f2, f3⟩ => ⟨f2.trans gP, fun q => by rw [show (fun q => W2[q]!) = sw (k - i) (k + j - i) i (fun q => W[q]!) from funext f3, rot_right _ g2 (by omega), gR]⟩
    clear gR gP
    (repeat' (first | refine zss ?_ | ((first | (with_reducible first | apply At.val | apply AtQ.val)); (first | exact pr_sub (by rfl) (by rfl) w1 | exact pr_sub (by rfl) (by rfl) w2 | exact pr_add (by rfl) (by rfl) w3 | exact pr_sub (by rfl) (by rfl) w4); exact rfl) | refine zsO ?_ | ((with_reducible first | apply At.c1 | apply At.c0); exact rfl; exact rfl; exact s1 _; exact ztk; kernel_rfl; rintro v' m' B' hm' ⟨rfl, rfl, W2, hW2, rfl⟩; skip; (try (have hq0 : hm' = Mem.le_refl _ := rfl; clear hq0 hm'))) | (refine zsp ?_ ?_ <;> (intro hc; (try simp only [zhcs, reduceCtorEq] at hc); (try (exfalso; first | omega | contradiction | omega | exact absurd rfl hc | exact absurd (by decide) hc))))))
    all_goals ((with_reducible refine At.reachk ((⟨i, j - i, W2⟩ : RoS)) ?_ ?_ ?_ ?_); exact zsubs; exact zml; exact zente; exact ⟨⟨g1, g2, by show 1 ≤ j - i; omega, by show k + (j - i) ≤ n; omega, hW2.1, fin W2 hW2⟩, by show i + (j - i) < i + j; omega⟩)
end So
end Go.Proofs.YtkoijdmlehkhbaaGreatDoor
namespace Go.Proofs.YtkoijdmlehkhbaaGreatDoor
open Go Go.J
attribute [local irreducible] At AtQ AtM AtM1 PR Ct Pu Rd Res.blk Res.own Res.ex RVs RV
namespace So
/-- some row that is such -/
def N (p : Option Addr) (c : Nat) (Φ : List Slot → Prop) : Res := .ex Φ (fun l => [oS p c l])
theorem N.close {p : Option Addr} {c : Nat} {Φ : List Slot → Prop} {l : List Slot} (h : Φ l) (Rest : List Res) : Ent (oS p c l :: Rest) (N p c Φ :: Rest) := Ent.closex (A := fun l : List Slot => [oS p c l]) l h
theorem N.mono {p : Option Addr} {c : Nat} {Φ Ψ : List Slot → Prop} (h : ∀ l, Φ l → Ψ l) (Rest : List Res) : Ent (N p c Φ :: Rest) (N p c Ψ :: Rest) := fun w s hs => by
  obtain ⟨s1, s2, h1, h2, hd, he⟩ := hs
  refine ⟨s, ⟨s1, s2, ?_, h2, hd, he⟩, fun _ x => x⟩
  unfold N Res.ex at h1 ⊢
  obtain ⟨x, hI, h3⟩ := h1
  exact ⟨x, h x hI, h3⟩
theorem toN {m : Mem} {f : FuncId} {args : Array Value} {p : Option Addr} {c : Nat} {Φ Ψ : List Slot → Prop} (h : ∀ l : List Slot, Φ l → Ct Tryz.prog f args m [oS p c l] (fun v m' B => PostR p c Ψ v m m' B)) :
    Ct Tryz.prog f args m [N p c Φ] (fun v m' B => v = .tuple #[] ∧ m = m' ∧ B = [N p c Ψ]) :=
  Ct.openx fun l hl => Ct.conv (h l hl) fun v m' B _ ⟨h1, h2, l2, hl2, h3⟩ => ⟨_, ⟨h1, h2, rfl⟩, fun Rest => by subst h3; exact N.close hl2 Rest⟩
theorem N.open {k : Nat} {w0 : World} {F : Fr} {m : Mem} {Rs0 Rs : List Res} {K : Go.Act → World → Prop} {p : Option Addr} {c : Nat} {Φ : List Slot → Prop} (hp : Pick Rs0 (N p c Φ) Rs) (h : ∀ l : List Slot, Φ l → At k w0 F m (oS p c l :: Rs) K) : At k w0 F m Rs0 K :=
  At.openx (I := Φ) (A := fun l => [oS p c l]) hp h
theorem postR_mono {p : Option Addr} {c : Nat} {Φ Ψ : List Slot → Prop} {m : Mem} {f : FuncId} {args : Array Value} {A : List Res} (h : ∀ l, Φ l → Ψ l) (k : Ct Tryz.prog f args m A (fun v m' B => PostR p c Φ v m m' B)) : Ct Tryz.prog f args m A (fun v m' B => PostR p c Ψ v m m' B) :=
  Ct.mono k fun v m' B _ ⟨h1, h2, l2, h3, h4⟩ => ⟨h1, h2, l2, h _ h3, h4⟩
structure BSt where
  (i j : Nat)
theorem half (x y : Nat) (d : Nat) (hd : (x + y) / 2 = d) (h : x + y ≤ 100000000) : IntKind.wrap .i64 ((x : Int) + (y : Int)) = ((x + y : Nat) : Int) ∧ IntKind.wrap .u64 ((x + y : Nat) : Int) = ((x + y : Nat) : Int) ∧ ((x + y : Nat) : Int) / 2 ^ (1 : Int).toNat = (d : Int) ∧ IntKind.wrap .i64 (d : Int) = (d : Int) ∧ IntKind.wrap .i64 ((d : Int) + 1) = ((d + 1 : Nat) : Int) ∧ IntKind.wrap .u64 (d : Int) = (d : Int) := by
  refine ⟨by rw [← Int.natCast_add]; exact IntWalk.i64_in _ (by omega), IntWalk.u64_in _ (by omega), by rw [← hd]; simp, IntWalk.i64_in _ (by omega), by rw [show (d : Int) + 1 = ((d + 1 : Nat) : Int) by omega]; exact IntWalk.i64_in _ (by omega), IntWalk.u64_in _ (by omega)⟩
def P1 (i k e : Nat) (l L : List Slot) : Prop := Mv i e l L ∧ ∀ q, L[q]! = rot i k e (fun q => l[q]!) q
def P2 (a i x k e : Nat) (l L : List Slot) : Prop := ∃ L1, P1 i k e l L1 ∧ Mg Slot.w a i x L1 L
set_option maxHeartbeats 8000000 in
theorem symG {m : Mem} (p : Option Addr) (c n d a k b : Nat) (l : List Slot) (hl : n ≤ 1000000) (hd : b - a ≤ d + 1) (hn : l.length = n) (h1 : a < k) (h2 : k < b) (hb : b ≤ n) (c1 : ¬ k - a = 1) (c2 : ¬ b - k = 1)
    (wi : IntKind.wrap .i64 ((k : Int) - (a : Int)) = ((k - a : Nat) : Int)) (wj : IntKind.wrap .i64 ((b : Int) - (k : Int)) = ((b - k : Nat) : Int))
    (ih : ∀ {m : Mem} (a k b : Nat) (l : List Slot), b - a ≤ d → l.length = n → a < k → k < b → b ≤ n →
      Ct Tryz.prog 229 #[.slice p n c, .int .i64 (a : Int), .int .i64 (k : Int), .int .i64 (b : Int), fnS] m [oS p c l] (fun v m' B => PostR p c (Mg Slot.w a k b l) v m m' B)) :
    Ct Tryz.prog 229 #[.slice p n c, .int .i64 (a : Int), .int .i64 (k : Int), .int .i64 (b : Int), fnS] m [oS p c l] (fun v m' B => PostR p c (Mg Slot.w a k b l) v m m' B) := by
  obtain ⟨x, hx⟩ : ∃ x, (a + b) / 2 = x := ⟨_, rfl⟩
  obtain ⟨u1, u2, u3, u4, u5, u6⟩ := half a b x hx (by omega)
  have v1 : IntKind.wrap .i64 ((x : Int) + (k : Int)) = ((x + k : Nat) : Int) := by rw [← Int.natCast_add]; exact IntWalk.i64_in _ (by omega)
  have v3 : IntKind.wrap .i64 (((x + k : Nat) : Int) - 1) = ((x + k - 1 : Nat) : Int) := by rw [show ((x + k : Nat) : Int) - 1 = ((x + k - 1 : Nat) : Int) by omega]; exact IntWalk.i64_in _ (by omega)
  have hst : x < k → b ≤ x + k := by omega
  have v2 : x < k → IntKind.wrap .i64 (((x + k : Nat) : Int) - (b : Int)) = ((x + k - b : Nat) : Int) := fun hh => by rw [show ((x + k : Nat) : Int) - (b : Int) = ((x + k - b : Nat) : Int) by have := hst hh; omega]; exact IntWalk.i64_in _ (by omega)
  have r1 := fun {m : Mem} (i e : Nat) (g1 : i < k) (g2 : k < e) (g3 : e ≤ n) => toN (m := m) (p := p) (c := c) (Φ := fun L => L = l) (Ψ := P1 i k e l) fun L hL => by
    subst hL
    exact postR_mono (fun L hL => ⟨Mv.rot (Nat.le_of_lt g1) (Nat.le_of_lt g2) (hL.1.trans hn.symm) hL.2.1 hL.2.2, hL.2.2⟩) (rotR p c i k e n L hn g1 g2 g3 hl)
  have r2 := fun {m : Mem} (i e : Nat) (g0 : x - a ≤ d) (g1 : a < i) (g2 : i < x) (g3 : x ≤ n) => toN (m := m) (p := p) (c := c) (Φ := P1 i k e l) (Ψ := P2 a i x k e l) fun L hL => postR_mono (fun L2 h2 => ⟨L, hL, h2⟩) (ih a i x L g0 (hL.1.len.trans hn) g1 g2 g3)
  have r3 := fun {m : Mem} (i e : Nat) (g0 : b - x ≤ d) (g1 : x < e) (g2 : e < b) (g3 : b ≤ n) => toN (m := m) (p := p) (c := c) (Φ := P2 a i x k e l) (Ψ := fun L => ∃ L2, P2 a i x k e l L2 ∧ Mg Slot.w x e b L2 L) fun L hL => postR_mono (fun L2 h2 => ⟨L, hL, h2⟩) (ih x e b L g0 (by obtain ⟨L1, q1, q2⟩ := hL; exact (q2.1.len.trans q1.1.len).trans hn) g1 g2 g3)
  refine Ct.enterV (by rfl) Tryz.func229 rfl Tryz.ntmps229 rfl (fun w0 Rest => ?_)
  (repeat' (first | ((refine At.cutk (t := 140) (σ := BSt) [0, 1, 2, 3, 4, 18, 19] (fun s F0 => (20, .int .i64 (s.i : Int)) :: (21, .int .i64 (s.j : Int)) :: F0) (fun s => m) (fun s => oS p c l :: Rest) (fun s => (a ≤ s.i ∧ s.i ≤ s.j ∧ x + k ≤ b + s.i ∧ s.j ≤ k ∧ s.j ≤ x) ∧ (a < s.i → b ≤ x + k - s.i) ∧ (s.j = k ∨ s.j = x)) (by rfl) (by rfl) ?_ ?_); (refine ⟨?_, ?_⟩ <;> (intro hc; (try simp only [zhcs, reduceCtorEq] at hc); (try (exfalso; first | contradiction | omega | exact absurd rfl hc | exact absurd (by decide) hc))))) | refine zss ?_ | ((first | (with_reducible first | apply At.val | apply AtQ.val)); (first | exact pr_sub (by rfl) (by rfl) wi | exact pr_sub (by rfl) (by rfl) wj | exact pr_add (by rfl) (by rfl) u1 | exact pr_conv ⟨_, rfl⟩ (by rfl) (by rfl) u2 | exact pr_shrv (by rfl) (by rfl) (by omega) (by decide) u3 | exact pr_conv ⟨_, rfl⟩ (by rfl) (by rfl) u4 | exact pr_add (by rfl) (by rfl) v1); exact rfl) | refine zsO ?_ | (refine zsp ?_ ?_ <;> (intro hc; (try simp only [zhcs, reduceCtorEq] at hc); (try (exfalso; first | omega | contradiction | omega | exact absurd rfl hc | exact absurd (by decide) hc))))))
  · rename_i hc
    have v2 := v2 (by omega)
    (repeat' (first | refine zss ?_ | ((first | (with_reducible first | apply At.val | apply AtQ.val)); (exact pr_sub (by rfl) (by rfl) v2); exact rfl) | refine zs0 ?_ | (refine zsp ?_ ?_ <;> (intro hc; (try simp only [zhcs, reduceCtorEq] at hc); (try (exfalso; first | contradiction | omega | exact absurd rfl hc | exact absurd (by decide) hc))))))
    ((with_reducible refine At.reachk ((⟨x + k - b, x⟩ : BSt)) ?_ ?_ ?_ ?_); exact zsubs; exact zml; exact zente; exact ⟨⟨by dsimp only; omega, by dsimp only; omega, by dsimp only; omega, by dsimp only; omega, Nat.le_refl _⟩, by dsimp only; omega, .inr rfl⟩)
  · rename_i hc
    (repeat' (first | refine zss ?_ | refine zsO ?_ | (refine zsp ?_ ?_ <;> (intro hc; (try simp only [zhcs, reduceCtorEq] at hc); (try (exfalso; first | contradiction | omega | exact absurd rfl hc | exact absurd (by decide) hc))))))
    ((with_reducible refine At.reachk ((⟨a, k⟩ : BSt)) ?_ ?_ ?_ ?_); exact zsubs; exact zml; exact zente; exact ⟨⟨Nat.le_refl _, by dsimp only; omega, by dsimp only; omega, Nat.le_refl _, by dsimp only; omega⟩, fun h => absurd h (Nat.lt_irrefl _), .inl rfl⟩)
  have hxa : a < x ∧ x < b := by omega
  clear u1 u2 u3 u4 u5 u6 v1 v2 wi wj ih hst hx
  rintro ⟨A, R⟩ ⟨⟨g1, g2, g3, g4, g5⟩, gA, gR⟩
  dsimp only at g1 g2 g3 g4 g5 gA gR ⊢
  have w3 : IntKind.wrap .i64 (((x + k : Nat) : Int) - 1) = ((x + k - 1 : Nat) : Int) := v3
  clear v3
  (repeat' (first | refine zss ?_ | ((first | (with_reducible first | apply At.val | apply AtQ.val)); (exact pr_sub (by rfl) (by rfl) w3); exact rfl) | refine zsO ?_ | (refine zsp ?_ ?_ <;> (intro hc; (try simp only [zhcs, reduceCtorEq] at hc); (try (exfalso; first | contradiction | omega | exact absurd rfl hc | exact absurd (by decide) hc))))))
  (refine At.loopk (σ := BSt) [0, 1, 2, 3, 4, 18, 19, 22] (fun s F0 => (20, .int .i64 (s.i : Int)) :: (21, .int .i64 (s.j : Int)) :: F0) (fun s => m) (fun s => oS p c l :: Rest) (fun s => (A ≤ s.i ∧ s.i ≤ s.j ∧ s.j ≤ R) ∧ (A < s.i → l[s.i - 1]!.w ≤ l[x + k - s.i]!.w) ∧ (s.j < R → l[x + k - 1 - s.j]!.w < l[s.j]!.w)) (fun s => s.j - s.i) ⟨A, R⟩ (by rfl) ?_ zsubs zml zente ?_)
  · exact ⟨⟨Nat.le_refl _, g2, Nat.le_refl _⟩, fun h => absurd h (Nat.lt_irrefl _), fun h => absurd h (Nat.lt_irrefl _)⟩
  rintro ⟨i, j⟩ ⟨⟨f1, f2, f3⟩, fA, fR⟩
  dsimp only at f1 f2 f3 fA fR ⊢
  by_cases e : i < j
  · obtain ⟨y, hy⟩ : ∃ y, (i + j) / 2 = y := ⟨_, rfl⟩
    obtain ⟨t1, t2, t3, t4, t5, t6⟩ := half i j y hy (by omega)
    have t7 : IntKind.wrap .i64 (((x + k - 1 : Nat) : Int) - (y : Int)) = ((x + k - 1 - y : Nat) : Int) := by rw [show ((x + k - 1 : Nat) : Int) - (y : Int) = ((x + k - 1 - y : Nat) : Int) by omega]; exact IntWalk.i64_in _ (by omega)
    obtain ⟨z, hz⟩ : ∃ z, x + k - 1 - y = z := ⟨_, rfl⟩
    have hz2 : x + k - (y + 1) = z := by omega
    have hcm := fun (m : Mem) => sortA (m := m) (l[z]!) (l[y]!)
    by_cases e2 : cmpI l[z]!.w l[y]!.w < 0
    · have q1 : ((A ≤ i ∧ i ≤ y ∧ y ≤ R) ∧ (A < i → l[i - 1]!.w ≤ l[x + k - i]!.w) ∧ (y < R → l[x + k - 1 - y]!.w < l[y]!.w)) ∧ y - i < j - i := ⟨⟨⟨by omega, by omega, by omega⟩, fA, fun _ => by rw [hz]; exact cmpI_lt.1 e2⟩, by omega⟩
      rw [hz] at t7
      have hz' : z < n := by omega
      have hy' : y < n := by omega
      clear hy g1 g2 g3 g4 g5 gA gR f1 f2 f3 fA fR w3 r1 r2 r3 hz hz2 h1 h2 hb c1 c2 hd hl
      generalize cmpI l[z]!.w l[y]!.w = r at hcm e2
      (repeat' (first | ((with_reducible apply At.mixed (id := 5) 11 (.q 0 (.q 1 (.q 2 (.q 3 (.q 4 (.q 5 (.q 6 (.q 7 (.q 8 (.x 9 (.q 10 .done)))))))))))); exact rfl; kernel_rfl; kernel_rfl; kernel_rfl) | ((with_reducible apply At.mixed (id := 11) 18 (.q 0 (.q 1 (.q 2 (.q 3 (.q 4 (.q 5 (.q 6 (.q 7 (.q 8 (.q 9 (.q 10 (.q 11 (.q 12 (.q 13 (.q 14 (.x 15 (.q 16 (.x 17 .done))))))))))))))))))); exact rfl; kernel_rfl; kernel_rfl; kernel_rfl) | ((with_reducible apply At.mixed (id := 17) 12 (.q 0 (.q 1 (.q 2 (.q 3 (.q 4 (.q 5 (.q 6 (.q 7 (.q 8 (.x 9 (.q 10 (.q 11 .done))))))))))))); exact rfl; kernel_rfl; kernel_rfl; kernel_rfl) | ((with_reducible apply At.mixed (id := 23) 18 (.q 0 (.q 1 (.q 2 (.q 3 (.q 4 (.q 5 (.q 6 (.q 7 (.q 8 (.q 9 (.q 10 (.q 11 (.q 12 (.q 13 (.q 14 (.x 15 (.q 16 (.x 17 .done))))))))))))))))))); exact rfl; kernel_rfl; kernel_rfl; kernel_rfl) | ((with_reducible apply At.mixed (id := 35) 14 (.q 0 (.q 1 (.q 2 (.q 3 (.q 4 (.q 5 (.q 6 (.q 7 (.q 8 (.q 9 (.q 10 (.x 11 (.q 12 (.q 13 .done))))))))))))))); exact rfl; kernel_rfl; kernel_rfl; kernel_rfl) | refine zsx ?_ | refine zss ?_ | ((with_reducible apply AtM.bo); exact rfl; exact rfl; exact rfl) | ((first | (with_reducible first | apply At.val | apply AtQ.val) | ((with_reducible first | apply AtM1.valz | apply AtM1.val); exact rfl) | ((with_reducible apply AtM1.val); exact rfl)); (first | exact pr_add (by rfl) (by rfl) t1 | exact pr_add (by rfl) (by rfl) t5 | exact pr_conv ⟨_, rfl⟩ (by rfl) (by rfl) t2 | exact pr_shrv (by rfl) (by rfl) (by omega) (by decide) t3 | exact pr_conv ⟨_, rfl⟩ (by rfl) (by rfl) t4 | exact pr_sub (by rfl) (by rfl) t7); exact rfl) | refine zsO ?_ | refine zxO ?_ | ((with_reducible apply At.callf); exact rfl; kernel_rfl; exact rfl; exact rfl; exact hcm _; exact ztk; rintro v' m' B' hm' ⟨rfl, rfl, rfl⟩; skip) | (refine zsp ?_ ?_ <;> (intro hc; (try simp only [zhcs, reduceCtorEq] at hc); (try (exfalso; first | omega | contradiction | omega | exact absurd rfl hc | exact absurd (by decide) hc))))))
      all_goals ((with_reducible refine At.reachk ((⟨i, y⟩ : BSt)) ?_ ?_ ?_ ?_); exact zsubs; exact zml; exact zente; exact q1)
    · have q2 : ((A ≤ y + 1 ∧ y + 1 ≤ j ∧ j ≤ R) ∧ (A < y + 1 → l[y + 1 - 1]!.w ≤ l[x + k - (y + 1)]!.w) ∧ (j < R → l[x + k - 1 - j]!.w < l[j]!.w)) ∧ j - (y + 1) < j - i := ⟨⟨⟨by omega, by omega, by omega⟩, fun _ => by
        rw [hz2, Nat.add_sub_cancel]
        have : ¬ l[z]!.w < l[y]!.w := fun h => e2 (cmpI_lt.2 h)
        omega, fR⟩, by omega⟩
      rw [hz] at t7
      have hz' : z < n := by omega
      have hy' : y < n := by omega
      clear hy g1 g2 g3 g4 g5 gA gR f1 f2 f3 fA fR w3 r1 r2 r3 hz hz2 h1 h2 hb c1 c2 hd hl
      generalize cmpI l[z]!.w l[y]!.w = r at hcm e2
      (repeat' (first | ((with_reducible apply At.mixed (id := 5) 11 (.q 0 (.q 1 (.q 2 (.q 3 (.q 4 (.q 5 (.q 6 (.q 7 (.q 8 (.x 9 (.q 10 .done)))))))))))); exact rfl; kernel_rfl; kernel_rfl; kernel_rfl) | ((with_reducible apply At.mixed (id := 11) 18 (.q 0 (.q 1 (.q 2 (.q 3 (.q 4 (.q 5 (.q 6 (.q 7 (.q 8 (.q 9 (.q 10 (.q 11 (.q 12 (.q 13 (.q 14 (.x 15 (.q 16 (.x 17 .done))))))))))))))))))); exact rfl; kernel_rfl; kernel_rfl; kernel_rfl) | ((with_reducible apply At.mixed (id := 17) 12 (.q 0 (.q 1 (.q 2 (.q 3 (.q 4 (.q 5 (.q 6 (.q 7 (.q 8 (.x 9 (.q 10 (.q 11 .done))))))))))))); exact rfl; kernel_rfl; kernel_rfl; kernel_rfl) | ((with_reducible apply At.mixed (id := 23) 18 (.q 0 (.q 1 (.q 2 (.q 3 (.q 4 (.q 5 (.q 6 (.q 7 (.q 8 (.q 9 (.q 10 (.q 11 (.q 12 (.q 13 (.q 14 (.x 15 (.q 16 (.x 17 .done))))))))))))))))))); exact rfl; kernel_rfl; kernel_rfl; kernel_rfl) | ((with_reducible apply At.mixed (id := 35) 14 (.q 0 (.q 1 (.q 2 (.q 3 (.q 4 (.q 5 (.q 6 (.q 7 (.q 8 (.q 9 (.q 10 (.x 11 (.q 12 (.q 13 .done))))))))))))))); exact rfl; kernel_rfl; kernel_rfl; kernel_rfl) | refine zsx ?_ | refine zss ?_ | ((with_reducible apply AtM.bo); exact rfl; exact rfl; exact rfl) | ((first | (with_reducible first | apply At.val | apply AtQ.val) | ((with_reducible first | apply AtM1.valz | apply AtM1.val); exact rfl) | ((with_reducible apply AtM1.val); exact rfl)); (first | exact pr_add (by rfl) (by rfl) t1 | exact pr_add (by rfl) (by rfl) t5 | exact pr_conv ⟨_, rfl⟩ (by rfl) (by rfl) t2 | exact pr_shrv (by rfl) (by rfl) (by omega) (by decide) t3 | exact pr_conv ⟨_, rfl⟩ (by rfl) (by rfl) t4 | exact pr_sub (by rfl) (by rfl) t7); exact rfl) | refine zsO ?_ | refine zxO ?_ | ((with_reducible apply At.callf); exact rfl; kernel_rfl; exact rfl; exact rfl; exact hcm _; exact ztk; rintro v' m' B' hm' ⟨rfl, rfl, rfl⟩; skip) | (refine zsp ?_ ?_ <;> (intro hc; (try simp only [zhcs, reduceCtorEq] at hc); (try (exfalso; first | omega | contradiction | omega | exact absurd rfl hc | exact absurd (by decide) hc))))))
      all_goals ((with_reducible refine At.reachk ((⟨y + 1, j⟩ : BSt)) ?_ ?_ ?_ ?_); exact zsubs; exact zml; exact zente; exact q2)
  · have eij : i = j := by omega
    subst eij
    have w9 : IntKind.wrap .i64 (((x + k : Nat) : Int) - (i : Int)) = ((x + k - i : Nat) : Int) := by rw [show ((x + k : Nat) : Int) - (i : Int) = ((x + k - i : Nat) : Int) by omega]; exact IntWalk.i64_in _ (by omega)
    obtain ⟨E, hE⟩ : ∃ E, x + k - i = E := ⟨_, rfl⟩
    have fin : ∀ L3, (∃ L2, P2 a i x k E l L2 ∧ Mg Slot.w x E b L2 L3) → Mg Slot.w a k b l L3 := fun L3 ⟨L2, ⟨L1, q1, q2⟩, q3⟩ =>
      sym_fin (s := i) (e := E) hxa.1 hxa.2 (by omega) (by omega) (by omega) (by omega) (by omega) (by omega)
        (fun s1 s2 => by
          by_cases hA : A < i
          · have := fA hA; rw [hE] at this; exact this
          · have := gA (by omega); omega)
        (fun s1 s2 => by
          by_cases hR : i < R
          · have := fR hR; rw [show x + k - 1 - i = E - 1 by omega] at this; omega
          · omega)
        q1.1 q1.2 q2 q3
    have z1 : ¬ (i < k ∧ k < E) → ∀ L, L = l → P1 i k E l L := fun h L hL => by
      subst hL
      exact ⟨Mv.refl _ _ _, fun q => (rot_same _ (by omega) (by omega) (by omega) q).symm⟩
    have z2 : ¬ (a < i ∧ i < x) → ∀ L, P1 i k E l L → P2 a i x k E l L := fun h L hL => ⟨L, hL, Mg.none _ L (by omega)⟩
    have z3 : ¬ (x < E ∧ E < b) → ∀ L, P2 a i x k E l L → ∃ L2, P2 a i x k E l L2 ∧ Mg Slot.w x E b L2 L := fun h L hL => ⟨L, hL, Mg.none _ L (by omega)⟩
    rw [hE] at w9
    have k1 := fun {m : Mem} (q1 : i < k) (q2 : k < E) => r1 (m := m) i E q1 q2 (by omega)
    have k2 := fun {m : Mem} (q1 : a < i) (q2 : i < x) => r2 (m := m) i E (by omega) q1 q2 (by omega)
    have k3 := fun {m : Mem} (q1 : x < E) (q2 : E < b) => r3 (m := m) i E (by omega) q1 q2 hb
    clear r1 r2 r3 g1 g2 g3 g4 g5 gA gR f1 f2 f3 fA fR w3 hE h1 h2 hb c1 c2 hd hl
    refine At.ent (N.close (Φ := fun L => L = l) rfl _) ?_
    generalize hF1 : P1 i k E l = F1 at *
    generalize hF2 : P2 a i x k E l = F2 at *
    clear hF1 hF2
    (repeat' (first | (refine At.cutp (id := 39) (i < k ∧ k < E) 185 [0, 1, 2, 3, 4, 18, 20, 24] (by rfl) ?_ ?_) | ((refine At.cutk (t := 185) (σ := Unit) [0, 1, 3, 4, 18, 20, 24] (fun s F0 => F0) (fun s => m) (fun s => N p c F1 :: Rest) (fun s => True) (by rfl) (by rfl) ?_ ?_); (refine ⟨?_, ?_⟩ <;> (intro hc; (try simp only [zhcs, reduceCtorEq] at hc); (try (exfalso; first | contradiction | omega | exact absurd rfl hc | exact absurd (by decide) hc))))) | refine zss ?_ | ((first | (with_reducible first | apply At.val | apply AtQ.val)); (exact pr_sub (by rfl) (by rfl) w9); exact rfl) | refine zs0 ?_ | ((with_reducible apply At.endp); exact rfl; exact zsubs; exact zml; exact zente; (simp only [decide_eq_true_eq, decide_eq_false_iff_not, Bool.not_eq_true', Bool.not_eq_false', Bool.false_eq_true, Bool.true_eq_false, false_iff, true_iff]; first | omega | (constructor <;> intros <;> omega))) | (refine zsp ?_ ?_ <;> (intro hc; (try simp only [zhcs, reduceCtorEq] at hc); (try (exfalso; first | contradiction | omega | exact absurd rfl hc | exact absurd (by decide) hc))))))
    · (repeat' (first | refine zss ?_ | refine zs0 ?_ | ((with_reducible first | apply At.c1 | apply At.c0); exact rfl; exact rfl; exact k1 (by omega) (by omega); exact ztk; kernel_rfl; rintro v' m' B' hm' ⟨rfl, rfl, rfl⟩; skip; (try (have hq0 : hm' = Mem.le_refl _ := rfl; clear hq0 hm'))) | (refine zsp ?_ ?_ <;> (intro hc; (try simp only [zhcs, reduceCtorEq] at hc); (try (exfalso; first | contradiction | omega | exact absurd rfl hc | exact absurd (by decide) hc))))))
      ((with_reducible refine At.reachk (()) ?_ ?_ ?_ ?_); exact zsubs; exact zml; exact zente; exact trivial)
    · refine At.ent (N.mono (z1 (by omega)) _) ?_
      (repeat' (first | refine zss ?_ | refine zsM ?_ | (refine zsp ?_ ?_ <;> (intro hc; (try simp only [zhcs, reduceCtorEq] at hc); (try (exfalso; first | contradiction | omega | exact absurd rfl hc | exact absurd (by decide) hc))))))
      ((with_reducible refine At.reachk (()) ?_ ?_ ?_ ?_); exact zsubs; exact zml; exact zente; exact trivial)
    rintro - -
    (repeat' (first | (refine At.cutp (id := 41) (a < i ∧ i < x) 199 [0, 1, 3, 4, 18, 20, 24] (by rfl) ?_ ?_) | ((refine At.cutk (t := 199) (σ := Unit) [0, 3, 4, 18, 24] (fun s F0 => F0) (fun s => m) (fun s => N p c F2 :: Rest) (fun s => True) (by rfl) (by rfl) ?_ ?_); (refine ⟨?_, ?_⟩ <;> (intro hc; (try simp only [zhcs, reduceCtorEq] at hc); (try (exfalso; first | contradiction | omega | exact absurd rfl hc | exact absurd (by decide) hc))))) | refine zss ?_ | refine zs0 ?_ | ((with_reducible apply At.endp); exact rfl; exact zsubs; exact zml; exact zente; (simp only [decide_eq_true_eq, decide_eq_false_iff_not, Bool.not_eq_true', Bool.not_eq_false', Bool.false_eq_true, Bool.true_eq_false, false_iff, true_iff]; first | omega | (constructor <;> intros <;> omega))) | (refine zsp ?_ ?_ <;> (intro hc; (try simp only [zhcs, reduceCtorEq] at hc); (try (exfalso; first | contradiction | omega | exact absurd rfl hc | exact absurd (by decide) hc))))))
    · (repeat' (first | refine zss ?_ | refine zs0 ?_ | ((with_reducible first | apply At.c1 | apply At.c0); exact rfl; exact rfl; exact k2 (by omega) (by omega); exact ztk; kernel_rfl; rintro v' m' B' hm' ⟨rfl, rfl, rfl⟩; skip; (try (have hq0 : hm' = Mem.le_refl _ := rfl; clear hq0 hm'))) | (refine zsp ?_ ?_ <;> (intro hc; (try simp only [zhcs, reduceCtorEq] at hc); (try (exfalso; first | contradiction | omega | exact absurd rfl hc | exact absurd (by decide) hc))))))
      ((with_reducible refine At.reachk (()) ?_ ?_ ?_ ?_); exact zsubs; exact zml; exact zente; exact trivial)
    · refine At.ent (N.mono (z2 (by omega)) _) ?_
      (repeat' (first | refine zss ?_ | refine zsM ?_ | (refine zsp ?_ ?_ <;> (intro hc; (try simp only [zhcs, reduceCtorEq] at hc); (try (exfalso; first | contradiction | omega | exact absurd rfl hc | exact absurd (by decide) hc))))))
      ((with_reducible refine At.reachk (()) ?_ ?_ ?_ ?_); exact zsubs; exact zml; exact zente; exact trivial)
    rintro - -
    (repeat' (first | (refine At.cutp (id := 43) (x < E ∧ E < b) 213 [0, 3, 4, 18, 24] (by rfl) ?_ ?_) | refine zss ?_ | refine zs0 ?_ | ((with_reducible apply At.endp); exact rfl; exact zsubs; exact zml; exact zente; (simp only [decide_eq_true_eq, decide_eq_false_iff_not, Bool.not_eq_true', Bool.not_eq_false', Bool.false_eq_true, Bool.true_eq_false, false_iff, true_iff]; first | omega | (constructor <;> intros <;> omega))) | ((with_reducible first | apply At.c1 | apply At.c0); exact rfl; exact rfl; exact k3 (by omega) (by omega); exact ztk; kernel_rfl; rintro v' m' B' hm' ⟨rfl, rfl, rfl⟩; skip; (try (have hq0 : hm' = Mem.le_refl _ := rfl; clear hq0 hm'))) | (refine zsp ?_ ?_ <;> (intro hc; (try simp only [zhcs, reduceCtorEq] at hc); (try (exfalso; first | contradiction | omega | exact absurd rfl hc | exact absurd (by decide) hc))))))
    · refine N.open (p := p) (c := c) (by repeat constructor) fun L hL => ?_
      ((first | (with_reducible apply At.retB0 (B := [oS p c L])) | (with_reducible apply At.retR0 (B := [oS p c L]))); exact rfl; exact zml; exact zkp; exact ⟨rfl, rfl, _, fin L hL, rfl⟩)
    · refine At.ent (N.mono (z3 (by omega)) _) ?_
      refine N.open (p := p) (c := c) (by repeat constructor) fun L hL => ?_
      ((first | (with_reducible apply At.retB0 (B := [oS p c L])) | (with_reducible apply At.retR0 (B := [oS p c L]))); exact rfl; exact zml; exact zkp; exact ⟨rfl, rfl, _, fin L hL, rfl⟩)
end So
end Go.Proofs.YtkoijdmlehkhbaaGreatDoor
